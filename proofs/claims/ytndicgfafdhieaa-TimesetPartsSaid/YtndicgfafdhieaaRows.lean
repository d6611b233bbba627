/-
  No cell of these rows narrows 'for every input' (looked for: loops, veiled, ifaces, maps, wideKeys, modest, calm, conditions, laid).
  DERIVED. THE GIVEN ROWS OF THIS SEAT. 4 by the template 'for every input the law returns true; each argument reads behind the call as it read before'; 0 by the template 'total and deterministic' (their statements: YtndicgfafdhieaaTotals.lean).
  GIVEN WITH THE SEED: the statements are not yours to turn. If you find one false, say at which input.
  Laid BY PROGRAM, IN A SANDBOX (cutbox-rows.mjs): the forced cells as the released guide's own fill.sh prints them over the translation ae21d2e858b199a7… (all of the seat's roots in one cut). By AI agents, Wed Nov 11 2026. No macro, syntax, notation, axiom, sorry.
-/
import Derived.Test.YtndicgfafdhieaaChecked
import GoSem.Claim
import GoSem.ClaimJoined
import GoSem.ClaimMapViews
import Derived.JoinedTies
import Derived.KernelRfl
namespace Go.Proofs.Ytndicgfafdhieaa
/- THE CELL 'sum', in the pinned program and in every row, IS THE sha256 OF THE DUMP (.gsa) THAT YtndicgfafdhieaaProg.lean LOADS. Nothing in Lean hashes anything: it is a label: what it is worth is what the hold of that sum in a sandbox is worth. -/
noncomputable def Try.pinned : Pinned := { name := "ytndicgfafdhieaa", sum := "ae21d2e858b199a7bbcffcb7e899b278829a579a08448918fdc9c875e643d967", checked := Try.checked }
namespace Rows
def none {H : Type} : Left H := { results := [], args := [] }

/-- 'errandlaw24.TimesetPasses': WHATEVER THE INPUT: true; the input reads as it did. -/
def timesetPassesSpec : ChangeSpec := { name := "timesetPasses", fn := fun _ => fun
  | [d1, d2, d3] => { results := [.lit (.bool true)], args := [d1, d2, d3] }
  | _ => none }
def timesetPassesRow : OpenClaim := { program := "ytndicgfafdhieaa", sum := "ae21d2e858b199a7bbcffcb7e899b278829a579a08448918fdc9c875e643d967", func := "errand/errandlaw24.TimesetPasses", spec := "timesetPasses", unfollowed := true, recurses := true, apart := false }
def TimesetPassesSaid : Prop := timesetPassesRow.holds Try.pinned (OpenSpec.ofChange timesetPassesSpec)

/-- ITS FALSE NEIGHBOUR: 'it returns false'. Refute it at one input. -/
def timesetPassesWrong : ChangeSpec := { name := "timesetPasses", fn := fun _ => fun
  | [d1, d2, d3] => { results := [.lit (.bool false)], args := [d1, d2, d3] }
  | _ => none }
def TimesetPassesWrongFalsely : Prop := timesetPassesRow.holds Try.pinned (OpenSpec.ofChange timesetPassesWrong)

/-- 'errandlaw24.TimesetOf': WHATEVER THE INPUT: true; the input reads as it did. -/
def timesetOfSpec : ChangeSpec := { name := "timesetOf", fn := fun _ => fun
  | [d1, d2, d3] => { results := [.lit (.bool true)], args := [d1, d2, d3] }
  | _ => none }
def timesetOfRow : OpenClaim := { program := "ytndicgfafdhieaa", sum := "ae21d2e858b199a7bbcffcb7e899b278829a579a08448918fdc9c875e643d967", func := "errand/errandlaw24.TimesetOf", spec := "timesetOf", unfollowed := true, recurses := true, apart := false }
def TimesetOfSaid : Prop := timesetOfRow.holds Try.pinned (OpenSpec.ofChange timesetOfSpec)

/-- ITS FALSE NEIGHBOUR: 'it returns false'. Refute it at one input. -/
def timesetOfWrong : ChangeSpec := { name := "timesetOf", fn := fun _ => fun
  | [d1, d2, d3] => { results := [.lit (.bool false)], args := [d1, d2, d3] }
  | _ => none }
def TimesetOfWrongFalsely : Prop := timesetOfRow.holds Try.pinned (OpenSpec.ofChange timesetOfWrong)

/-- 'errandlaw24.TimesetEach': WHATEVER THE INPUT: true; the input reads as it did. -/
def timesetEachSpec : ChangeSpec := { name := "timesetEach", fn := fun _ => fun
  | [d1, d2, d3] => { results := [.lit (.bool true)], args := [d1, d2, d3] }
  | _ => none }
def timesetEachRow : OpenClaim := { program := "ytndicgfafdhieaa", sum := "ae21d2e858b199a7bbcffcb7e899b278829a579a08448918fdc9c875e643d967", func := "errand/errandlaw24.TimesetEach", spec := "timesetEach", unfollowed := true, recurses := true, apart := false }
def TimesetEachSaid : Prop := timesetEachRow.holds Try.pinned (OpenSpec.ofChange timesetEachSpec)

/-- ITS FALSE NEIGHBOUR: 'it returns false'. Refute it at one input. -/
def timesetEachWrong : ChangeSpec := { name := "timesetEach", fn := fun _ => fun
  | [d1, d2, d3] => { results := [.lit (.bool false)], args := [d1, d2, d3] }
  | _ => none }
def TimesetEachWrongFalsely : Prop := timesetEachRow.holds Try.pinned (OpenSpec.ofChange timesetEachWrong)

/-- 'errandlaw24.TimesetParts': WHATEVER THE INPUT: true; the input reads as it did. -/
def timesetPartsSpec : ChangeSpec := { name := "timesetParts", fn := fun _ => fun
  | [d1, d2, d3] => { results := [.lit (.bool true)], args := [d1, d2, d3] }
  | _ => none }
def timesetPartsRow : OpenClaim := { program := "ytndicgfafdhieaa", sum := "ae21d2e858b199a7bbcffcb7e899b278829a579a08448918fdc9c875e643d967", func := "errand/errandlaw24.TimesetParts", spec := "timesetParts", unfollowed := true, recurses := true, apart := false }
def TimesetPartsSaid : Prop := timesetPartsRow.holds Try.pinned (OpenSpec.ofChange timesetPartsSpec)

/-- ITS FALSE NEIGHBOUR: 'it returns false'. Refute it at one input. -/
def timesetPartsWrong : ChangeSpec := { name := "timesetParts", fn := fun _ => fun
  | [d1, d2, d3] => { results := [.lit (.bool false)], args := [d1, d2, d3] }
  | _ => none }
def TimesetPartsWrongFalsely : Prop := timesetPartsRow.holds Try.pinned (OpenSpec.ofChange timesetPartsWrong)

/- THE SECOND FORM. 'bulk': how many values and letters a reading holds, each counted each time it is reached (what is shared counts as often as it is met; a slice's spare places count too). A statement '..UptoSaid' is the law's where the arguments, and the package variables that the reading takes, are together of bulk at most 1048576: NARROWER than '..Said'. Prove '..Said' where nothing that the law and all that it calls make is longer than what came in: it says more and counts as full. Else prove '..UptoSaid'. A law counts once. -/
mutual
def uptoBulk {H : Type} : DataW H → Nat
  | .lit (.string bytes) => bytes.length + 1
  | .lit _ => 1
  | .nil => 1
  | .ptr d => uptoBulk d + 1
  | .slice elems spare => uptoBulkAll elems + uptoBulkAll spare + 1
  | .agg parts => uptoBulkAll parts + 1
  | .iface _ d => uptoBulk d + 1
  | .map entries => uptoBulkEntries entries + 1
  | .held _ => 1
def uptoBulkAll {H : Type} : List (DataW H) → Nat
  | [] => 0
  | d :: r => uptoBulk d + uptoBulkAll r
def uptoBulkEntries {H : Type} : List (Lit × DataW H) → Nat
  | [] => 0
  | x :: r => uptoBulkEntry x + uptoBulkEntries r
def uptoBulkEntry {H : Type} : Lit × DataW H → Nat
  | (.string bytes, d) => bytes.length + uptoBulk d + 1
  | (_, d) => uptoBulk d + 1
 end
def uptoSmall : (H : Type) → List (DataW H) → Bool := fun _ ds => decide (uptoBulkAll ds ≤ 1048576)
def OpenSpec.upto (s : _root_.Go.ChangeSpec) : _root_.Go.OpenSpec := { _root_.Go.OpenSpec.ofChange s with cond := some uptoSmall }

/-- 'errandlaw24.TimesetPasses', WHERE WHAT IT READS IS OF BULK AT MOST 1048576: true; the input reads as it did. -/
def timesetPassesUptoRow : OpenClaim := { program := "ytndicgfafdhieaa", sum := "ae21d2e858b199a7bbcffcb7e899b278829a579a08448918fdc9c875e643d967", func := "errand/errandlaw24.TimesetPasses", spec := "timesetPasses", unfollowed := true, recurses := true, apart := false, narrowed := true }
def TimesetPassesUptoSaid : Prop := timesetPassesUptoRow.holds Try.pinned (OpenSpec.upto timesetPassesSpec)

/-- 'errandlaw24.TimesetOf', WHERE WHAT IT READS IS OF BULK AT MOST 1048576: true; the input reads as it did. -/
def timesetOfUptoRow : OpenClaim := { program := "ytndicgfafdhieaa", sum := "ae21d2e858b199a7bbcffcb7e899b278829a579a08448918fdc9c875e643d967", func := "errand/errandlaw24.TimesetOf", spec := "timesetOf", unfollowed := true, recurses := true, apart := false, narrowed := true }
def TimesetOfUptoSaid : Prop := timesetOfUptoRow.holds Try.pinned (OpenSpec.upto timesetOfSpec)

/-- 'errandlaw24.TimesetEach', WHERE WHAT IT READS IS OF BULK AT MOST 1048576: true; the input reads as it did. -/
def timesetEachUptoRow : OpenClaim := { program := "ytndicgfafdhieaa", sum := "ae21d2e858b199a7bbcffcb7e899b278829a579a08448918fdc9c875e643d967", func := "errand/errandlaw24.TimesetEach", spec := "timesetEach", unfollowed := true, recurses := true, apart := false, narrowed := true }
def TimesetEachUptoSaid : Prop := timesetEachUptoRow.holds Try.pinned (OpenSpec.upto timesetEachSpec)

/-- 'errandlaw24.TimesetParts', WHERE WHAT IT READS IS OF BULK AT MOST 1048576: true; the input reads as it did. -/
def timesetPartsUptoRow : OpenClaim := { program := "ytndicgfafdhieaa", sum := "ae21d2e858b199a7bbcffcb7e899b278829a579a08448918fdc9c875e643d967", func := "errand/errandlaw24.TimesetParts", spec := "timesetParts", unfollowed := true, recurses := true, apart := false, narrowed := true }
def TimesetPartsUptoSaid : Prop := timesetPartsUptoRow.holds Try.pinned (OpenSpec.upto timesetPartsSpec)

end Rows
end Go.Proofs.Ytndicgfafdhieaa
