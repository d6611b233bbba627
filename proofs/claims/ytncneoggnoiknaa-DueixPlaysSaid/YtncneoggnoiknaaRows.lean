/-
  No cell of these rows narrows 'for every input' (looked for: loops, veiled, ifaces, maps, wideKeys, modest, calm, conditions, laid).
  DERIVED. THE GIVEN ROWS OF THIS SEAT. 4 by the template 'for every input the law returns true; each argument reads behind the call as it read before'; 0 by the template 'total and deterministic' (their statements: YtncneoggnoiknaaTotals.lean).
  GIVEN WITH THE SEED: the statements are not yours to turn. If you find one false, say at which input.
  Laid BY PROGRAM, IN A SANDBOX (cutbox-rows.mjs): the forced cells as the released guide's own fill.sh prints them over the translation 7708da87d533db3d… (all of the seat's roots in one cut). By AI agents, Wed Nov 11 2026. No macro, syntax, notation, axiom, sorry.
-/
import Derived.Test.YtncneoggnoiknaaChecked
import GoSem.Claim
import GoSem.ClaimJoined
import GoSem.ClaimMapViews
import Derived.JoinedTies
import Derived.KernelRfl
namespace Go.Proofs.Ytncneoggnoiknaa
/- THE CELL 'sum', in the pinned program and in every row, IS THE sha256 OF THE DUMP (.gsa) THAT YtncneoggnoiknaaProg.lean LOADS. Nothing in Lean hashes anything: it is a label: what it is worth is what the hold of that sum in a sandbox is worth. -/
noncomputable def Try.pinned : Pinned := { name := "ytncneoggnoiknaa", sum := "7708da87d533db3d6446bdb1f448bdab393e370aeaadd7de3ecdbbd757bbb508", checked := Try.checked }
namespace Rows
def none {H : Type} : Left H := { results := [], args := [] }

/-- 'errandlaw34.DueixPlays': WHATEVER THE INPUT: true; the input reads as it did. -/
def dueixPlaysSpec : ChangeSpec := { name := "dueixPlays", fn := fun _ => fun
  | [d] => { results := [.lit (.bool true)], args := [d] }
  | _ => none }
def dueixPlaysRow : OpenClaim := { program := "ytncneoggnoiknaa", sum := "7708da87d533db3d6446bdb1f448bdab393e370aeaadd7de3ecdbbd757bbb508", func := "errand/errandlaw34.DueixPlays", spec := "dueixPlays", inPlace := ["slices.overlaps[errand/dueix.Entry]", "slices.overlaps[[]errand/dueix.Entry]"], unfollowed := true, recurses := true, apart := false }
def DueixPlaysSaid : Prop := dueixPlaysRow.holds Try.pinned (OpenSpec.ofChange dueixPlaysSpec)

/-- ITS FALSE NEIGHBOUR: 'it returns false'. Refute it at one input. -/
def dueixPlaysWrong : ChangeSpec := { name := "dueixPlays", fn := fun _ => fun
  | [d] => { results := [.lit (.bool false)], args := [d] }
  | _ => none }
def DueixPlaysWrongFalsely : Prop := dueixPlaysRow.holds Try.pinned (OpenSpec.ofChange dueixPlaysWrong)

/-- 'errandlaw34.DueixNobody': WHATEVER THE INPUT: true; the input reads as it did. -/
def dueixNobodySpec : ChangeSpec := { name := "dueixNobody", fn := fun _ => fun
  | [d1, d2] => { results := [.lit (.bool true)], args := [d1, d2] }
  | _ => none }
def dueixNobodyRow : OpenClaim := { program := "ytncneoggnoiknaa", sum := "7708da87d533db3d6446bdb1f448bdab393e370aeaadd7de3ecdbbd757bbb508", func := "errand/errandlaw34.DueixNobody", spec := "dueixNobody", inPlace := ["slices.overlaps[errand/dueix.Entry]", "slices.overlaps[[]errand/dueix.Entry]"], unfollowed := true, recurses := true, apart := false }
def DueixNobodySaid : Prop := dueixNobodyRow.holds Try.pinned (OpenSpec.ofChange dueixNobodySpec)

/-- ITS FALSE NEIGHBOUR: 'it returns false'. Refute it at one input. -/
def dueixNobodyWrong : ChangeSpec := { name := "dueixNobody", fn := fun _ => fun
  | [d1, d2] => { results := [.lit (.bool false)], args := [d1, d2] }
  | _ => none }
def DueixNobodyWrongFalsely : Prop := dueixNobodyRow.holds Try.pinned (OpenSpec.ofChange dueixNobodyWrong)

/-- 'errandlaw34.DueixSorts': WHATEVER THE INPUT: true; the input reads as it did. -/
def dueixSortsSpec : ChangeSpec := { name := "dueixSorts", fn := fun _ => fun
  | [d] => { results := [.lit (.bool true)], args := [d] }
  | _ => none }
def dueixSortsRow : OpenClaim := { program := "ytncneoggnoiknaa", sum := "7708da87d533db3d6446bdb1f448bdab393e370aeaadd7de3ecdbbd757bbb508", func := "errand/errandlaw34.DueixSorts", spec := "dueixSorts", inPlace := ["slices.overlaps[errand/dueix.Entry]", "slices.overlaps[[]errand/dueix.Entry]"], unfollowed := true, recurses := true, apart := false }
def DueixSortsSaid : Prop := dueixSortsRow.holds Try.pinned (OpenSpec.ofChange dueixSortsSpec)

/-- ITS FALSE NEIGHBOUR: 'it returns false'. Refute it at one input. -/
def dueixSortsWrong : ChangeSpec := { name := "dueixSorts", fn := fun _ => fun
  | [d] => { results := [.lit (.bool false)], args := [d] }
  | _ => none }
def DueixSortsWrongFalsely : Prop := dueixSortsRow.holds Try.pinned (OpenSpec.ofChange dueixSortsWrong)

/-- 'errandlaw34.DueixParts': WHATEVER THE INPUT: true; the input reads as it did. -/
def dueixPartsSpec : ChangeSpec := { name := "dueixParts", fn := fun _ => fun
  | [d1, d2] => { results := [.lit (.bool true)], args := [d1, d2] }
  | _ => none }
def dueixPartsRow : OpenClaim := { program := "ytncneoggnoiknaa", sum := "7708da87d533db3d6446bdb1f448bdab393e370aeaadd7de3ecdbbd757bbb508", func := "errand/errandlaw34.DueixParts", spec := "dueixParts", inPlace := ["slices.overlaps[errand/dueix.Entry]", "slices.overlaps[[]errand/dueix.Entry]"], unfollowed := true, recurses := true, apart := false }
def DueixPartsSaid : Prop := dueixPartsRow.holds Try.pinned (OpenSpec.ofChange dueixPartsSpec)

/-- ITS FALSE NEIGHBOUR: 'it returns false'. Refute it at one input. -/
def dueixPartsWrong : ChangeSpec := { name := "dueixParts", fn := fun _ => fun
  | [d1, d2] => { results := [.lit (.bool false)], args := [d1, d2] }
  | _ => none }
def DueixPartsWrongFalsely : Prop := dueixPartsRow.holds Try.pinned (OpenSpec.ofChange dueixPartsWrong)

/- THE SECOND FORM. 'bulk': how many values and letters a reading holds, each counted each time it is reached (what is shared counts as often as it is met; a slice's spare places count too). A statement '..UptoSaid' is the law's where the arguments, and the package variables that the reading takes, are together of bulk at most 1048576: NARROWER than '..Said'. Prove '..Said' where nothing that the law and all that it calls make is longer than what came in: it says more and counts as full. Else prove '..UptoSaid'. A law counts once. -/
mutual
def uptoBulk {H : Type} : DataW H → Nat
  | .lit (.string bytes) => bytes.length + 1
  | .lit _ => 1
  | .nil => 1
  | .ptr d => uptoBulk d + 1
  | .slice elems spare => uptoBulkAll elems + uptoBulkAll spare + 1
  | .agg parts => uptoBulkAll parts + 1
  | .iface _ d => uptoBulk d + 1
  | .map entries => uptoBulkEntries entries + 1
  | .held _ => 1
def uptoBulkAll {H : Type} : List (DataW H) → Nat
  | [] => 0
  | d :: r => uptoBulk d + uptoBulkAll r
def uptoBulkEntries {H : Type} : List (Lit × DataW H) → Nat
  | [] => 0
  | x :: r => uptoBulkEntry x + uptoBulkEntries r
def uptoBulkEntry {H : Type} : Lit × DataW H → Nat
  | (.string bytes, d) => bytes.length + uptoBulk d + 1
  | (_, d) => uptoBulk d + 1
 end
def uptoSmall : (H : Type) → List (DataW H) → Bool := fun _ ds => decide (uptoBulkAll ds ≤ 1048576)
def OpenSpec.upto (s : _root_.Go.ChangeSpec) : _root_.Go.OpenSpec := { _root_.Go.OpenSpec.ofChange s with cond := some uptoSmall }

/-- 'errandlaw34.DueixPlays', WHERE WHAT IT READS IS OF BULK AT MOST 1048576: true; the input reads as it did. -/
def dueixPlaysUptoRow : OpenClaim := { program := "ytncneoggnoiknaa", sum := "7708da87d533db3d6446bdb1f448bdab393e370aeaadd7de3ecdbbd757bbb508", func := "errand/errandlaw34.DueixPlays", spec := "dueixPlays", inPlace := ["slices.overlaps[errand/dueix.Entry]", "slices.overlaps[[]errand/dueix.Entry]"], unfollowed := true, recurses := true, apart := false, narrowed := true }
def DueixPlaysUptoSaid : Prop := dueixPlaysUptoRow.holds Try.pinned (OpenSpec.upto dueixPlaysSpec)

/-- 'errandlaw34.DueixNobody', WHERE WHAT IT READS IS OF BULK AT MOST 1048576: true; the input reads as it did. -/
def dueixNobodyUptoRow : OpenClaim := { program := "ytncneoggnoiknaa", sum := "7708da87d533db3d6446bdb1f448bdab393e370aeaadd7de3ecdbbd757bbb508", func := "errand/errandlaw34.DueixNobody", spec := "dueixNobody", inPlace := ["slices.overlaps[errand/dueix.Entry]", "slices.overlaps[[]errand/dueix.Entry]"], unfollowed := true, recurses := true, apart := false, narrowed := true }
def DueixNobodyUptoSaid : Prop := dueixNobodyUptoRow.holds Try.pinned (OpenSpec.upto dueixNobodySpec)

/-- 'errandlaw34.DueixSorts', WHERE WHAT IT READS IS OF BULK AT MOST 1048576: true; the input reads as it did. -/
def dueixSortsUptoRow : OpenClaim := { program := "ytncneoggnoiknaa", sum := "7708da87d533db3d6446bdb1f448bdab393e370aeaadd7de3ecdbbd757bbb508", func := "errand/errandlaw34.DueixSorts", spec := "dueixSorts", inPlace := ["slices.overlaps[errand/dueix.Entry]", "slices.overlaps[[]errand/dueix.Entry]"], unfollowed := true, recurses := true, apart := false, narrowed := true }
def DueixSortsUptoSaid : Prop := dueixSortsUptoRow.holds Try.pinned (OpenSpec.upto dueixSortsSpec)

/-- 'errandlaw34.DueixParts', WHERE WHAT IT READS IS OF BULK AT MOST 1048576: true; the input reads as it did. -/
def dueixPartsUptoRow : OpenClaim := { program := "ytncneoggnoiknaa", sum := "7708da87d533db3d6446bdb1f448bdab393e370aeaadd7de3ecdbbd757bbb508", func := "errand/errandlaw34.DueixParts", spec := "dueixParts", inPlace := ["slices.overlaps[errand/dueix.Entry]", "slices.overlaps[[]errand/dueix.Entry]"], unfollowed := true, recurses := true, apart := false, narrowed := true }
def DueixPartsUptoSaid : Prop := dueixPartsUptoRow.holds Try.pinned (OpenSpec.upto dueixPartsSpec)

end Rows
end Go.Proofs.Ytncneoggnoiknaa
