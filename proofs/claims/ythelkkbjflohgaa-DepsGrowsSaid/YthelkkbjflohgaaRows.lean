/-
  No cell of these rows narrows 'for every input' (looked for: loops, veiled, ifaces, maps, wideKeys, modest, calm, conditions, laid).
  DERIVED. THE GIVEN ROWS OF THIS SEAT. 4 by the template 'for every input the law returns true; each argument reads behind the call as it read before'; 0 by the template 'total and deterministic' (their statements: YthelkkbjflohgaaTotals.lean).
  GIVEN WITH THE SEED: the statements are not yours to turn. If you find one false, say at which input.
  Laid BY PROGRAM, IN A SANDBOX (cutbox-rows.mjs): the forced cells as the released guide's own fill.sh prints them over the translation 374ca7bcf119778a… (all of the seat's roots in one cut). By AI agents, Wed Nov 11 2026. No macro, syntax, notation, axiom, sorry.
-/
import Derived.Test.YthelkkbjflohgaaChecked
import GoSem.Claim
import GoSem.ClaimJoined
import GoSem.ClaimMapViews
import Derived.JoinedTies
import Derived.KernelRfl
namespace Go.Proofs.Ythelkkbjflohgaa
/- THE CELL 'sum', in the pinned program and in every row, IS THE sha256 OF THE DUMP (.gsa) THAT YthelkkbjflohgaaProg.lean LOADS. Nothing in Lean hashes anything: it is a label: what it is worth is what the hold of that sum in a sandbox is worth. -/
noncomputable def Try.pinned : Pinned := { name := "ythelkkbjflohgaa", sum := "374ca7bcf119778afacd22bccf53843e85e29cfd8723f7542a3508fd59433329", checked := Try.checked }
namespace Rows
def none {H : Type} : Left H := { results := [], args := [] }

/-- 'errandlaw31.DepsTells': WHATEVER THE INPUT: true; the input reads as it did. -/
def depsTellsSpec : ChangeSpec := { name := "depsTells", fn := fun _ => fun
  | [d1, d2, d3] => { results := [.lit (.bool true)], args := [d1, d2, d3] }
  | _ => none }
def depsTellsRow : OpenClaim := { program := "ythelkkbjflohgaa", sum := "374ca7bcf119778afacd22bccf53843e85e29cfd8723f7542a3508fd59433329", func := "errand/errandlaw31.DepsTells", spec := "depsTells", unfollowed := true, recurses := true, apart := false }
def DepsTellsSaid : Prop := depsTellsRow.holds Try.pinned (OpenSpec.ofChange depsTellsSpec)

/-- ITS FALSE NEIGHBOUR: 'it returns false'. Refute it at one input. -/
def depsTellsWrong : ChangeSpec := { name := "depsTells", fn := fun _ => fun
  | [d1, d2, d3] => { results := [.lit (.bool false)], args := [d1, d2, d3] }
  | _ => none }
def DepsTellsWrongFalsely : Prop := depsTellsRow.holds Try.pinned (OpenSpec.ofChange depsTellsWrong)

/-- 'errandlaw31.DepsChanges': WHATEVER THE INPUT: true; the input reads as it did. -/
def depsChangesSpec : ChangeSpec := { name := "depsChanges", fn := fun _ => fun
  | [d1, d2] => { results := [.lit (.bool true)], args := [d1, d2] }
  | _ => none }
def depsChangesRow : OpenClaim := { program := "ythelkkbjflohgaa", sum := "374ca7bcf119778afacd22bccf53843e85e29cfd8723f7542a3508fd59433329", func := "errand/errandlaw31.DepsChanges", spec := "depsChanges", unfollowed := true, recurses := true, apart := false }
def DepsChangesSaid : Prop := depsChangesRow.holds Try.pinned (OpenSpec.ofChange depsChangesSpec)

/-- ITS FALSE NEIGHBOUR: 'it returns false'. Refute it at one input. -/
def depsChangesWrong : ChangeSpec := { name := "depsChanges", fn := fun _ => fun
  | [d1, d2] => { results := [.lit (.bool false)], args := [d1, d2] }
  | _ => none }
def DepsChangesWrongFalsely : Prop := depsChangesRow.holds Try.pinned (OpenSpec.ofChange depsChangesWrong)

/-- 'errandlaw31.DepsGrows': WHATEVER THE INPUT: true; the input reads as it did. -/
def depsGrowsSpec : ChangeSpec := { name := "depsGrows", fn := fun _ => fun
  | [d] => { results := [.lit (.bool true)], args := [d] }
  | _ => none }
def depsGrowsRow : OpenClaim := { program := "ythelkkbjflohgaa", sum := "374ca7bcf119778afacd22bccf53843e85e29cfd8723f7542a3508fd59433329", func := "errand/errandlaw31.DepsGrows", spec := "depsGrows", unfollowed := true, recurses := true, apart := false }
def DepsGrowsSaid : Prop := depsGrowsRow.holds Try.pinned (OpenSpec.ofChange depsGrowsSpec)

/-- ITS FALSE NEIGHBOUR: 'it returns false'. Refute it at one input. -/
def depsGrowsWrong : ChangeSpec := { name := "depsGrows", fn := fun _ => fun
  | [d] => { results := [.lit (.bool false)], args := [d] }
  | _ => none }
def DepsGrowsWrongFalsely : Prop := depsGrowsRow.holds Try.pinned (OpenSpec.ofChange depsGrowsWrong)

/-- 'errandlaw31.DepsWays': WHATEVER THE INPUT: true; the input reads as it did. -/
def depsWaysSpec : ChangeSpec := { name := "depsWays", fn := fun _ => fun
  | [d1, d2] => { results := [.lit (.bool true)], args := [d1, d2] }
  | _ => none }
def depsWaysRow : OpenClaim := { program := "ythelkkbjflohgaa", sum := "374ca7bcf119778afacd22bccf53843e85e29cfd8723f7542a3508fd59433329", func := "errand/errandlaw31.DepsWays", spec := "depsWays", unfollowed := true, recurses := true, apart := false }
def DepsWaysSaid : Prop := depsWaysRow.holds Try.pinned (OpenSpec.ofChange depsWaysSpec)

/-- ITS FALSE NEIGHBOUR: 'it returns false'. Refute it at one input. -/
def depsWaysWrong : ChangeSpec := { name := "depsWays", fn := fun _ => fun
  | [d1, d2] => { results := [.lit (.bool false)], args := [d1, d2] }
  | _ => none }
def DepsWaysWrongFalsely : Prop := depsWaysRow.holds Try.pinned (OpenSpec.ofChange depsWaysWrong)

/- THE SECOND FORM. 'bulk': how many values and letters a reading holds, each counted each time it is reached (what is shared counts as often as it is met; a slice's spare places count too). A statement '..UptoSaid' is the law's where the arguments, and the package variables that the reading takes, are together of bulk at most 1048576: NARROWER than '..Said'. Prove '..Said' where nothing that the law and all that it calls make is longer than what came in: it says more and counts as full. Else prove '..UptoSaid'. A law counts once. -/
mutual
def uptoBulk {H : Type} : DataW H → Nat
  | .lit (.string bytes) => bytes.length + 1
  | .lit _ => 1
  | .nil => 1
  | .ptr d => uptoBulk d + 1
  | .slice elems spare => uptoBulkAll elems + uptoBulkAll spare + 1
  | .agg parts => uptoBulkAll parts + 1
  | .iface _ d => uptoBulk d + 1
  | .map entries => uptoBulkEntries entries + 1
  | .held _ => 1
def uptoBulkAll {H : Type} : List (DataW H) → Nat
  | [] => 0
  | d :: r => uptoBulk d + uptoBulkAll r
def uptoBulkEntries {H : Type} : List (Lit × DataW H) → Nat
  | [] => 0
  | x :: r => uptoBulkEntry x + uptoBulkEntries r
def uptoBulkEntry {H : Type} : Lit × DataW H → Nat
  | (.string bytes, d) => bytes.length + uptoBulk d + 1
  | (_, d) => uptoBulk d + 1
 end
def uptoSmall : (H : Type) → List (DataW H) → Bool := fun _ ds => decide (uptoBulkAll ds ≤ 1048576)
def OpenSpec.upto (s : _root_.Go.ChangeSpec) : _root_.Go.OpenSpec := { _root_.Go.OpenSpec.ofChange s with cond := some uptoSmall }

/-- 'errandlaw31.DepsTells', WHERE WHAT IT READS IS OF BULK AT MOST 1048576: true; the input reads as it did. -/
def depsTellsUptoRow : OpenClaim := { program := "ythelkkbjflohgaa", sum := "374ca7bcf119778afacd22bccf53843e85e29cfd8723f7542a3508fd59433329", func := "errand/errandlaw31.DepsTells", spec := "depsTells", unfollowed := true, recurses := true, apart := false, narrowed := true }
def DepsTellsUptoSaid : Prop := depsTellsUptoRow.holds Try.pinned (OpenSpec.upto depsTellsSpec)

/-- 'errandlaw31.DepsChanges', WHERE WHAT IT READS IS OF BULK AT MOST 1048576: true; the input reads as it did. -/
def depsChangesUptoRow : OpenClaim := { program := "ythelkkbjflohgaa", sum := "374ca7bcf119778afacd22bccf53843e85e29cfd8723f7542a3508fd59433329", func := "errand/errandlaw31.DepsChanges", spec := "depsChanges", unfollowed := true, recurses := true, apart := false, narrowed := true }
def DepsChangesUptoSaid : Prop := depsChangesUptoRow.holds Try.pinned (OpenSpec.upto depsChangesSpec)

/-- 'errandlaw31.DepsGrows', WHERE WHAT IT READS IS OF BULK AT MOST 1048576: true; the input reads as it did. -/
def depsGrowsUptoRow : OpenClaim := { program := "ythelkkbjflohgaa", sum := "374ca7bcf119778afacd22bccf53843e85e29cfd8723f7542a3508fd59433329", func := "errand/errandlaw31.DepsGrows", spec := "depsGrows", unfollowed := true, recurses := true, apart := false, narrowed := true }
def DepsGrowsUptoSaid : Prop := depsGrowsUptoRow.holds Try.pinned (OpenSpec.upto depsGrowsSpec)

/-- 'errandlaw31.DepsWays', WHERE WHAT IT READS IS OF BULK AT MOST 1048576: true; the input reads as it did. -/
def depsWaysUptoRow : OpenClaim := { program := "ythelkkbjflohgaa", sum := "374ca7bcf119778afacd22bccf53843e85e29cfd8723f7542a3508fd59433329", func := "errand/errandlaw31.DepsWays", spec := "depsWays", unfollowed := true, recurses := true, apart := false, narrowed := true }
def DepsWaysUptoSaid : Prop := depsWaysUptoRow.holds Try.pinned (OpenSpec.upto depsWaysSpec)

end Rows
end Go.Proofs.Ythelkkbjflohgaa
