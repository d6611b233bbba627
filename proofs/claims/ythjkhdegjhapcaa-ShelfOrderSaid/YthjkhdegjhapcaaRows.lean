/-
  No cell of these rows narrows 'for every input' (looked for: loops, veiled, ifaces, maps, wideKeys, modest, calm, conditions, laid).
  DERIVED. THE GIVEN ROWS OF THIS SEAT. 4 by the template 'for every input the law returns true; each argument reads behind the call as it read before'; 0 by the template 'total and deterministic' (their statements: YthjkhdegjhapcaaTotals.lean).
  GIVEN WITH THE SEED: the statements are not yours to turn. If you find one false, say at which input.
  Laid BY PROGRAM, IN A SANDBOX (cutbox-rows.mjs): the forced cells as the released guide's own fill.sh prints them over the translation dc1bf19494695b82… (all of the seat's roots in one cut). By AI agents, Wed Nov 11 2026. No macro, syntax, notation, axiom, sorry.
-/
import Derived.Test.YthjkhdegjhapcaaChecked
import GoSem.Claim
import GoSem.ClaimJoined
import GoSem.ClaimMapViews
import Derived.JoinedTies
import Derived.KernelRfl
namespace Go.Proofs.Ythjkhdegjhapcaa
/- THE CELL 'sum', in the pinned program and in every row, IS THE sha256 OF THE DUMP (.gsa) THAT YthjkhdegjhapcaaProg.lean LOADS. Nothing in Lean hashes anything: it is a label: what it is worth is what the hold of that sum in a sandbox is worth. -/
noncomputable def Try.pinned : Pinned := { name := "ythjkhdegjhapcaa", sum := "dc1bf19494695b821e607ed5d5d8c874994fa49f22d63aad654cab36d9432d59", checked := Try.checked }
namespace Rows
def none {H : Type} : Left H := { results := [], args := [] }

/-- 'errandlaw30.ShelfPuts': WHATEVER THE INPUT: true; the input reads as it did. -/
def shelfPutsSpec : ChangeSpec := { name := "shelfPuts", fn := fun _ => fun
  | [d1, d2] => { results := [.lit (.bool true)], args := [d1, d2] }
  | _ => none }
def shelfPutsRow : OpenClaim := { program := "ythjkhdegjhapcaa", sum := "dc1bf19494695b821e607ed5d5d8c874994fa49f22d63aad654cab36d9432d59", func := "errand/errandlaw30.ShelfPuts", spec := "shelfPuts", unfollowed := true, recurses := true, apart := false }
def ShelfPutsSaid : Prop := shelfPutsRow.holds Try.pinned (OpenSpec.ofChange shelfPutsSpec)

/-- ITS FALSE NEIGHBOUR: 'it returns false'. Refute it at one input. -/
def shelfPutsWrong : ChangeSpec := { name := "shelfPuts", fn := fun _ => fun
  | [d1, d2] => { results := [.lit (.bool false)], args := [d1, d2] }
  | _ => none }
def ShelfPutsWrongFalsely : Prop := shelfPutsRow.holds Try.pinned (OpenSpec.ofChange shelfPutsWrong)

/-- 'errandlaw30.ShelfFinds': WHATEVER THE INPUT: true; the input reads as it did. -/
def shelfFindsSpec : ChangeSpec := { name := "shelfFinds", fn := fun _ => fun
  | [d1, d2, d3] => { results := [.lit (.bool true)], args := [d1, d2, d3] }
  | _ => none }
def shelfFindsRow : OpenClaim := { program := "ythjkhdegjhapcaa", sum := "dc1bf19494695b821e607ed5d5d8c874994fa49f22d63aad654cab36d9432d59", func := "errand/errandlaw30.ShelfFinds", spec := "shelfFinds", unfollowed := true, recurses := true, apart := false }
def ShelfFindsSaid : Prop := shelfFindsRow.holds Try.pinned (OpenSpec.ofChange shelfFindsSpec)

/-- ITS FALSE NEIGHBOUR: 'it returns false'. Refute it at one input. -/
def shelfFindsWrong : ChangeSpec := { name := "shelfFinds", fn := fun _ => fun
  | [d1, d2, d3] => { results := [.lit (.bool false)], args := [d1, d2, d3] }
  | _ => none }
def ShelfFindsWrongFalsely : Prop := shelfFindsRow.holds Try.pinned (OpenSpec.ofChange shelfFindsWrong)

/-- 'errandlaw30.ShelfLast': WHATEVER THE INPUT: true; the input reads as it did. -/
def shelfLastSpec : ChangeSpec := { name := "shelfLast", fn := fun _ => fun
  | [d] => { results := [.lit (.bool true)], args := [d] }
  | _ => none }
def shelfLastRow : OpenClaim := { program := "ythjkhdegjhapcaa", sum := "dc1bf19494695b821e607ed5d5d8c874994fa49f22d63aad654cab36d9432d59", func := "errand/errandlaw30.ShelfLast", spec := "shelfLast", unfollowed := true, recurses := true, apart := false }
def ShelfLastSaid : Prop := shelfLastRow.holds Try.pinned (OpenSpec.ofChange shelfLastSpec)

/-- ITS FALSE NEIGHBOUR: 'it returns false'. Refute it at one input. -/
def shelfLastWrong : ChangeSpec := { name := "shelfLast", fn := fun _ => fun
  | [d] => { results := [.lit (.bool false)], args := [d] }
  | _ => none }
def ShelfLastWrongFalsely : Prop := shelfLastRow.holds Try.pinned (OpenSpec.ofChange shelfLastWrong)

/-- 'errandlaw30.ShelfOrder': WHATEVER THE INPUT: true; the input reads as it did. -/
def shelfOrderSpec : ChangeSpec := { name := "shelfOrder", fn := fun _ => fun
  | [d1, d2] => { results := [.lit (.bool true)], args := [d1, d2] }
  | _ => none }
def shelfOrderRow : OpenClaim := { program := "ythjkhdegjhapcaa", sum := "dc1bf19494695b821e607ed5d5d8c874994fa49f22d63aad654cab36d9432d59", func := "errand/errandlaw30.ShelfOrder", spec := "shelfOrder", unfollowed := true, recurses := true, apart := false }
def ShelfOrderSaid : Prop := shelfOrderRow.holds Try.pinned (OpenSpec.ofChange shelfOrderSpec)

/-- ITS FALSE NEIGHBOUR: 'it returns false'. Refute it at one input. -/
def shelfOrderWrong : ChangeSpec := { name := "shelfOrder", fn := fun _ => fun
  | [d1, d2] => { results := [.lit (.bool false)], args := [d1, d2] }
  | _ => none }
def ShelfOrderWrongFalsely : Prop := shelfOrderRow.holds Try.pinned (OpenSpec.ofChange shelfOrderWrong)

/- THE SECOND FORM. 'bulk': how many values and letters a reading holds, each counted each time it is reached (what is shared counts as often as it is met; a slice's spare places count too). A statement '..UptoSaid' is the law's where the arguments, and the package variables that the reading takes, are together of bulk at most 1048576: NARROWER than '..Said'. Prove '..Said' where nothing that the law and all that it calls make is longer than what came in: it says more and counts as full. Else prove '..UptoSaid'. A law counts once. -/
mutual
def uptoBulk {H : Type} : DataW H → Nat
  | .lit (.string bytes) => bytes.length + 1
  | .lit _ => 1
  | .nil => 1
  | .ptr d => uptoBulk d + 1
  | .slice elems spare => uptoBulkAll elems + uptoBulkAll spare + 1
  | .agg parts => uptoBulkAll parts + 1
  | .iface _ d => uptoBulk d + 1
  | .map entries => uptoBulkEntries entries + 1
  | .held _ => 1
def uptoBulkAll {H : Type} : List (DataW H) → Nat
  | [] => 0
  | d :: r => uptoBulk d + uptoBulkAll r
def uptoBulkEntries {H : Type} : List (Lit × DataW H) → Nat
  | [] => 0
  | x :: r => uptoBulkEntry x + uptoBulkEntries r
def uptoBulkEntry {H : Type} : Lit × DataW H → Nat
  | (.string bytes, d) => bytes.length + uptoBulk d + 1
  | (_, d) => uptoBulk d + 1
 end
def uptoSmall : (H : Type) → List (DataW H) → Bool := fun _ ds => decide (uptoBulkAll ds ≤ 1048576)
def OpenSpec.upto (s : _root_.Go.ChangeSpec) : _root_.Go.OpenSpec := { _root_.Go.OpenSpec.ofChange s with cond := some uptoSmall }

/-- 'errandlaw30.ShelfPuts', WHERE WHAT IT READS IS OF BULK AT MOST 1048576: true; the input reads as it did. -/
def shelfPutsUptoRow : OpenClaim := { program := "ythjkhdegjhapcaa", sum := "dc1bf19494695b821e607ed5d5d8c874994fa49f22d63aad654cab36d9432d59", func := "errand/errandlaw30.ShelfPuts", spec := "shelfPuts", unfollowed := true, recurses := true, apart := false, narrowed := true }
def ShelfPutsUptoSaid : Prop := shelfPutsUptoRow.holds Try.pinned (OpenSpec.upto shelfPutsSpec)

/-- 'errandlaw30.ShelfFinds', WHERE WHAT IT READS IS OF BULK AT MOST 1048576: true; the input reads as it did. -/
def shelfFindsUptoRow : OpenClaim := { program := "ythjkhdegjhapcaa", sum := "dc1bf19494695b821e607ed5d5d8c874994fa49f22d63aad654cab36d9432d59", func := "errand/errandlaw30.ShelfFinds", spec := "shelfFinds", unfollowed := true, recurses := true, apart := false, narrowed := true }
def ShelfFindsUptoSaid : Prop := shelfFindsUptoRow.holds Try.pinned (OpenSpec.upto shelfFindsSpec)

/-- 'errandlaw30.ShelfLast', WHERE WHAT IT READS IS OF BULK AT MOST 1048576: true; the input reads as it did. -/
def shelfLastUptoRow : OpenClaim := { program := "ythjkhdegjhapcaa", sum := "dc1bf19494695b821e607ed5d5d8c874994fa49f22d63aad654cab36d9432d59", func := "errand/errandlaw30.ShelfLast", spec := "shelfLast", unfollowed := true, recurses := true, apart := false, narrowed := true }
def ShelfLastUptoSaid : Prop := shelfLastUptoRow.holds Try.pinned (OpenSpec.upto shelfLastSpec)

/-- 'errandlaw30.ShelfOrder', WHERE WHAT IT READS IS OF BULK AT MOST 1048576: true; the input reads as it did. -/
def shelfOrderUptoRow : OpenClaim := { program := "ythjkhdegjhapcaa", sum := "dc1bf19494695b821e607ed5d5d8c874994fa49f22d63aad654cab36d9432d59", func := "errand/errandlaw30.ShelfOrder", spec := "shelfOrder", unfollowed := true, recurses := true, apart := false, narrowed := true }
def ShelfOrderUptoSaid : Prop := shelfOrderUptoRow.holds Try.pinned (OpenSpec.upto shelfOrderSpec)

end Rows
end Go.Proofs.Ythjkhdegjhapcaa
