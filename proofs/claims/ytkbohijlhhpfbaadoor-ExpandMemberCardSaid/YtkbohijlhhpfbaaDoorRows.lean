/-
  NARROWER THAN 'FOR EVERY INPUT', by the rows' own cells (each row's printed sentence says how): ExpandPicks: laid · ExpandEach: laid · ExpandMember: laid.
  DERIVED. THE GIVEN ROWS OF THIS SEAT. 3 by the template 'for every input the law returns true; each argument reads behind the call as it read before'; 0 by the template 'total and deterministic' (their statements: YtkbohijlhhpfbaaDoorTotals.lean).
  GIVEN WITH THE SEED: the statements are not yours to turn. If you find one false, say at which input.
  Laid BY PROGRAM, IN A SANDBOX (cutbox-rows.mjs): the forced cells as the released guide's own fill.sh prints them over the translation d348d04cfbb86ba3… (all of the seat's roots in one cut). By AI agents, Wed Nov 11 2026. No macro, syntax, notation, axiom, sorry.
-/
import Derived.Test.YtkbohijlhhpfbaaDoorChecked
import GoSem.Claim
import GoSem.ClaimJoined
import GoSem.ClaimMapViews
import Derived.JoinedTies
import Derived.KernelRfl
namespace Go.Proofs.YtkbohijlhhpfbaaDoor
/- THE CELL 'sum', in the pinned program and in every row, IS THE sha256 OF THE DUMP (.gsa) THAT YtkbohijlhhpfbaaDoorProg.lean LOADS. Nothing in Lean hashes anything: it is a label: what it is worth is what the hold of that sum in a sandbox is worth. -/
noncomputable def Tryd.pinned : Pinned := { name := "ytkbohijlhhpfbaadoor", sum := "d348d04cfbb86ba31a6640ba262bac27b9d6c66d8cbfc143f519dd57d0f2eff8", checked := Tryd.checked }
namespace Rows
def none {H : Type} : Left H := { results := [], args := [] }

/- WHAT THE LISTED PACKAGE-LEVEL VARIABLES READ AS WHEN THE CALL BEGINS. Each datum BY PROGRAM (the guide's laid-datum.mjs) off the statement by which the dump's own 'gosem.cut.vars' lays the variable. In a bare row this is a premise. The card (YtkbohijlhhpfbaaDoorCards.lean) ties it to the program's text. -/
def laid_errand_civil_before {H : Type} : DataW H := .agg [.lit (.int .i64 0), .lit (.int .i64 31), .lit (.int .i64 59), .lit (.int .i64 90), .lit (.int .i64 120), .lit (.int .i64 151), .lit (.int .i64 181), .lit (.int .i64 212), .lit (.int .i64 243), .lit (.int .i64 273), .lit (.int .i64 304), .lit (.int .i64 334), .lit (.int .i64 365)]

/-- 'errandlaw25.ExpandPicks': WHATEVER THE INPUT: true; the input reads as it did. -/
def expandPicksSpec : ChangeSpec := { name := "expandPicks", fn := fun _ => fun
  | [d1, d2, d3] => { results := [.lit (.bool true)], args := [d1, d2, d3] }
  | _ => none }
def expandPicksRow : OpenClaim := { program := "ytkbohijlhhpfbaadoor", sum := "d348d04cfbb86ba31a6640ba262bac27b9d6c66d8cbfc143f519dd57d0f2eff8", func := "errand/errandlaw25.ExpandPicks", spec := "expandPicks", unfollowed := true, recurses := true, named := ["errand/civil.before"], apart := false, laid := [("errand/civil.before", laid_errand_civil_before)] }
def ExpandPicksSaid : Prop := expandPicksRow.holds Tryd.pinned (OpenSpec.ofChange expandPicksSpec)

/-- ITS FALSE NEIGHBOUR: 'it returns false'. Refute it at one input. -/
def expandPicksWrong : ChangeSpec := { name := "expandPicks", fn := fun _ => fun
  | [d1, d2, d3] => { results := [.lit (.bool false)], args := [d1, d2, d3] }
  | _ => none }
def ExpandPicksWrongFalsely : Prop := expandPicksRow.holds Tryd.pinned (OpenSpec.ofChange expandPicksWrong)

/-- 'errandlaw25.ExpandEach': WHATEVER THE INPUT: true; the input reads as it did. -/
def expandEachSpec : ChangeSpec := { name := "expandEach", fn := fun _ => fun
  | [d1, d2, d3] => { results := [.lit (.bool true)], args := [d1, d2, d3] }
  | _ => none }
def expandEachRow : OpenClaim := { program := "ytkbohijlhhpfbaadoor", sum := "d348d04cfbb86ba31a6640ba262bac27b9d6c66d8cbfc143f519dd57d0f2eff8", func := "errand/errandlaw25.ExpandEach", spec := "expandEach", unfollowed := true, recurses := true, named := ["errand/civil.before"], apart := false, laid := [("errand/civil.before", laid_errand_civil_before)] }
def ExpandEachSaid : Prop := expandEachRow.holds Tryd.pinned (OpenSpec.ofChange expandEachSpec)

/-- ITS FALSE NEIGHBOUR: 'it returns false'. Refute it at one input. -/
def expandEachWrong : ChangeSpec := { name := "expandEach", fn := fun _ => fun
  | [d1, d2, d3] => { results := [.lit (.bool false)], args := [d1, d2, d3] }
  | _ => none }
def ExpandEachWrongFalsely : Prop := expandEachRow.holds Tryd.pinned (OpenSpec.ofChange expandEachWrong)

/-- 'errandlaw25.ExpandMember': WHATEVER THE INPUT: true; the input reads as it did. -/
def expandMemberSpec : ChangeSpec := { name := "expandMember", fn := fun _ => fun
  | [d1, d2, d3] => { results := [.lit (.bool true)], args := [d1, d2, d3] }
  | _ => none }
def expandMemberRow : OpenClaim := { program := "ytkbohijlhhpfbaadoor", sum := "d348d04cfbb86ba31a6640ba262bac27b9d6c66d8cbfc143f519dd57d0f2eff8", func := "errand/errandlaw25.ExpandMember", spec := "expandMember", unfollowed := true, recurses := true, named := ["errand/civil.before"], apart := false, laid := [("errand/civil.before", laid_errand_civil_before)] }
def ExpandMemberSaid : Prop := expandMemberRow.holds Tryd.pinned (OpenSpec.ofChange expandMemberSpec)

/-- ITS FALSE NEIGHBOUR: 'it returns false'. Refute it at one input. -/
def expandMemberWrong : ChangeSpec := { name := "expandMember", fn := fun _ => fun
  | [d1, d2, d3] => { results := [.lit (.bool false)], args := [d1, d2, d3] }
  | _ => none }
def ExpandMemberWrongFalsely : Prop := expandMemberRow.holds Tryd.pinned (OpenSpec.ofChange expandMemberWrong)

/- THE SECOND FORM. 'bulk': how many values and letters a reading holds, each counted each time it is reached (what is shared counts as often as it is met; a slice's spare places count too). A statement '..UptoSaid' is the law's where the arguments, and the package variables that the reading takes, are together of bulk at most 1048576: NARROWER than '..Said'. Prove '..Said' where nothing that the law and all that it calls make is longer than what came in: it says more and counts as full. Else prove '..UptoSaid'. A law counts once. -/
mutual
def uptoBulk {H : Type} : DataW H → Nat
  | .lit (.string bytes) => bytes.length + 1
  | .lit _ => 1
  | .nil => 1
  | .ptr d => uptoBulk d + 1
  | .slice elems spare => uptoBulkAll elems + uptoBulkAll spare + 1
  | .agg parts => uptoBulkAll parts + 1
  | .iface _ d => uptoBulk d + 1
  | .map entries => uptoBulkEntries entries + 1
  | .held _ => 1
def uptoBulkAll {H : Type} : List (DataW H) → Nat
  | [] => 0
  | d :: r => uptoBulk d + uptoBulkAll r
def uptoBulkEntries {H : Type} : List (Lit × DataW H) → Nat
  | [] => 0
  | x :: r => uptoBulkEntry x + uptoBulkEntries r
def uptoBulkEntry {H : Type} : Lit × DataW H → Nat
  | (.string bytes, d) => bytes.length + uptoBulk d + 1
  | (_, d) => uptoBulk d + 1
 end
def uptoSmall : (H : Type) → List (DataW H) → Bool := fun _ ds => decide (uptoBulkAll ds ≤ 1048576)
def OpenSpec.upto (s : _root_.Go.ChangeSpec) : _root_.Go.OpenSpec := { _root_.Go.OpenSpec.ofChange s with cond := some uptoSmall }

/-- 'errandlaw25.ExpandPicks', WHERE WHAT IT READS IS OF BULK AT MOST 1048576: true; the input reads as it did. -/
def expandPicksUptoRow : OpenClaim := { program := "ytkbohijlhhpfbaadoor", sum := "d348d04cfbb86ba31a6640ba262bac27b9d6c66d8cbfc143f519dd57d0f2eff8", func := "errand/errandlaw25.ExpandPicks", spec := "expandPicks", unfollowed := true, recurses := true, named := ["errand/civil.before"], apart := false, laid := [("errand/civil.before", laid_errand_civil_before)], narrowed := true }
def ExpandPicksUptoSaid : Prop := expandPicksUptoRow.holds Tryd.pinned (OpenSpec.upto expandPicksSpec)

/-- 'errandlaw25.ExpandEach', WHERE WHAT IT READS IS OF BULK AT MOST 1048576: true; the input reads as it did. -/
def expandEachUptoRow : OpenClaim := { program := "ytkbohijlhhpfbaadoor", sum := "d348d04cfbb86ba31a6640ba262bac27b9d6c66d8cbfc143f519dd57d0f2eff8", func := "errand/errandlaw25.ExpandEach", spec := "expandEach", unfollowed := true, recurses := true, named := ["errand/civil.before"], apart := false, laid := [("errand/civil.before", laid_errand_civil_before)], narrowed := true }
def ExpandEachUptoSaid : Prop := expandEachUptoRow.holds Tryd.pinned (OpenSpec.upto expandEachSpec)

/-- 'errandlaw25.ExpandMember', WHERE WHAT IT READS IS OF BULK AT MOST 1048576: true; the input reads as it did. -/
def expandMemberUptoRow : OpenClaim := { program := "ytkbohijlhhpfbaadoor", sum := "d348d04cfbb86ba31a6640ba262bac27b9d6c66d8cbfc143f519dd57d0f2eff8", func := "errand/errandlaw25.ExpandMember", spec := "expandMember", unfollowed := true, recurses := true, named := ["errand/civil.before"], apart := false, laid := [("errand/civil.before", laid_errand_civil_before)], narrowed := true }
def ExpandMemberUptoSaid : Prop := expandMemberUptoRow.holds Tryd.pinned (OpenSpec.upto expandMemberSpec)

end Rows
end Go.Proofs.YtkbohijlhhpfbaaDoor
