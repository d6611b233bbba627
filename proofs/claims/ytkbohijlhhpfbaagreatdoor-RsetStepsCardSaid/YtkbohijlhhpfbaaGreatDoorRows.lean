/-
  NARROWER THAN 'FOR EVERY INPUT', by the rows' own cells (each row's printed sentence says how): ExpandTells: laid · RsetWindows: laid · RsetNext: laid · RsetMember: laid · RsetParts: laid · RsetSteps: laid.
  DERIVED. THE GIVEN ROWS OF THIS SEAT. 6 by the template 'for every input the law returns true; each argument reads behind the call as it read before'; 0 by the template 'total and deterministic' (their statements: YtkbohijlhhpfbaaGreatDoorTotals.lean).
  GIVEN WITH THE SEED: the statements are not yours to turn. If you find one false, say at which input.
  Laid BY PROGRAM, IN A SANDBOX (cutbox-rows.mjs): the forced cells as the released guide's own fill.sh prints them over the translation 2e3a48e4d1cea0a3… (all of the seat's roots in one cut). By AI agents, Wed Nov 11 2026. No macro, syntax, notation, axiom, sorry.
-/
import Derived.Test.YtkbohijlhhpfbaaGreatDoorChecked
import GoSem.Claim
import GoSem.ClaimJoined
import GoSem.ClaimMapViews
import Derived.JoinedTies
import Derived.KernelRfl
namespace Go.Proofs.YtkbohijlhhpfbaaGreatDoor
/- THE CELL 'sum', in the pinned program and in every row, IS THE sha256 OF THE DUMP (.gsa) THAT YtkbohijlhhpfbaaGreatDoorProg.lean LOADS. Nothing in Lean hashes anything: it is a label: what it is worth is what the hold of that sum in a sandbox is worth. -/
noncomputable def Tryz.pinned : Pinned := { name := "ytkbohijlhhpfbaagreatdoor", sum := "2e3a48e4d1cea0a362eaacef88bd974bfb7c176d275b283f8521e38b86ca12b7", checked := Tryz.checked }
namespace Rows
def none {H : Type} : Left H := { results := [], args := [] }

/- WHAT THE LISTED PACKAGE-LEVEL VARIABLES READ AS WHEN THE CALL BEGINS. Each datum BY PROGRAM (the guide's laid-datum.mjs) off the statement by which the dump's own 'gosem.cut.vars' lays the variable. In a bare row this is a premise. The card (YtkbohijlhhpfbaaGreatDoorCards.lean) ties it to the program's text. -/
def laid_errand_civil_before {H : Type} : DataW H := .agg [.lit (.int .i64 0), .lit (.int .i64 31), .lit (.int .i64 59), .lit (.int .i64 90), .lit (.int .i64 120), .lit (.int .i64 151), .lit (.int .i64 181), .lit (.int .i64 212), .lit (.int .i64 243), .lit (.int .i64 273), .lit (.int .i64 304), .lit (.int .i64 334), .lit (.int .i64 365)]

/-- 'errandlaw25.ExpandTells': WHATEVER THE INPUT: true; the input reads as it did. -/
def expandTellsSpec : ChangeSpec := { name := "expandTells", fn := fun _ => fun
  | [d1, d2, d3] => { results := [.lit (.bool true)], args := [d1, d2, d3] }
  | _ => none }
def expandTellsRow : OpenClaim := { program := "ytkbohijlhhpfbaagreatdoor", sum := "2e3a48e4d1cea0a362eaacef88bd974bfb7c176d275b283f8521e38b86ca12b7", func := "errand/errandlaw25.ExpandTells", spec := "expandTells", unfollowed := true, recurses := true, named := ["errand/civil.before"], apart := false, laid := [("errand/civil.before", laid_errand_civil_before)] }
def ExpandTellsSaid : Prop := expandTellsRow.holds Tryz.pinned (OpenSpec.ofChange expandTellsSpec)

/-- ITS FALSE NEIGHBOUR: 'it returns false'. Refute it at one input. -/
def expandTellsWrong : ChangeSpec := { name := "expandTells", fn := fun _ => fun
  | [d1, d2, d3] => { results := [.lit (.bool false)], args := [d1, d2, d3] }
  | _ => none }
def ExpandTellsWrongFalsely : Prop := expandTellsRow.holds Tryz.pinned (OpenSpec.ofChange expandTellsWrong)

/-- 'errandlaw26.RsetWindows': WHATEVER THE INPUT: true; the input reads as it did. -/
def rsetWindowsSpec : ChangeSpec := { name := "rsetWindows", fn := fun _ => fun
  | [d1, d2] => { results := [.lit (.bool true)], args := [d1, d2] }
  | _ => none }
def rsetWindowsRow : OpenClaim := { program := "ytkbohijlhhpfbaagreatdoor", sum := "2e3a48e4d1cea0a362eaacef88bd974bfb7c176d275b283f8521e38b86ca12b7", func := "errand/errandlaw26.RsetWindows", spec := "rsetWindows", unfollowed := true, recurses := true, named := ["errand/civil.before"], apart := false, laid := [("errand/civil.before", laid_errand_civil_before)] }
def RsetWindowsSaid : Prop := rsetWindowsRow.holds Tryz.pinned (OpenSpec.ofChange rsetWindowsSpec)

/-- ITS FALSE NEIGHBOUR: 'it returns false'. Refute it at one input. -/
def rsetWindowsWrong : ChangeSpec := { name := "rsetWindows", fn := fun _ => fun
  | [d1, d2] => { results := [.lit (.bool false)], args := [d1, d2] }
  | _ => none }
def RsetWindowsWrongFalsely : Prop := rsetWindowsRow.holds Tryz.pinned (OpenSpec.ofChange rsetWindowsWrong)

/-- 'errandlaw26.RsetNext': WHATEVER THE INPUT: true; the input reads as it did. -/
def rsetNextSpec : ChangeSpec := { name := "rsetNext", fn := fun _ => fun
  | [d1, d2, d3] => { results := [.lit (.bool true)], args := [d1, d2, d3] }
  | _ => none }
def rsetNextRow : OpenClaim := { program := "ytkbohijlhhpfbaagreatdoor", sum := "2e3a48e4d1cea0a362eaacef88bd974bfb7c176d275b283f8521e38b86ca12b7", func := "errand/errandlaw26.RsetNext", spec := "rsetNext", unfollowed := true, recurses := true, named := ["errand/civil.before"], apart := false, laid := [("errand/civil.before", laid_errand_civil_before)] }
def RsetNextSaid : Prop := rsetNextRow.holds Tryz.pinned (OpenSpec.ofChange rsetNextSpec)

/-- ITS FALSE NEIGHBOUR: 'it returns false'. Refute it at one input. -/
def rsetNextWrong : ChangeSpec := { name := "rsetNext", fn := fun _ => fun
  | [d1, d2, d3] => { results := [.lit (.bool false)], args := [d1, d2, d3] }
  | _ => none }
def RsetNextWrongFalsely : Prop := rsetNextRow.holds Tryz.pinned (OpenSpec.ofChange rsetNextWrong)

/-- 'errandlaw26.RsetMember': WHATEVER THE INPUT: true; the input reads as it did. -/
def rsetMemberSpec : ChangeSpec := { name := "rsetMember", fn := fun _ => fun
  | [d1, d2] => { results := [.lit (.bool true)], args := [d1, d2] }
  | _ => none }
def rsetMemberRow : OpenClaim := { program := "ytkbohijlhhpfbaagreatdoor", sum := "2e3a48e4d1cea0a362eaacef88bd974bfb7c176d275b283f8521e38b86ca12b7", func := "errand/errandlaw26.RsetMember", spec := "rsetMember", unfollowed := true, recurses := true, named := ["errand/civil.before"], apart := false, laid := [("errand/civil.before", laid_errand_civil_before)] }
def RsetMemberSaid : Prop := rsetMemberRow.holds Tryz.pinned (OpenSpec.ofChange rsetMemberSpec)

/-- ITS FALSE NEIGHBOUR: 'it returns false'. Refute it at one input. -/
def rsetMemberWrong : ChangeSpec := { name := "rsetMember", fn := fun _ => fun
  | [d1, d2] => { results := [.lit (.bool false)], args := [d1, d2] }
  | _ => none }
def RsetMemberWrongFalsely : Prop := rsetMemberRow.holds Tryz.pinned (OpenSpec.ofChange rsetMemberWrong)

/-- 'errandlaw26.RsetParts': WHATEVER THE INPUT: true; the input reads as it did. -/
def rsetPartsSpec : ChangeSpec := { name := "rsetParts", fn := fun _ => fun
  | [d1, d2, d3] => { results := [.lit (.bool true)], args := [d1, d2, d3] }
  | _ => none }
def rsetPartsRow : OpenClaim := { program := "ytkbohijlhhpfbaagreatdoor", sum := "2e3a48e4d1cea0a362eaacef88bd974bfb7c176d275b283f8521e38b86ca12b7", func := "errand/errandlaw26.RsetParts", spec := "rsetParts", unfollowed := true, recurses := true, named := ["errand/civil.before"], apart := false, laid := [("errand/civil.before", laid_errand_civil_before)] }
def RsetPartsSaid : Prop := rsetPartsRow.holds Tryz.pinned (OpenSpec.ofChange rsetPartsSpec)

/-- ITS FALSE NEIGHBOUR: 'it returns false'. Refute it at one input. -/
def rsetPartsWrong : ChangeSpec := { name := "rsetParts", fn := fun _ => fun
  | [d1, d2, d3] => { results := [.lit (.bool false)], args := [d1, d2, d3] }
  | _ => none }
def RsetPartsWrongFalsely : Prop := rsetPartsRow.holds Tryz.pinned (OpenSpec.ofChange rsetPartsWrong)

/-- 'errandlaw26.RsetSteps': WHATEVER THE INPUT: true; the input reads as it did. -/
def rsetStepsSpec : ChangeSpec := { name := "rsetSteps", fn := fun _ => fun
  | [d1, d2] => { results := [.lit (.bool true)], args := [d1, d2] }
  | _ => none }
def rsetStepsRow : OpenClaim := { program := "ytkbohijlhhpfbaagreatdoor", sum := "2e3a48e4d1cea0a362eaacef88bd974bfb7c176d275b283f8521e38b86ca12b7", func := "errand/errandlaw26.RsetSteps", spec := "rsetSteps", unfollowed := true, recurses := true, named := ["errand/civil.before"], apart := false, laid := [("errand/civil.before", laid_errand_civil_before)] }
def RsetStepsSaid : Prop := rsetStepsRow.holds Tryz.pinned (OpenSpec.ofChange rsetStepsSpec)

/-- ITS FALSE NEIGHBOUR: 'it returns false'. Refute it at one input. -/
def rsetStepsWrong : ChangeSpec := { name := "rsetSteps", fn := fun _ => fun
  | [d1, d2] => { results := [.lit (.bool false)], args := [d1, d2] }
  | _ => none }
def RsetStepsWrongFalsely : Prop := rsetStepsRow.holds Tryz.pinned (OpenSpec.ofChange rsetStepsWrong)

/- THE SECOND FORM. 'bulk': how many values and letters a reading holds, each counted each time it is reached (what is shared counts as often as it is met; a slice's spare places count too). A statement '..UptoSaid' is the law's where the arguments, and the package variables that the reading takes, are together of bulk at most 1048576: NARROWER than '..Said'. Prove '..Said' where nothing that the law and all that it calls make is longer than what came in: it says more and counts as full. Else prove '..UptoSaid'. A law counts once. -/
mutual
def uptoBulk {H : Type} : DataW H → Nat
  | .lit (.string bytes) => bytes.length + 1
  | .lit _ => 1
  | .nil => 1
  | .ptr d => uptoBulk d + 1
  | .slice elems spare => uptoBulkAll elems + uptoBulkAll spare + 1
  | .agg parts => uptoBulkAll parts + 1
  | .iface _ d => uptoBulk d + 1
  | .map entries => uptoBulkEntries entries + 1
  | .held _ => 1
def uptoBulkAll {H : Type} : List (DataW H) → Nat
  | [] => 0
  | d :: r => uptoBulk d + uptoBulkAll r
def uptoBulkEntries {H : Type} : List (Lit × DataW H) → Nat
  | [] => 0
  | x :: r => uptoBulkEntry x + uptoBulkEntries r
def uptoBulkEntry {H : Type} : Lit × DataW H → Nat
  | (.string bytes, d) => bytes.length + uptoBulk d + 1
  | (_, d) => uptoBulk d + 1
 end
def uptoSmall : (H : Type) → List (DataW H) → Bool := fun _ ds => decide (uptoBulkAll ds ≤ 1048576)
def OpenSpec.upto (s : _root_.Go.ChangeSpec) : _root_.Go.OpenSpec := { _root_.Go.OpenSpec.ofChange s with cond := some uptoSmall }

/-- 'errandlaw25.ExpandTells', WHERE WHAT IT READS IS OF BULK AT MOST 1048576: true; the input reads as it did. -/
def expandTellsUptoRow : OpenClaim := { program := "ytkbohijlhhpfbaagreatdoor", sum := "2e3a48e4d1cea0a362eaacef88bd974bfb7c176d275b283f8521e38b86ca12b7", func := "errand/errandlaw25.ExpandTells", spec := "expandTells", unfollowed := true, recurses := true, named := ["errand/civil.before"], apart := false, laid := [("errand/civil.before", laid_errand_civil_before)], narrowed := true }
def ExpandTellsUptoSaid : Prop := expandTellsUptoRow.holds Tryz.pinned (OpenSpec.upto expandTellsSpec)

/-- 'errandlaw26.RsetWindows', WHERE WHAT IT READS IS OF BULK AT MOST 1048576: true; the input reads as it did. -/
def rsetWindowsUptoRow : OpenClaim := { program := "ytkbohijlhhpfbaagreatdoor", sum := "2e3a48e4d1cea0a362eaacef88bd974bfb7c176d275b283f8521e38b86ca12b7", func := "errand/errandlaw26.RsetWindows", spec := "rsetWindows", unfollowed := true, recurses := true, named := ["errand/civil.before"], apart := false, laid := [("errand/civil.before", laid_errand_civil_before)], narrowed := true }
def RsetWindowsUptoSaid : Prop := rsetWindowsUptoRow.holds Tryz.pinned (OpenSpec.upto rsetWindowsSpec)

/-- 'errandlaw26.RsetNext', WHERE WHAT IT READS IS OF BULK AT MOST 1048576: true; the input reads as it did. -/
def rsetNextUptoRow : OpenClaim := { program := "ytkbohijlhhpfbaagreatdoor", sum := "2e3a48e4d1cea0a362eaacef88bd974bfb7c176d275b283f8521e38b86ca12b7", func := "errand/errandlaw26.RsetNext", spec := "rsetNext", unfollowed := true, recurses := true, named := ["errand/civil.before"], apart := false, laid := [("errand/civil.before", laid_errand_civil_before)], narrowed := true }
def RsetNextUptoSaid : Prop := rsetNextUptoRow.holds Tryz.pinned (OpenSpec.upto rsetNextSpec)

/-- 'errandlaw26.RsetMember', WHERE WHAT IT READS IS OF BULK AT MOST 1048576: true; the input reads as it did. -/
def rsetMemberUptoRow : OpenClaim := { program := "ytkbohijlhhpfbaagreatdoor", sum := "2e3a48e4d1cea0a362eaacef88bd974bfb7c176d275b283f8521e38b86ca12b7", func := "errand/errandlaw26.RsetMember", spec := "rsetMember", unfollowed := true, recurses := true, named := ["errand/civil.before"], apart := false, laid := [("errand/civil.before", laid_errand_civil_before)], narrowed := true }
def RsetMemberUptoSaid : Prop := rsetMemberUptoRow.holds Tryz.pinned (OpenSpec.upto rsetMemberSpec)

/-- 'errandlaw26.RsetParts', WHERE WHAT IT READS IS OF BULK AT MOST 1048576: true; the input reads as it did. -/
def rsetPartsUptoRow : OpenClaim := { program := "ytkbohijlhhpfbaagreatdoor", sum := "2e3a48e4d1cea0a362eaacef88bd974bfb7c176d275b283f8521e38b86ca12b7", func := "errand/errandlaw26.RsetParts", spec := "rsetParts", unfollowed := true, recurses := true, named := ["errand/civil.before"], apart := false, laid := [("errand/civil.before", laid_errand_civil_before)], narrowed := true }
def RsetPartsUptoSaid : Prop := rsetPartsUptoRow.holds Tryz.pinned (OpenSpec.upto rsetPartsSpec)

/-- 'errandlaw26.RsetSteps', WHERE WHAT IT READS IS OF BULK AT MOST 1048576: true; the input reads as it did. -/
def rsetStepsUptoRow : OpenClaim := { program := "ytkbohijlhhpfbaagreatdoor", sum := "2e3a48e4d1cea0a362eaacef88bd974bfb7c176d275b283f8521e38b86ca12b7", func := "errand/errandlaw26.RsetSteps", spec := "rsetSteps", unfollowed := true, recurses := true, named := ["errand/civil.before"], apart := false, laid := [("errand/civil.before", laid_errand_civil_before)], narrowed := true }
def RsetStepsUptoSaid : Prop := rsetStepsUptoRow.holds Tryz.pinned (OpenSpec.upto rsetStepsSpec)

end Rows
end Go.Proofs.YtkbohijlhhpfbaaGreatDoor
