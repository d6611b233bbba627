/-
  NARROWER THAN 'FOR EVERY INPUT', by the rows' own cells (each row's printed sentence says how): MomentParses: laid · MomentTells: laid · MomentBack: laid · MomentOrder: laid.
  DERIVED. THE GIVEN ROWS OF THIS SEAT. 4 by the template 'for every input the law returns true; each argument reads behind the call as it read before'; 0 by the template 'total and deterministic' (their statements: YtbjiiejgepgdeaaDoorTotals.lean).
  GIVEN WITH THE SEED: the statements are not yours to turn. If you find one false, say at which input.
  Laid BY PROGRAM, IN A SANDBOX (cutbox-rows.mjs): the forced cells as the released guide's own fill.sh prints them over the translation 24b50ae6198f487f… (all of the seat's roots in one cut). By AI agents, Wed Nov 11 2026. No macro, syntax, notation, axiom, sorry.
-/
import Derived.Test.YtbjiiejgepgdeaaDoorChecked
import GoSem.Claim
import GoSem.ClaimJoined
import GoSem.ClaimMapViews
import Derived.JoinedTies
import Derived.KernelRfl
namespace Go.Proofs.YtbjiiejgepgdeaaDoor
/- THE CELL 'sum', in the pinned program and in every row, IS THE sha256 OF THE DUMP (.gsa) THAT YtbjiiejgepgdeaaDoorProg.lean LOADS. Nothing in Lean hashes anything: it is a label: what it is worth is what the hold of that sum in a sandbox is worth. -/
noncomputable def Tryd.pinned : Pinned := { name := "ytbjiiejgepgdeaadoor", sum := "24b50ae6198f487fea7dc0f1385d1ee0e3b64823ae0e497ae3563c56524b9d76", checked := Tryd.checked }
namespace Rows
def none {H : Type} : Left H := { results := [], args := [] }

/- WHAT THE LISTED PACKAGE-LEVEL VARIABLES READ AS WHEN THE CALL BEGINS. Each datum BY PROGRAM (the guide's laid-datum.mjs) off the statement by which the dump's own 'gosem.cut.vars' lays the variable. In a bare row this is a premise. The card (YtbjiiejgepgdeaaDoorCards.lean) ties it to the program's text. -/
def laid_errand_civil_before {H : Type} : DataW H := .agg [.lit (.int .i64 0), .lit (.int .i64 31), .lit (.int .i64 59), .lit (.int .i64 90), .lit (.int .i64 120), .lit (.int .i64 151), .lit (.int .i64 181), .lit (.int .i64 212), .lit (.int .i64 243), .lit (.int .i64 273), .lit (.int .i64 304), .lit (.int .i64 334), .lit (.int .i64 365)]

/-- 'errandlaw11.MomentParses': WHATEVER THE INPUT: true; the input reads as it did. -/
def momentParsesSpec : ChangeSpec := { name := "momentParses", fn := fun _ => fun
  | [d] => { results := [.lit (.bool true)], args := [d] }
  | _ => none }
def momentParsesRow : OpenClaim := { program := "ytbjiiejgepgdeaadoor", sum := "24b50ae6198f487fea7dc0f1385d1ee0e3b64823ae0e497ae3563c56524b9d76", func := "errand/errandlaw11.MomentParses", spec := "momentParses", named := ["errand/civil.before"], apart := false, laid := [("errand/civil.before", laid_errand_civil_before)] }
def MomentParsesSaid : Prop := momentParsesRow.holds Tryd.pinned (OpenSpec.ofChange momentParsesSpec)

/-- ITS FALSE NEIGHBOUR: 'it returns false'. Refute it at one input. -/
def momentParsesWrong : ChangeSpec := { name := "momentParses", fn := fun _ => fun
  | [d] => { results := [.lit (.bool false)], args := [d] }
  | _ => none }
def MomentParsesWrongFalsely : Prop := momentParsesRow.holds Tryd.pinned (OpenSpec.ofChange momentParsesWrong)

/-- 'errandlaw11.MomentTells': WHATEVER THE INPUT: true; the input reads as it did. -/
def momentTellsSpec : ChangeSpec := { name := "momentTells", fn := fun _ => fun
  | [d] => { results := [.lit (.bool true)], args := [d] }
  | _ => none }
def momentTellsRow : OpenClaim := { program := "ytbjiiejgepgdeaadoor", sum := "24b50ae6198f487fea7dc0f1385d1ee0e3b64823ae0e497ae3563c56524b9d76", func := "errand/errandlaw11.MomentTells", spec := "momentTells", named := ["errand/civil.before"], apart := false, laid := [("errand/civil.before", laid_errand_civil_before)] }
def MomentTellsSaid : Prop := momentTellsRow.holds Tryd.pinned (OpenSpec.ofChange momentTellsSpec)

/-- ITS FALSE NEIGHBOUR: 'it returns false'. Refute it at one input. -/
def momentTellsWrong : ChangeSpec := { name := "momentTells", fn := fun _ => fun
  | [d] => { results := [.lit (.bool false)], args := [d] }
  | _ => none }
def MomentTellsWrongFalsely : Prop := momentTellsRow.holds Tryd.pinned (OpenSpec.ofChange momentTellsWrong)

/-- 'errandlaw11.MomentBack': WHATEVER THE INPUT: true; the input reads as it did. -/
def momentBackSpec : ChangeSpec := { name := "momentBack", fn := fun _ => fun
  | [d1, d2, d3] => { results := [.lit (.bool true)], args := [d1, d2, d3] }
  | _ => none }
def momentBackRow : OpenClaim := { program := "ytbjiiejgepgdeaadoor", sum := "24b50ae6198f487fea7dc0f1385d1ee0e3b64823ae0e497ae3563c56524b9d76", func := "errand/errandlaw11.MomentBack", spec := "momentBack", named := ["errand/civil.before"], apart := false, laid := [("errand/civil.before", laid_errand_civil_before)] }
def MomentBackSaid : Prop := momentBackRow.holds Tryd.pinned (OpenSpec.ofChange momentBackSpec)

/-- ITS FALSE NEIGHBOUR: 'it returns false'. Refute it at one input. -/
def momentBackWrong : ChangeSpec := { name := "momentBack", fn := fun _ => fun
  | [d1, d2, d3] => { results := [.lit (.bool false)], args := [d1, d2, d3] }
  | _ => none }
def MomentBackWrongFalsely : Prop := momentBackRow.holds Tryd.pinned (OpenSpec.ofChange momentBackWrong)

/-- 'errandlaw11.MomentOrder': WHATEVER THE INPUT: true; the input reads as it did. -/
def momentOrderSpec : ChangeSpec := { name := "momentOrder", fn := fun _ => fun
  | [d1, d2] => { results := [.lit (.bool true)], args := [d1, d2] }
  | _ => none }
def momentOrderRow : OpenClaim := { program := "ytbjiiejgepgdeaadoor", sum := "24b50ae6198f487fea7dc0f1385d1ee0e3b64823ae0e497ae3563c56524b9d76", func := "errand/errandlaw11.MomentOrder", spec := "momentOrder", named := ["errand/civil.before"], apart := false, laid := [("errand/civil.before", laid_errand_civil_before)] }
def MomentOrderSaid : Prop := momentOrderRow.holds Tryd.pinned (OpenSpec.ofChange momentOrderSpec)

/-- ITS FALSE NEIGHBOUR: 'it returns false'. Refute it at one input. -/
def momentOrderWrong : ChangeSpec := { name := "momentOrder", fn := fun _ => fun
  | [d1, d2] => { results := [.lit (.bool false)], args := [d1, d2] }
  | _ => none }
def MomentOrderWrongFalsely : Prop := momentOrderRow.holds Tryd.pinned (OpenSpec.ofChange momentOrderWrong)

/- THE SECOND FORM. 'bulk': how many values and letters a reading holds, each counted each time it is reached (what is shared counts as often as it is met; a slice's spare places count too). A statement '..UptoSaid' is the law's where the arguments, and the package variables that the reading takes, are together of bulk at most 1048576: NARROWER than '..Said'. Prove '..Said' where nothing that the law and all that it calls make is longer than what came in: it says more and counts as full. Else prove '..UptoSaid'. A law counts once. -/
mutual
def uptoBulk {H : Type} : DataW H → Nat
  | .lit (.string bytes) => bytes.length + 1
  | .lit _ => 1
  | .nil => 1
  | .ptr d => uptoBulk d + 1
  | .slice elems spare => uptoBulkAll elems + uptoBulkAll spare + 1
  | .agg parts => uptoBulkAll parts + 1
  | .iface _ d => uptoBulk d + 1
  | .map entries => uptoBulkEntries entries + 1
  | .held _ => 1
def uptoBulkAll {H : Type} : List (DataW H) → Nat
  | [] => 0
  | d :: r => uptoBulk d + uptoBulkAll r
def uptoBulkEntries {H : Type} : List (Lit × DataW H) → Nat
  | [] => 0
  | x :: r => uptoBulkEntry x + uptoBulkEntries r
def uptoBulkEntry {H : Type} : Lit × DataW H → Nat
  | (.string bytes, d) => bytes.length + uptoBulk d + 1
  | (_, d) => uptoBulk d + 1
 end
def uptoSmall : (H : Type) → List (DataW H) → Bool := fun _ ds => decide (uptoBulkAll ds ≤ 1048576)
def OpenSpec.upto (s : _root_.Go.ChangeSpec) : _root_.Go.OpenSpec := { _root_.Go.OpenSpec.ofChange s with cond := some uptoSmall }

/-- 'errandlaw11.MomentParses', WHERE WHAT IT READS IS OF BULK AT MOST 1048576: true; the input reads as it did. -/
def momentParsesUptoRow : OpenClaim := { program := "ytbjiiejgepgdeaadoor", sum := "24b50ae6198f487fea7dc0f1385d1ee0e3b64823ae0e497ae3563c56524b9d76", func := "errand/errandlaw11.MomentParses", spec := "momentParses", named := ["errand/civil.before"], apart := false, laid := [("errand/civil.before", laid_errand_civil_before)], narrowed := true }
def MomentParsesUptoSaid : Prop := momentParsesUptoRow.holds Tryd.pinned (OpenSpec.upto momentParsesSpec)

/-- 'errandlaw11.MomentTells', WHERE WHAT IT READS IS OF BULK AT MOST 1048576: true; the input reads as it did. -/
def momentTellsUptoRow : OpenClaim := { program := "ytbjiiejgepgdeaadoor", sum := "24b50ae6198f487fea7dc0f1385d1ee0e3b64823ae0e497ae3563c56524b9d76", func := "errand/errandlaw11.MomentTells", spec := "momentTells", named := ["errand/civil.before"], apart := false, laid := [("errand/civil.before", laid_errand_civil_before)], narrowed := true }
def MomentTellsUptoSaid : Prop := momentTellsUptoRow.holds Tryd.pinned (OpenSpec.upto momentTellsSpec)

/-- 'errandlaw11.MomentBack', WHERE WHAT IT READS IS OF BULK AT MOST 1048576: true; the input reads as it did. -/
def momentBackUptoRow : OpenClaim := { program := "ytbjiiejgepgdeaadoor", sum := "24b50ae6198f487fea7dc0f1385d1ee0e3b64823ae0e497ae3563c56524b9d76", func := "errand/errandlaw11.MomentBack", spec := "momentBack", named := ["errand/civil.before"], apart := false, laid := [("errand/civil.before", laid_errand_civil_before)], narrowed := true }
def MomentBackUptoSaid : Prop := momentBackUptoRow.holds Tryd.pinned (OpenSpec.upto momentBackSpec)

/-- 'errandlaw11.MomentOrder', WHERE WHAT IT READS IS OF BULK AT MOST 1048576: true; the input reads as it did. -/
def momentOrderUptoRow : OpenClaim := { program := "ytbjiiejgepgdeaadoor", sum := "24b50ae6198f487fea7dc0f1385d1ee0e3b64823ae0e497ae3563c56524b9d76", func := "errand/errandlaw11.MomentOrder", spec := "momentOrder", named := ["errand/civil.before"], apart := false, laid := [("errand/civil.before", laid_errand_civil_before)], narrowed := true }
def MomentOrderUptoSaid : Prop := momentOrderUptoRow.holds Tryd.pinned (OpenSpec.upto momentOrderSpec)

end Rows
end Go.Proofs.YtbjiiejgepgdeaaDoor
