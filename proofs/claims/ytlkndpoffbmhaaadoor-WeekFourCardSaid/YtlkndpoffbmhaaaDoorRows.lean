/-
  NARROWER THAN 'FOR EVERY INPUT', by the rows' own cells (each row's printed sentence says how): CivilDates: laid · CivilDays: laid · CivilBack: laid · CivilCycle: laid · WeekTells: laid · WeekYears: laid · WeekGoes: laid · WeekFour: laid.
  DERIVED. THE GIVEN ROWS OF THIS SEAT. 8 by the template 'for every input the law returns true; each argument reads behind the call as it read before'; 0 by the template 'total and deterministic' (their statements: YtlkndpoffbmhaaaDoorTotals.lean).
  GIVEN WITH THE SEED: the statements are not yours to turn. If you find one false, say at which input.
  Laid BY PROGRAM, IN A SANDBOX (cutbox-rows.mjs): the forced cells as the released guide's own fill.sh prints them over the translation 6d228f244ebf038e… (all of the seat's roots in one cut). By AI agents, Wed Nov 11 2026. No macro, syntax, notation, axiom, sorry.
-/
import Derived.Test.YtlkndpoffbmhaaaDoorChecked
import GoSem.Claim
import GoSem.ClaimJoined
import GoSem.ClaimMapViews
import Derived.JoinedTies
import Derived.KernelRfl
namespace Go.Proofs.YtlkndpoffbmhaaaDoor
/- THE CELL 'sum', in the pinned program and in every row, IS THE sha256 OF THE DUMP (.gsa) THAT YtlkndpoffbmhaaaDoorProg.lean LOADS. Nothing in Lean hashes anything: it is a label: what it is worth is what the hold of that sum in a sandbox is worth. -/
noncomputable def Tryd.pinned : Pinned := { name := "ytlkndpoffbmhaaadoor", sum := "6d228f244ebf038e2b78e660692fd3b9c97615c0f8b268e374e5735fea397b11", checked := Tryd.checked }
namespace Rows
def none {H : Type} : Left H := { results := [], args := [] }

/- WHAT THE LISTED PACKAGE-LEVEL VARIABLES READ AS WHEN THE CALL BEGINS. Each datum BY PROGRAM (the guide's laid-datum.mjs) off the statement by which the dump's own 'gosem.cut.vars' lays the variable. In a bare row this is a premise. The card (YtlkndpoffbmhaaaDoorCards.lean) ties it to the program's text. -/
def laid_errand_civil_before {H : Type} : DataW H := .agg [.lit (.int .i64 0), .lit (.int .i64 31), .lit (.int .i64 59), .lit (.int .i64 90), .lit (.int .i64 120), .lit (.int .i64 151), .lit (.int .i64 181), .lit (.int .i64 212), .lit (.int .i64 243), .lit (.int .i64 273), .lit (.int .i64 304), .lit (.int .i64 334), .lit (.int .i64 365)]

/-- 'errandlaw09.CivilDates': WHATEVER THE INPUT: true; the input reads as it did. -/
def civilDatesSpec : ChangeSpec := { name := "civilDates", fn := fun _ => fun
  | [d1, d2, d3] => { results := [.lit (.bool true)], args := [d1, d2, d3] }
  | _ => none }
def civilDatesRow : OpenClaim := { program := "ytlkndpoffbmhaaadoor", sum := "6d228f244ebf038e2b78e660692fd3b9c97615c0f8b268e374e5735fea397b11", func := "errand/errandlaw09.CivilDates", spec := "civilDates", named := ["errand/civil.before"], apart := false, laid := [("errand/civil.before", laid_errand_civil_before)] }
def CivilDatesSaid : Prop := civilDatesRow.holds Tryd.pinned (OpenSpec.ofChange civilDatesSpec)

/-- ITS FALSE NEIGHBOUR: 'it returns false'. Refute it at one input. -/
def civilDatesWrong : ChangeSpec := { name := "civilDates", fn := fun _ => fun
  | [d1, d2, d3] => { results := [.lit (.bool false)], args := [d1, d2, d3] }
  | _ => none }
def CivilDatesWrongFalsely : Prop := civilDatesRow.holds Tryd.pinned (OpenSpec.ofChange civilDatesWrong)

/-- 'errandlaw09.CivilDays': WHATEVER THE INPUT: true; the input reads as it did. -/
def civilDaysSpec : ChangeSpec := { name := "civilDays", fn := fun _ => fun
  | [d] => { results := [.lit (.bool true)], args := [d] }
  | _ => none }
def civilDaysRow : OpenClaim := { program := "ytlkndpoffbmhaaadoor", sum := "6d228f244ebf038e2b78e660692fd3b9c97615c0f8b268e374e5735fea397b11", func := "errand/errandlaw09.CivilDays", spec := "civilDays", named := ["errand/civil.before"], apart := false, laid := [("errand/civil.before", laid_errand_civil_before)] }
def CivilDaysSaid : Prop := civilDaysRow.holds Tryd.pinned (OpenSpec.ofChange civilDaysSpec)

/-- ITS FALSE NEIGHBOUR: 'it returns false'. Refute it at one input. -/
def civilDaysWrong : ChangeSpec := { name := "civilDays", fn := fun _ => fun
  | [d] => { results := [.lit (.bool false)], args := [d] }
  | _ => none }
def CivilDaysWrongFalsely : Prop := civilDaysRow.holds Tryd.pinned (OpenSpec.ofChange civilDaysWrong)

/-- 'errandlaw09.CivilBack': WHATEVER THE INPUT: true; the input reads as it did. -/
def civilBackSpec : ChangeSpec := { name := "civilBack", fn := fun _ => fun
  | [d] => { results := [.lit (.bool true)], args := [d] }
  | _ => none }
def civilBackRow : OpenClaim := { program := "ytlkndpoffbmhaaadoor", sum := "6d228f244ebf038e2b78e660692fd3b9c97615c0f8b268e374e5735fea397b11", func := "errand/errandlaw09.CivilBack", spec := "civilBack", named := ["errand/civil.before"], apart := false, laid := [("errand/civil.before", laid_errand_civil_before)] }
def CivilBackSaid : Prop := civilBackRow.holds Tryd.pinned (OpenSpec.ofChange civilBackSpec)

/-- ITS FALSE NEIGHBOUR: 'it returns false'. Refute it at one input. -/
def civilBackWrong : ChangeSpec := { name := "civilBack", fn := fun _ => fun
  | [d] => { results := [.lit (.bool false)], args := [d] }
  | _ => none }
def CivilBackWrongFalsely : Prop := civilBackRow.holds Tryd.pinned (OpenSpec.ofChange civilBackWrong)

/-- 'errandlaw09.CivilCycle': WHATEVER THE INPUT: true; the input reads as it did. -/
def civilCycleSpec : ChangeSpec := { name := "civilCycle", fn := fun _ => fun
  | [d1, d2, d3] => { results := [.lit (.bool true)], args := [d1, d2, d3] }
  | _ => none }
def civilCycleRow : OpenClaim := { program := "ytlkndpoffbmhaaadoor", sum := "6d228f244ebf038e2b78e660692fd3b9c97615c0f8b268e374e5735fea397b11", func := "errand/errandlaw09.CivilCycle", spec := "civilCycle", named := ["errand/civil.before"], apart := false, laid := [("errand/civil.before", laid_errand_civil_before)] }
def CivilCycleSaid : Prop := civilCycleRow.holds Tryd.pinned (OpenSpec.ofChange civilCycleSpec)

/-- ITS FALSE NEIGHBOUR: 'it returns false'. Refute it at one input. -/
def civilCycleWrong : ChangeSpec := { name := "civilCycle", fn := fun _ => fun
  | [d1, d2, d3] => { results := [.lit (.bool false)], args := [d1, d2, d3] }
  | _ => none }
def CivilCycleWrongFalsely : Prop := civilCycleRow.holds Tryd.pinned (OpenSpec.ofChange civilCycleWrong)

/-- 'errandlaw10.WeekTells': WHATEVER THE INPUT: true; the input reads as it did. -/
def weekTellsSpec : ChangeSpec := { name := "weekTells", fn := fun _ => fun
  | [d1, d2] => { results := [.lit (.bool true)], args := [d1, d2] }
  | _ => none }
def weekTellsRow : OpenClaim := { program := "ytlkndpoffbmhaaadoor", sum := "6d228f244ebf038e2b78e660692fd3b9c97615c0f8b268e374e5735fea397b11", func := "errand/errandlaw10.WeekTells", spec := "weekTells", named := ["errand/civil.before"], apart := false, laid := [("errand/civil.before", laid_errand_civil_before)] }
def WeekTellsSaid : Prop := weekTellsRow.holds Tryd.pinned (OpenSpec.ofChange weekTellsSpec)

/-- ITS FALSE NEIGHBOUR: 'it returns false'. Refute it at one input. -/
def weekTellsWrong : ChangeSpec := { name := "weekTells", fn := fun _ => fun
  | [d1, d2] => { results := [.lit (.bool false)], args := [d1, d2] }
  | _ => none }
def WeekTellsWrongFalsely : Prop := weekTellsRow.holds Tryd.pinned (OpenSpec.ofChange weekTellsWrong)

/-- 'errandlaw10.WeekYears': WHATEVER THE INPUT: true; the input reads as it did. -/
def weekYearsSpec : ChangeSpec := { name := "weekYears", fn := fun _ => fun
  | [d1, d2] => { results := [.lit (.bool true)], args := [d1, d2] }
  | _ => none }
def weekYearsRow : OpenClaim := { program := "ytlkndpoffbmhaaadoor", sum := "6d228f244ebf038e2b78e660692fd3b9c97615c0f8b268e374e5735fea397b11", func := "errand/errandlaw10.WeekYears", spec := "weekYears", named := ["errand/civil.before"], apart := false, laid := [("errand/civil.before", laid_errand_civil_before)] }
def WeekYearsSaid : Prop := weekYearsRow.holds Tryd.pinned (OpenSpec.ofChange weekYearsSpec)

/-- ITS FALSE NEIGHBOUR: 'it returns false'. Refute it at one input. -/
def weekYearsWrong : ChangeSpec := { name := "weekYears", fn := fun _ => fun
  | [d1, d2] => { results := [.lit (.bool false)], args := [d1, d2] }
  | _ => none }
def WeekYearsWrongFalsely : Prop := weekYearsRow.holds Tryd.pinned (OpenSpec.ofChange weekYearsWrong)

/-- 'errandlaw10.WeekGoes': WHATEVER THE INPUT: true; the input reads as it did. -/
def weekGoesSpec : ChangeSpec := { name := "weekGoes", fn := fun _ => fun
  | [d1, d2] => { results := [.lit (.bool true)], args := [d1, d2] }
  | _ => none }
def weekGoesRow : OpenClaim := { program := "ytlkndpoffbmhaaadoor", sum := "6d228f244ebf038e2b78e660692fd3b9c97615c0f8b268e374e5735fea397b11", func := "errand/errandlaw10.WeekGoes", spec := "weekGoes", named := ["errand/civil.before"], apart := false, laid := [("errand/civil.before", laid_errand_civil_before)] }
def WeekGoesSaid : Prop := weekGoesRow.holds Tryd.pinned (OpenSpec.ofChange weekGoesSpec)

/-- ITS FALSE NEIGHBOUR: 'it returns false'. Refute it at one input. -/
def weekGoesWrong : ChangeSpec := { name := "weekGoes", fn := fun _ => fun
  | [d1, d2] => { results := [.lit (.bool false)], args := [d1, d2] }
  | _ => none }
def WeekGoesWrongFalsely : Prop := weekGoesRow.holds Tryd.pinned (OpenSpec.ofChange weekGoesWrong)

/-- 'errandlaw10.WeekFour': WHATEVER THE INPUT: true; the input reads as it did. -/
def weekFourSpec : ChangeSpec := { name := "weekFour", fn := fun _ => fun
  | [d1, d2, d3] => { results := [.lit (.bool true)], args := [d1, d2, d3] }
  | _ => none }
def weekFourRow : OpenClaim := { program := "ytlkndpoffbmhaaadoor", sum := "6d228f244ebf038e2b78e660692fd3b9c97615c0f8b268e374e5735fea397b11", func := "errand/errandlaw10.WeekFour", spec := "weekFour", named := ["errand/civil.before"], apart := false, laid := [("errand/civil.before", laid_errand_civil_before)] }
def WeekFourSaid : Prop := weekFourRow.holds Tryd.pinned (OpenSpec.ofChange weekFourSpec)

/-- ITS FALSE NEIGHBOUR: 'it returns false'. Refute it at one input. -/
def weekFourWrong : ChangeSpec := { name := "weekFour", fn := fun _ => fun
  | [d1, d2, d3] => { results := [.lit (.bool false)], args := [d1, d2, d3] }
  | _ => none }
def WeekFourWrongFalsely : Prop := weekFourRow.holds Tryd.pinned (OpenSpec.ofChange weekFourWrong)

/- THE SECOND FORM. 'bulk': how many values and letters a reading holds, each counted each time it is reached (what is shared counts as often as it is met; a slice's spare places count too). A statement '..UptoSaid' is the law's where the arguments, and the package variables that the reading takes, are together of bulk at most 1048576: NARROWER than '..Said'. Prove '..Said' where nothing that the law and all that it calls make is longer than what came in: it says more and counts as full. Else prove '..UptoSaid'. A law counts once. -/
mutual
def uptoBulk {H : Type} : DataW H → Nat
  | .lit (.string bytes) => bytes.length + 1
  | .lit _ => 1
  | .nil => 1
  | .ptr d => uptoBulk d + 1
  | .slice elems spare => uptoBulkAll elems + uptoBulkAll spare + 1
  | .agg parts => uptoBulkAll parts + 1
  | .iface _ d => uptoBulk d + 1
  | .map entries => uptoBulkEntries entries + 1
  | .held _ => 1
def uptoBulkAll {H : Type} : List (DataW H) → Nat
  | [] => 0
  | d :: r => uptoBulk d + uptoBulkAll r
def uptoBulkEntries {H : Type} : List (Lit × DataW H) → Nat
  | [] => 0
  | x :: r => uptoBulkEntry x + uptoBulkEntries r
def uptoBulkEntry {H : Type} : Lit × DataW H → Nat
  | (.string bytes, d) => bytes.length + uptoBulk d + 1
  | (_, d) => uptoBulk d + 1
 end
def uptoSmall : (H : Type) → List (DataW H) → Bool := fun _ ds => decide (uptoBulkAll ds ≤ 1048576)
def OpenSpec.upto (s : _root_.Go.ChangeSpec) : _root_.Go.OpenSpec := { _root_.Go.OpenSpec.ofChange s with cond := some uptoSmall }

/-- 'errandlaw09.CivilDates', WHERE WHAT IT READS IS OF BULK AT MOST 1048576: true; the input reads as it did. -/
def civilDatesUptoRow : OpenClaim := { program := "ytlkndpoffbmhaaadoor", sum := "6d228f244ebf038e2b78e660692fd3b9c97615c0f8b268e374e5735fea397b11", func := "errand/errandlaw09.CivilDates", spec := "civilDates", named := ["errand/civil.before"], apart := false, laid := [("errand/civil.before", laid_errand_civil_before)], narrowed := true }
def CivilDatesUptoSaid : Prop := civilDatesUptoRow.holds Tryd.pinned (OpenSpec.upto civilDatesSpec)

/-- 'errandlaw09.CivilDays', WHERE WHAT IT READS IS OF BULK AT MOST 1048576: true; the input reads as it did. -/
def civilDaysUptoRow : OpenClaim := { program := "ytlkndpoffbmhaaadoor", sum := "6d228f244ebf038e2b78e660692fd3b9c97615c0f8b268e374e5735fea397b11", func := "errand/errandlaw09.CivilDays", spec := "civilDays", named := ["errand/civil.before"], apart := false, laid := [("errand/civil.before", laid_errand_civil_before)], narrowed := true }
def CivilDaysUptoSaid : Prop := civilDaysUptoRow.holds Tryd.pinned (OpenSpec.upto civilDaysSpec)

/-- 'errandlaw09.CivilBack', WHERE WHAT IT READS IS OF BULK AT MOST 1048576: true; the input reads as it did. -/
def civilBackUptoRow : OpenClaim := { program := "ytlkndpoffbmhaaadoor", sum := "6d228f244ebf038e2b78e660692fd3b9c97615c0f8b268e374e5735fea397b11", func := "errand/errandlaw09.CivilBack", spec := "civilBack", named := ["errand/civil.before"], apart := false, laid := [("errand/civil.before", laid_errand_civil_before)], narrowed := true }
def CivilBackUptoSaid : Prop := civilBackUptoRow.holds Tryd.pinned (OpenSpec.upto civilBackSpec)

/-- 'errandlaw09.CivilCycle', WHERE WHAT IT READS IS OF BULK AT MOST 1048576: true; the input reads as it did. -/
def civilCycleUptoRow : OpenClaim := { program := "ytlkndpoffbmhaaadoor", sum := "6d228f244ebf038e2b78e660692fd3b9c97615c0f8b268e374e5735fea397b11", func := "errand/errandlaw09.CivilCycle", spec := "civilCycle", named := ["errand/civil.before"], apart := false, laid := [("errand/civil.before", laid_errand_civil_before)], narrowed := true }
def CivilCycleUptoSaid : Prop := civilCycleUptoRow.holds Tryd.pinned (OpenSpec.upto civilCycleSpec)

/-- 'errandlaw10.WeekTells', WHERE WHAT IT READS IS OF BULK AT MOST 1048576: true; the input reads as it did. -/
def weekTellsUptoRow : OpenClaim := { program := "ytlkndpoffbmhaaadoor", sum := "6d228f244ebf038e2b78e660692fd3b9c97615c0f8b268e374e5735fea397b11", func := "errand/errandlaw10.WeekTells", spec := "weekTells", named := ["errand/civil.before"], apart := false, laid := [("errand/civil.before", laid_errand_civil_before)], narrowed := true }
def WeekTellsUptoSaid : Prop := weekTellsUptoRow.holds Tryd.pinned (OpenSpec.upto weekTellsSpec)

/-- 'errandlaw10.WeekYears', WHERE WHAT IT READS IS OF BULK AT MOST 1048576: true; the input reads as it did. -/
def weekYearsUptoRow : OpenClaim := { program := "ytlkndpoffbmhaaadoor", sum := "6d228f244ebf038e2b78e660692fd3b9c97615c0f8b268e374e5735fea397b11", func := "errand/errandlaw10.WeekYears", spec := "weekYears", named := ["errand/civil.before"], apart := false, laid := [("errand/civil.before", laid_errand_civil_before)], narrowed := true }
def WeekYearsUptoSaid : Prop := weekYearsUptoRow.holds Tryd.pinned (OpenSpec.upto weekYearsSpec)

/-- 'errandlaw10.WeekGoes', WHERE WHAT IT READS IS OF BULK AT MOST 1048576: true; the input reads as it did. -/
def weekGoesUptoRow : OpenClaim := { program := "ytlkndpoffbmhaaadoor", sum := "6d228f244ebf038e2b78e660692fd3b9c97615c0f8b268e374e5735fea397b11", func := "errand/errandlaw10.WeekGoes", spec := "weekGoes", named := ["errand/civil.before"], apart := false, laid := [("errand/civil.before", laid_errand_civil_before)], narrowed := true }
def WeekGoesUptoSaid : Prop := weekGoesUptoRow.holds Tryd.pinned (OpenSpec.upto weekGoesSpec)

/-- 'errandlaw10.WeekFour', WHERE WHAT IT READS IS OF BULK AT MOST 1048576: true; the input reads as it did. -/
def weekFourUptoRow : OpenClaim := { program := "ytlkndpoffbmhaaadoor", sum := "6d228f244ebf038e2b78e660692fd3b9c97615c0f8b268e374e5735fea397b11", func := "errand/errandlaw10.WeekFour", spec := "weekFour", named := ["errand/civil.before"], apart := false, laid := [("errand/civil.before", laid_errand_civil_before)], narrowed := true }
def WeekFourUptoSaid : Prop := weekFourUptoRow.holds Tryd.pinned (OpenSpec.upto weekFourSpec)

end Rows
end Go.Proofs.YtlkndpoffbmhaaaDoor
