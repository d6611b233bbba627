/-
  NARROWER THAN 'FOR EVERY INPUT', by the rows' own cells (each row's printed sentence says how): DaysetPasses: laid · DaysetOf: laid · DaysetEnds: laid · DaysetNth: laid.
  DERIVED. THE GIVEN ROWS OF THIS SEAT. 4 by the template 'for every input the law returns true; each argument reads behind the call as it read before'; 0 by the template 'total and deterministic' (their statements: YtpfimkjfonijcaaDoorTotals.lean).
  GIVEN WITH THE SEED: the statements are not yours to turn. If you find one false, say at which input.
  Laid BY PROGRAM, IN A SANDBOX (cutbox-rows.mjs): the forced cells as the released guide's own fill.sh prints them over the translation 1154fbadee016b15… (all of the seat's roots in one cut). By AI agents, Wed Nov 11 2026. No macro, syntax, notation, axiom, sorry.
-/
import Derived.Test.YtpfimkjfonijcaaDoorChecked
import GoSem.Claim
import GoSem.ClaimJoined
import GoSem.ClaimMapViews
import Derived.JoinedTies
import Derived.KernelRfl
namespace Go.Proofs.YtpfimkjfonijcaaDoor
/- THE CELL 'sum', in the pinned program and in every row, IS THE sha256 OF THE DUMP (.gsa) THAT YtpfimkjfonijcaaDoorProg.lean LOADS. Nothing in Lean hashes anything: it is a label: what it is worth is what the hold of that sum in a sandbox is worth. -/
noncomputable def Tryd.pinned : Pinned := { name := "ytpfimkjfonijcaadoor", sum := "1154fbadee016b151d5e9db967973d642aaf0c8d8fd2d0e55b49db1595ec5871", checked := Tryd.checked }
namespace Rows
def none {H : Type} : Left H := { results := [], args := [] }

/- WHAT THE LISTED PACKAGE-LEVEL VARIABLES READ AS WHEN THE CALL BEGINS. Each datum BY PROGRAM (the guide's laid-datum.mjs) off the statement by which the dump's own 'gosem.cut.vars' lays the variable. In a bare row this is a premise. The card (YtpfimkjfonijcaaDoorCards.lean) ties it to the program's text. -/
def laid_errand_civil_before {H : Type} : DataW H := .agg [.lit (.int .i64 0), .lit (.int .i64 31), .lit (.int .i64 59), .lit (.int .i64 90), .lit (.int .i64 120), .lit (.int .i64 151), .lit (.int .i64 181), .lit (.int .i64 212), .lit (.int .i64 243), .lit (.int .i64 273), .lit (.int .i64 304), .lit (.int .i64 334), .lit (.int .i64 365)]

/-- 'errandlaw23.DaysetPasses': WHATEVER THE INPUT: true; the input reads as it did. -/
def daysetPassesSpec : ChangeSpec := { name := "daysetPasses", fn := fun _ => fun
  | [d1, d2, d3] => { results := [.lit (.bool true)], args := [d1, d2, d3] }
  | _ => none }
def daysetPassesRow : OpenClaim := { program := "ytpfimkjfonijcaadoor", sum := "1154fbadee016b151d5e9db967973d642aaf0c8d8fd2d0e55b49db1595ec5871", func := "errand/errandlaw23.DaysetPasses", spec := "daysetPasses", unfollowed := true, recurses := true, named := ["errand/civil.before"], apart := false, laid := [("errand/civil.before", laid_errand_civil_before)] }
def DaysetPassesSaid : Prop := daysetPassesRow.holds Tryd.pinned (OpenSpec.ofChange daysetPassesSpec)

/-- ITS FALSE NEIGHBOUR: 'it returns false'. Refute it at one input. -/
def daysetPassesWrong : ChangeSpec := { name := "daysetPasses", fn := fun _ => fun
  | [d1, d2, d3] => { results := [.lit (.bool false)], args := [d1, d2, d3] }
  | _ => none }
def DaysetPassesWrongFalsely : Prop := daysetPassesRow.holds Tryd.pinned (OpenSpec.ofChange daysetPassesWrong)

/-- 'errandlaw23.DaysetOf': WHATEVER THE INPUT: true; the input reads as it did. -/
def daysetOfSpec : ChangeSpec := { name := "daysetOf", fn := fun _ => fun
  | [d1, d2, d3] => { results := [.lit (.bool true)], args := [d1, d2, d3] }
  | _ => none }
def daysetOfRow : OpenClaim := { program := "ytpfimkjfonijcaadoor", sum := "1154fbadee016b151d5e9db967973d642aaf0c8d8fd2d0e55b49db1595ec5871", func := "errand/errandlaw23.DaysetOf", spec := "daysetOf", unfollowed := true, recurses := true, named := ["errand/civil.before"], apart := false, laid := [("errand/civil.before", laid_errand_civil_before)] }
def DaysetOfSaid : Prop := daysetOfRow.holds Tryd.pinned (OpenSpec.ofChange daysetOfSpec)

/-- ITS FALSE NEIGHBOUR: 'it returns false'. Refute it at one input. -/
def daysetOfWrong : ChangeSpec := { name := "daysetOf", fn := fun _ => fun
  | [d1, d2, d3] => { results := [.lit (.bool false)], args := [d1, d2, d3] }
  | _ => none }
def DaysetOfWrongFalsely : Prop := daysetOfRow.holds Tryd.pinned (OpenSpec.ofChange daysetOfWrong)

/-- 'errandlaw23.DaysetEnds': WHATEVER THE INPUT: true; the input reads as it did. -/
def daysetEndsSpec : ChangeSpec := { name := "daysetEnds", fn := fun _ => fun
  | [d1, d2, d3] => { results := [.lit (.bool true)], args := [d1, d2, d3] }
  | _ => none }
def daysetEndsRow : OpenClaim := { program := "ytpfimkjfonijcaadoor", sum := "1154fbadee016b151d5e9db967973d642aaf0c8d8fd2d0e55b49db1595ec5871", func := "errand/errandlaw23.DaysetEnds", spec := "daysetEnds", unfollowed := true, recurses := true, named := ["errand/civil.before"], apart := false, laid := [("errand/civil.before", laid_errand_civil_before)] }
def DaysetEndsSaid : Prop := daysetEndsRow.holds Tryd.pinned (OpenSpec.ofChange daysetEndsSpec)

/-- ITS FALSE NEIGHBOUR: 'it returns false'. Refute it at one input. -/
def daysetEndsWrong : ChangeSpec := { name := "daysetEnds", fn := fun _ => fun
  | [d1, d2, d3] => { results := [.lit (.bool false)], args := [d1, d2, d3] }
  | _ => none }
def DaysetEndsWrongFalsely : Prop := daysetEndsRow.holds Tryd.pinned (OpenSpec.ofChange daysetEndsWrong)

/-- 'errandlaw23.DaysetNth': WHATEVER THE INPUT: true; the input reads as it did. -/
def daysetNthSpec : ChangeSpec := { name := "daysetNth", fn := fun _ => fun
  | [d1, d2, d3] => { results := [.lit (.bool true)], args := [d1, d2, d3] }
  | _ => none }
def daysetNthRow : OpenClaim := { program := "ytpfimkjfonijcaadoor", sum := "1154fbadee016b151d5e9db967973d642aaf0c8d8fd2d0e55b49db1595ec5871", func := "errand/errandlaw23.DaysetNth", spec := "daysetNth", unfollowed := true, recurses := true, named := ["errand/civil.before"], apart := false, laid := [("errand/civil.before", laid_errand_civil_before)] }
def DaysetNthSaid : Prop := daysetNthRow.holds Tryd.pinned (OpenSpec.ofChange daysetNthSpec)

/-- ITS FALSE NEIGHBOUR: 'it returns false'. Refute it at one input. -/
def daysetNthWrong : ChangeSpec := { name := "daysetNth", fn := fun _ => fun
  | [d1, d2, d3] => { results := [.lit (.bool false)], args := [d1, d2, d3] }
  | _ => none }
def DaysetNthWrongFalsely : Prop := daysetNthRow.holds Tryd.pinned (OpenSpec.ofChange daysetNthWrong)

/- THE SECOND FORM. 'bulk': how many values and letters a reading holds, each counted each time it is reached (what is shared counts as often as it is met; a slice's spare places count too). A statement '..UptoSaid' is the law's where the arguments, and the package variables that the reading takes, are together of bulk at most 1048576: NARROWER than '..Said'. Prove '..Said' where nothing that the law and all that it calls make is longer than what came in: it says more and counts as full. Else prove '..UptoSaid'. A law counts once. -/
mutual
def uptoBulk {H : Type} : DataW H → Nat
  | .lit (.string bytes) => bytes.length + 1
  | .lit _ => 1
  | .nil => 1
  | .ptr d => uptoBulk d + 1
  | .slice elems spare => uptoBulkAll elems + uptoBulkAll spare + 1
  | .agg parts => uptoBulkAll parts + 1
  | .iface _ d => uptoBulk d + 1
  | .map entries => uptoBulkEntries entries + 1
  | .held _ => 1
def uptoBulkAll {H : Type} : List (DataW H) → Nat
  | [] => 0
  | d :: r => uptoBulk d + uptoBulkAll r
def uptoBulkEntries {H : Type} : List (Lit × DataW H) → Nat
  | [] => 0
  | x :: r => uptoBulkEntry x + uptoBulkEntries r
def uptoBulkEntry {H : Type} : Lit × DataW H → Nat
  | (.string bytes, d) => bytes.length + uptoBulk d + 1
  | (_, d) => uptoBulk d + 1
 end
def uptoSmall : (H : Type) → List (DataW H) → Bool := fun _ ds => decide (uptoBulkAll ds ≤ 1048576)
def OpenSpec.upto (s : _root_.Go.ChangeSpec) : _root_.Go.OpenSpec := { _root_.Go.OpenSpec.ofChange s with cond := some uptoSmall }

/-- 'errandlaw23.DaysetPasses', WHERE WHAT IT READS IS OF BULK AT MOST 1048576: true; the input reads as it did. -/
def daysetPassesUptoRow : OpenClaim := { program := "ytpfimkjfonijcaadoor", sum := "1154fbadee016b151d5e9db967973d642aaf0c8d8fd2d0e55b49db1595ec5871", func := "errand/errandlaw23.DaysetPasses", spec := "daysetPasses", unfollowed := true, recurses := true, named := ["errand/civil.before"], apart := false, laid := [("errand/civil.before", laid_errand_civil_before)], narrowed := true }
def DaysetPassesUptoSaid : Prop := daysetPassesUptoRow.holds Tryd.pinned (OpenSpec.upto daysetPassesSpec)

/-- 'errandlaw23.DaysetOf', WHERE WHAT IT READS IS OF BULK AT MOST 1048576: true; the input reads as it did. -/
def daysetOfUptoRow : OpenClaim := { program := "ytpfimkjfonijcaadoor", sum := "1154fbadee016b151d5e9db967973d642aaf0c8d8fd2d0e55b49db1595ec5871", func := "errand/errandlaw23.DaysetOf", spec := "daysetOf", unfollowed := true, recurses := true, named := ["errand/civil.before"], apart := false, laid := [("errand/civil.before", laid_errand_civil_before)], narrowed := true }
def DaysetOfUptoSaid : Prop := daysetOfUptoRow.holds Tryd.pinned (OpenSpec.upto daysetOfSpec)

/-- 'errandlaw23.DaysetEnds', WHERE WHAT IT READS IS OF BULK AT MOST 1048576: true; the input reads as it did. -/
def daysetEndsUptoRow : OpenClaim := { program := "ytpfimkjfonijcaadoor", sum := "1154fbadee016b151d5e9db967973d642aaf0c8d8fd2d0e55b49db1595ec5871", func := "errand/errandlaw23.DaysetEnds", spec := "daysetEnds", unfollowed := true, recurses := true, named := ["errand/civil.before"], apart := false, laid := [("errand/civil.before", laid_errand_civil_before)], narrowed := true }
def DaysetEndsUptoSaid : Prop := daysetEndsUptoRow.holds Tryd.pinned (OpenSpec.upto daysetEndsSpec)

/-- 'errandlaw23.DaysetNth', WHERE WHAT IT READS IS OF BULK AT MOST 1048576: true; the input reads as it did. -/
def daysetNthUptoRow : OpenClaim := { program := "ytpfimkjfonijcaadoor", sum := "1154fbadee016b151d5e9db967973d642aaf0c8d8fd2d0e55b49db1595ec5871", func := "errand/errandlaw23.DaysetNth", spec := "daysetNth", unfollowed := true, recurses := true, named := ["errand/civil.before"], apart := false, laid := [("errand/civil.before", laid_errand_civil_before)], narrowed := true }
def DaysetNthUptoSaid : Prop := daysetNthUptoRow.holds Tryd.pinned (OpenSpec.upto daysetNthSpec)

end Rows
end Go.Proofs.YtpfimkjfonijcaaDoor
