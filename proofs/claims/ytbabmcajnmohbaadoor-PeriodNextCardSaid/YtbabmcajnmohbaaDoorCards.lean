/-
  DERIVED. GIVEN WITH THE SEED: THE CARDS: each row of YtbabmcajnmohbaaDoorRows.lean that lists a variable, with what it lists TIED to the program's text (the seventh form; the later family's looks); each row that meets fmt, with fmt's text TOLD by the authors' own Lean function (tested against real Go, not proved from fmt's source: count such statements apart). THE CARD IS WHAT COUNTS. Prove the row's statement (the work); the ties are given (YtbabmcajnmohbaaDoorTie.lean); close each card by the builder's one call (the guide's Derived/Test/ToyasCard.lean, 'card_holds'). Laid BY PROGRAM, IN A SANDBOX (cutbox-door.mjs). By AI agents, Wed Nov 11 2026. No macro, syntax, notation, axiom, sorry.
-/
import Derived.Test.YtbabmcajnmohbaaDoorRows
import GoSem.ClaimSeven
namespace Go.Proofs.YtbabmcajnmohbaaDoor
namespace Rows

/-- THE TIED CARD OF 'errandlaw22.PeriodTells'. -/
def periodTellsCard : Claim7 := { stood := { row := periodTellsRow, standIns := [], harness := (true, "d82b0e78b622304ed3b5f4e6795d44963b9dd3c1a769cfcf413fbb5beb69c64d"), looks := false }, kinds := [], alts := [], laidByText := true, laidKinds := [.data], laidTests := true, laidLooks := .later }
def PeriodTellsCardSaid : Prop := Claim7.holds Tryd.pinned (.plain (OpenSpec.ofChange periodTellsSpec)) periodTellsCard

/-- THE TIED CARD OF 'errandlaw22.PeriodSteps'. -/
def periodStepsCard : Claim7 := { stood := { row := periodStepsRow, standIns := [], harness := (true, "d82b0e78b622304ed3b5f4e6795d44963b9dd3c1a769cfcf413fbb5beb69c64d"), looks := false }, kinds := [], alts := [], laidByText := true, laidKinds := [.data], laidTests := true, laidLooks := .later }
def PeriodStepsCardSaid : Prop := Claim7.holds Tryd.pinned (.plain (OpenSpec.ofChange periodStepsSpec)) periodStepsCard

/-- THE TIED CARD OF 'errandlaw22.PeriodParts'. -/
def periodPartsCard : Claim7 := { stood := { row := periodPartsRow, standIns := [], harness := (true, "d82b0e78b622304ed3b5f4e6795d44963b9dd3c1a769cfcf413fbb5beb69c64d"), looks := false }, kinds := [], alts := [], laidByText := true, laidKinds := [.data], laidTests := true, laidLooks := .later }
def PeriodPartsCardSaid : Prop := Claim7.holds Tryd.pinned (.plain (OpenSpec.ofChange periodPartsSpec)) periodPartsCard

/-- THE TIED CARD OF 'errandlaw22.PeriodNext'. -/
def periodNextCard : Claim7 := { stood := { row := periodNextRow, standIns := [], harness := (true, "d82b0e78b622304ed3b5f4e6795d44963b9dd3c1a769cfcf413fbb5beb69c64d"), looks := false }, kinds := [], alts := [], laidByText := true, laidKinds := [.data], laidTests := true, laidLooks := .later }
def PeriodNextCardSaid : Prop := Claim7.holds Tryd.pinned (.plain (OpenSpec.ofChange periodNextSpec)) periodNextCard

/-- THE TIED CARD OF 'errandlaw23.DaysetPasses'. -/
def daysetPassesCard : Claim7 := { stood := { row := daysetPassesRow, standIns := [], harness := (true, "d82b0e78b622304ed3b5f4e6795d44963b9dd3c1a769cfcf413fbb5beb69c64d"), looks := false }, kinds := [], alts := [], laidByText := true, laidKinds := [.data], laidTests := true, laidLooks := .later }
def DaysetPassesCardSaid : Prop := Claim7.holds Tryd.pinned (.plain (OpenSpec.ofChange daysetPassesSpec)) daysetPassesCard

/-- THE TIED CARD OF 'errandlaw23.DaysetOf'. -/
def daysetOfCard : Claim7 := { stood := { row := daysetOfRow, standIns := [], harness := (true, "d82b0e78b622304ed3b5f4e6795d44963b9dd3c1a769cfcf413fbb5beb69c64d"), looks := false }, kinds := [], alts := [], laidByText := true, laidKinds := [.data], laidTests := true, laidLooks := .later }
def DaysetOfCardSaid : Prop := Claim7.holds Tryd.pinned (.plain (OpenSpec.ofChange daysetOfSpec)) daysetOfCard

/-- THE TIED CARD OF 'errandlaw23.DaysetEnds'. -/
def daysetEndsCard : Claim7 := { stood := { row := daysetEndsRow, standIns := [], harness := (true, "d82b0e78b622304ed3b5f4e6795d44963b9dd3c1a769cfcf413fbb5beb69c64d"), looks := false }, kinds := [], alts := [], laidByText := true, laidKinds := [.data], laidTests := true, laidLooks := .later }
def DaysetEndsCardSaid : Prop := Claim7.holds Tryd.pinned (.plain (OpenSpec.ofChange daysetEndsSpec)) daysetEndsCard

/-- THE TIED CARD OF 'errandlaw23.DaysetNth'. -/
def daysetNthCard : Claim7 := { stood := { row := daysetNthRow, standIns := [], harness := (true, "d82b0e78b622304ed3b5f4e6795d44963b9dd3c1a769cfcf413fbb5beb69c64d"), looks := false }, kinds := [], alts := [], laidByText := true, laidKinds := [.data], laidTests := true, laidLooks := .later }
def DaysetNthCardSaid : Prop := Claim7.holds Tryd.pinned (.plain (OpenSpec.ofChange daysetNthSpec)) daysetNthCard

/-- THE SECOND FORM's CARD OF 'errandlaw22.PeriodTells'. -/
def periodTellsUptoCard : Claim7 := { stood := { row := periodTellsUptoRow, standIns := [], harness := (true, "d82b0e78b622304ed3b5f4e6795d44963b9dd3c1a769cfcf413fbb5beb69c64d"), looks := false }, kinds := [], alts := [], laidByText := true, laidKinds := [.data], laidTests := true, laidLooks := .later }
def PeriodTellsUptoCardSaid : Prop := Claim7.holds Tryd.pinned (.plain (OpenSpec.upto periodTellsSpec)) periodTellsUptoCard

/-- THE SECOND FORM's CARD OF 'errandlaw22.PeriodSteps'. -/
def periodStepsUptoCard : Claim7 := { stood := { row := periodStepsUptoRow, standIns := [], harness := (true, "d82b0e78b622304ed3b5f4e6795d44963b9dd3c1a769cfcf413fbb5beb69c64d"), looks := false }, kinds := [], alts := [], laidByText := true, laidKinds := [.data], laidTests := true, laidLooks := .later }
def PeriodStepsUptoCardSaid : Prop := Claim7.holds Tryd.pinned (.plain (OpenSpec.upto periodStepsSpec)) periodStepsUptoCard

/-- THE SECOND FORM's CARD OF 'errandlaw22.PeriodParts'. -/
def periodPartsUptoCard : Claim7 := { stood := { row := periodPartsUptoRow, standIns := [], harness := (true, "d82b0e78b622304ed3b5f4e6795d44963b9dd3c1a769cfcf413fbb5beb69c64d"), looks := false }, kinds := [], alts := [], laidByText := true, laidKinds := [.data], laidTests := true, laidLooks := .later }
def PeriodPartsUptoCardSaid : Prop := Claim7.holds Tryd.pinned (.plain (OpenSpec.upto periodPartsSpec)) periodPartsUptoCard

/-- THE SECOND FORM's CARD OF 'errandlaw22.PeriodNext'. -/
def periodNextUptoCard : Claim7 := { stood := { row := periodNextUptoRow, standIns := [], harness := (true, "d82b0e78b622304ed3b5f4e6795d44963b9dd3c1a769cfcf413fbb5beb69c64d"), looks := false }, kinds := [], alts := [], laidByText := true, laidKinds := [.data], laidTests := true, laidLooks := .later }
def PeriodNextUptoCardSaid : Prop := Claim7.holds Tryd.pinned (.plain (OpenSpec.upto periodNextSpec)) periodNextUptoCard

/-- THE SECOND FORM's CARD OF 'errandlaw23.DaysetPasses'. -/
def daysetPassesUptoCard : Claim7 := { stood := { row := daysetPassesUptoRow, standIns := [], harness := (true, "d82b0e78b622304ed3b5f4e6795d44963b9dd3c1a769cfcf413fbb5beb69c64d"), looks := false }, kinds := [], alts := [], laidByText := true, laidKinds := [.data], laidTests := true, laidLooks := .later }
def DaysetPassesUptoCardSaid : Prop := Claim7.holds Tryd.pinned (.plain (OpenSpec.upto daysetPassesSpec)) daysetPassesUptoCard

/-- THE SECOND FORM's CARD OF 'errandlaw23.DaysetOf'. -/
def daysetOfUptoCard : Claim7 := { stood := { row := daysetOfUptoRow, standIns := [], harness := (true, "d82b0e78b622304ed3b5f4e6795d44963b9dd3c1a769cfcf413fbb5beb69c64d"), looks := false }, kinds := [], alts := [], laidByText := true, laidKinds := [.data], laidTests := true, laidLooks := .later }
def DaysetOfUptoCardSaid : Prop := Claim7.holds Tryd.pinned (.plain (OpenSpec.upto daysetOfSpec)) daysetOfUptoCard

/-- THE SECOND FORM's CARD OF 'errandlaw23.DaysetEnds'. -/
def daysetEndsUptoCard : Claim7 := { stood := { row := daysetEndsUptoRow, standIns := [], harness := (true, "d82b0e78b622304ed3b5f4e6795d44963b9dd3c1a769cfcf413fbb5beb69c64d"), looks := false }, kinds := [], alts := [], laidByText := true, laidKinds := [.data], laidTests := true, laidLooks := .later }
def DaysetEndsUptoCardSaid : Prop := Claim7.holds Tryd.pinned (.plain (OpenSpec.upto daysetEndsSpec)) daysetEndsUptoCard

/-- THE SECOND FORM's CARD OF 'errandlaw23.DaysetNth'. -/
def daysetNthUptoCard : Claim7 := { stood := { row := daysetNthUptoRow, standIns := [], harness := (true, "d82b0e78b622304ed3b5f4e6795d44963b9dd3c1a769cfcf413fbb5beb69c64d"), looks := false }, kinds := [], alts := [], laidByText := true, laidKinds := [.data], laidTests := true, laidLooks := .later }
def DaysetNthUptoCardSaid : Prop := Claim7.holds Tryd.pinned (.plain (OpenSpec.upto daysetNthSpec)) daysetNthUptoCard
end Rows
end Go.Proofs.YtbabmcajnmohbaaDoor
