/-
  DERIVED. GIVEN WITH THE SEED: THE CARDS: each row of YtlkndpoffbmhaaaDoorRows.lean that lists a variable, with what it lists TIED to the program's text (the seventh form; the later family's looks); each row that meets fmt, with fmt's text TOLD by the authors' own Lean function (tested against real Go, not proved from fmt's source: count such statements apart). THE CARD IS WHAT COUNTS. Prove the row's statement (the work); the ties are given (YtlkndpoffbmhaaaDoorTie.lean); close each card by the builder's one call (the guide's Derived/Test/ToyasCard.lean, 'card_holds'). Laid BY PROGRAM, IN A SANDBOX (cutbox-door.mjs). By AI agents, Wed Nov 11 2026. No macro, syntax, notation, axiom, sorry.
-/
import Derived.Test.YtlkndpoffbmhaaaDoorRows
import GoSem.ClaimSeven
namespace Go.Proofs.YtlkndpoffbmhaaaDoor
namespace Rows

/-- THE TIED CARD OF 'errandlaw09.CivilDates'. -/
def civilDatesCard : Claim7 := { stood := { row := civilDatesRow, standIns := [], harness := (true, "a1b1139f2394f9c6a4713eee6dcf4cb73c8863f2526220be727093d5dc04f79d"), looks := false }, kinds := [], alts := [], laidByText := true, laidKinds := [.data], laidTests := true, laidLooks := .later }
def CivilDatesCardSaid : Prop := Claim7.holds Tryd.pinned (.plain (OpenSpec.ofChange civilDatesSpec)) civilDatesCard

/-- THE TIED CARD OF 'errandlaw09.CivilDays'. -/
def civilDaysCard : Claim7 := { stood := { row := civilDaysRow, standIns := [], harness := (true, "a1b1139f2394f9c6a4713eee6dcf4cb73c8863f2526220be727093d5dc04f79d"), looks := false }, kinds := [], alts := [], laidByText := true, laidKinds := [.data], laidTests := true, laidLooks := .later }
def CivilDaysCardSaid : Prop := Claim7.holds Tryd.pinned (.plain (OpenSpec.ofChange civilDaysSpec)) civilDaysCard

/-- THE TIED CARD OF 'errandlaw09.CivilBack'. -/
def civilBackCard : Claim7 := { stood := { row := civilBackRow, standIns := [], harness := (true, "a1b1139f2394f9c6a4713eee6dcf4cb73c8863f2526220be727093d5dc04f79d"), looks := false }, kinds := [], alts := [], laidByText := true, laidKinds := [.data], laidTests := true, laidLooks := .later }
def CivilBackCardSaid : Prop := Claim7.holds Tryd.pinned (.plain (OpenSpec.ofChange civilBackSpec)) civilBackCard

/-- THE TIED CARD OF 'errandlaw09.CivilCycle'. -/
def civilCycleCard : Claim7 := { stood := { row := civilCycleRow, standIns := [], harness := (true, "a1b1139f2394f9c6a4713eee6dcf4cb73c8863f2526220be727093d5dc04f79d"), looks := false }, kinds := [], alts := [], laidByText := true, laidKinds := [.data], laidTests := true, laidLooks := .later }
def CivilCycleCardSaid : Prop := Claim7.holds Tryd.pinned (.plain (OpenSpec.ofChange civilCycleSpec)) civilCycleCard

/-- THE TIED CARD OF 'errandlaw10.WeekTells'. -/
def weekTellsCard : Claim7 := { stood := { row := weekTellsRow, standIns := [], harness := (true, "a1b1139f2394f9c6a4713eee6dcf4cb73c8863f2526220be727093d5dc04f79d"), looks := false }, kinds := [], alts := [], laidByText := true, laidKinds := [.data], laidTests := true, laidLooks := .later }
def WeekTellsCardSaid : Prop := Claim7.holds Tryd.pinned (.plain (OpenSpec.ofChange weekTellsSpec)) weekTellsCard

/-- THE TIED CARD OF 'errandlaw10.WeekYears'. -/
def weekYearsCard : Claim7 := { stood := { row := weekYearsRow, standIns := [], harness := (true, "a1b1139f2394f9c6a4713eee6dcf4cb73c8863f2526220be727093d5dc04f79d"), looks := false }, kinds := [], alts := [], laidByText := true, laidKinds := [.data], laidTests := true, laidLooks := .later }
def WeekYearsCardSaid : Prop := Claim7.holds Tryd.pinned (.plain (OpenSpec.ofChange weekYearsSpec)) weekYearsCard

/-- THE TIED CARD OF 'errandlaw10.WeekGoes'. -/
def weekGoesCard : Claim7 := { stood := { row := weekGoesRow, standIns := [], harness := (true, "a1b1139f2394f9c6a4713eee6dcf4cb73c8863f2526220be727093d5dc04f79d"), looks := false }, kinds := [], alts := [], laidByText := true, laidKinds := [.data], laidTests := true, laidLooks := .later }
def WeekGoesCardSaid : Prop := Claim7.holds Tryd.pinned (.plain (OpenSpec.ofChange weekGoesSpec)) weekGoesCard

/-- THE TIED CARD OF 'errandlaw10.WeekFour'. -/
def weekFourCard : Claim7 := { stood := { row := weekFourRow, standIns := [], harness := (true, "a1b1139f2394f9c6a4713eee6dcf4cb73c8863f2526220be727093d5dc04f79d"), looks := false }, kinds := [], alts := [], laidByText := true, laidKinds := [.data], laidTests := true, laidLooks := .later }
def WeekFourCardSaid : Prop := Claim7.holds Tryd.pinned (.plain (OpenSpec.ofChange weekFourSpec)) weekFourCard

/-- THE SECOND FORM's CARD OF 'errandlaw09.CivilDates'. -/
def civilDatesUptoCard : Claim7 := { stood := { row := civilDatesUptoRow, standIns := [], harness := (true, "a1b1139f2394f9c6a4713eee6dcf4cb73c8863f2526220be727093d5dc04f79d"), looks := false }, kinds := [], alts := [], laidByText := true, laidKinds := [.data], laidTests := true, laidLooks := .later }
def CivilDatesUptoCardSaid : Prop := Claim7.holds Tryd.pinned (.plain (OpenSpec.upto civilDatesSpec)) civilDatesUptoCard

/-- THE SECOND FORM's CARD OF 'errandlaw09.CivilDays'. -/
def civilDaysUptoCard : Claim7 := { stood := { row := civilDaysUptoRow, standIns := [], harness := (true, "a1b1139f2394f9c6a4713eee6dcf4cb73c8863f2526220be727093d5dc04f79d"), looks := false }, kinds := [], alts := [], laidByText := true, laidKinds := [.data], laidTests := true, laidLooks := .later }
def CivilDaysUptoCardSaid : Prop := Claim7.holds Tryd.pinned (.plain (OpenSpec.upto civilDaysSpec)) civilDaysUptoCard

/-- THE SECOND FORM's CARD OF 'errandlaw09.CivilBack'. -/
def civilBackUptoCard : Claim7 := { stood := { row := civilBackUptoRow, standIns := [], harness := (true, "a1b1139f2394f9c6a4713eee6dcf4cb73c8863f2526220be727093d5dc04f79d"), looks := false }, kinds := [], alts := [], laidByText := true, laidKinds := [.data], laidTests := true, laidLooks := .later }
def CivilBackUptoCardSaid : Prop := Claim7.holds Tryd.pinned (.plain (OpenSpec.upto civilBackSpec)) civilBackUptoCard

/-- THE SECOND FORM's CARD OF 'errandlaw09.CivilCycle'. -/
def civilCycleUptoCard : Claim7 := { stood := { row := civilCycleUptoRow, standIns := [], harness := (true, "a1b1139f2394f9c6a4713eee6dcf4cb73c8863f2526220be727093d5dc04f79d"), looks := false }, kinds := [], alts := [], laidByText := true, laidKinds := [.data], laidTests := true, laidLooks := .later }
def CivilCycleUptoCardSaid : Prop := Claim7.holds Tryd.pinned (.plain (OpenSpec.upto civilCycleSpec)) civilCycleUptoCard

/-- THE SECOND FORM's CARD OF 'errandlaw10.WeekTells'. -/
def weekTellsUptoCard : Claim7 := { stood := { row := weekTellsUptoRow, standIns := [], harness := (true, "a1b1139f2394f9c6a4713eee6dcf4cb73c8863f2526220be727093d5dc04f79d"), looks := false }, kinds := [], alts := [], laidByText := true, laidKinds := [.data], laidTests := true, laidLooks := .later }
def WeekTellsUptoCardSaid : Prop := Claim7.holds Tryd.pinned (.plain (OpenSpec.upto weekTellsSpec)) weekTellsUptoCard

/-- THE SECOND FORM's CARD OF 'errandlaw10.WeekYears'. -/
def weekYearsUptoCard : Claim7 := { stood := { row := weekYearsUptoRow, standIns := [], harness := (true, "a1b1139f2394f9c6a4713eee6dcf4cb73c8863f2526220be727093d5dc04f79d"), looks := false }, kinds := [], alts := [], laidByText := true, laidKinds := [.data], laidTests := true, laidLooks := .later }
def WeekYearsUptoCardSaid : Prop := Claim7.holds Tryd.pinned (.plain (OpenSpec.upto weekYearsSpec)) weekYearsUptoCard

/-- THE SECOND FORM's CARD OF 'errandlaw10.WeekGoes'. -/
def weekGoesUptoCard : Claim7 := { stood := { row := weekGoesUptoRow, standIns := [], harness := (true, "a1b1139f2394f9c6a4713eee6dcf4cb73c8863f2526220be727093d5dc04f79d"), looks := false }, kinds := [], alts := [], laidByText := true, laidKinds := [.data], laidTests := true, laidLooks := .later }
def WeekGoesUptoCardSaid : Prop := Claim7.holds Tryd.pinned (.plain (OpenSpec.upto weekGoesSpec)) weekGoesUptoCard

/-- THE SECOND FORM's CARD OF 'errandlaw10.WeekFour'. -/
def weekFourUptoCard : Claim7 := { stood := { row := weekFourUptoRow, standIns := [], harness := (true, "a1b1139f2394f9c6a4713eee6dcf4cb73c8863f2526220be727093d5dc04f79d"), looks := false }, kinds := [], alts := [], laidByText := true, laidKinds := [.data], laidTests := true, laidLooks := .later }
def WeekFourUptoCardSaid : Prop := Claim7.holds Tryd.pinned (.plain (OpenSpec.upto weekFourSpec)) weekFourUptoCard
end Rows
end Go.Proofs.YtlkndpoffbmhaaaDoor
