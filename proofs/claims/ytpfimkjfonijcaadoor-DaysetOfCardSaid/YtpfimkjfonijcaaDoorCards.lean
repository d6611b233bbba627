/-
  DERIVED. GIVEN WITH THE SEED: THE CARDS: each row of YtpfimkjfonijcaaDoorRows.lean that lists a variable, with what it lists TIED to the program's text (the seventh form; the later family's looks); each row that meets fmt, with fmt's text TOLD by the authors' own Lean function (tested against real Go, not proved from fmt's source: count such statements apart). THE CARD IS WHAT COUNTS. Prove the row's statement (the work); the ties are given (YtpfimkjfonijcaaDoorTie.lean); close each card by the builder's one call (the guide's Derived/Test/ToyasCard.lean, 'card_holds'). Laid BY PROGRAM, IN A SANDBOX (cutbox-door.mjs). By AI agents, Wed Nov 11 2026. No macro, syntax, notation, axiom, sorry.
-/
import Derived.Test.YtpfimkjfonijcaaDoorRows
import GoSem.ClaimSeven
namespace Go.Proofs.YtpfimkjfonijcaaDoor
namespace Rows

/-- THE TIED CARD OF 'errandlaw23.DaysetPasses'. -/
def daysetPassesCard : Claim7 := { stood := { row := daysetPassesRow, standIns := [], harness := (true, "4c49741fbce39c2d4e175aa9b266108c957c255e67df82c5f1506f8745b256fb"), looks := false }, kinds := [], alts := [], laidByText := true, laidKinds := [.data], laidTests := true, laidLooks := .later }
def DaysetPassesCardSaid : Prop := Claim7.holds Tryd.pinned (.plain (OpenSpec.ofChange daysetPassesSpec)) daysetPassesCard

/-- THE TIED CARD OF 'errandlaw23.DaysetOf'. -/
def daysetOfCard : Claim7 := { stood := { row := daysetOfRow, standIns := [], harness := (true, "4c49741fbce39c2d4e175aa9b266108c957c255e67df82c5f1506f8745b256fb"), looks := false }, kinds := [], alts := [], laidByText := true, laidKinds := [.data], laidTests := true, laidLooks := .later }
def DaysetOfCardSaid : Prop := Claim7.holds Tryd.pinned (.plain (OpenSpec.ofChange daysetOfSpec)) daysetOfCard

/-- THE TIED CARD OF 'errandlaw23.DaysetEnds'. -/
def daysetEndsCard : Claim7 := { stood := { row := daysetEndsRow, standIns := [], harness := (true, "4c49741fbce39c2d4e175aa9b266108c957c255e67df82c5f1506f8745b256fb"), looks := false }, kinds := [], alts := [], laidByText := true, laidKinds := [.data], laidTests := true, laidLooks := .later }
def DaysetEndsCardSaid : Prop := Claim7.holds Tryd.pinned (.plain (OpenSpec.ofChange daysetEndsSpec)) daysetEndsCard

/-- THE TIED CARD OF 'errandlaw23.DaysetNth'. -/
def daysetNthCard : Claim7 := { stood := { row := daysetNthRow, standIns := [], harness := (true, "4c49741fbce39c2d4e175aa9b266108c957c255e67df82c5f1506f8745b256fb"), looks := false }, kinds := [], alts := [], laidByText := true, laidKinds := [.data], laidTests := true, laidLooks := .later }
def DaysetNthCardSaid : Prop := Claim7.holds Tryd.pinned (.plain (OpenSpec.ofChange daysetNthSpec)) daysetNthCard

/-- THE SECOND FORM's CARD OF 'errandlaw23.DaysetPasses'. -/
def daysetPassesUptoCard : Claim7 := { stood := { row := daysetPassesUptoRow, standIns := [], harness := (true, "4c49741fbce39c2d4e175aa9b266108c957c255e67df82c5f1506f8745b256fb"), looks := false }, kinds := [], alts := [], laidByText := true, laidKinds := [.data], laidTests := true, laidLooks := .later }
def DaysetPassesUptoCardSaid : Prop := Claim7.holds Tryd.pinned (.plain (OpenSpec.upto daysetPassesSpec)) daysetPassesUptoCard

/-- THE SECOND FORM's CARD OF 'errandlaw23.DaysetOf'. -/
def daysetOfUptoCard : Claim7 := { stood := { row := daysetOfUptoRow, standIns := [], harness := (true, "4c49741fbce39c2d4e175aa9b266108c957c255e67df82c5f1506f8745b256fb"), looks := false }, kinds := [], alts := [], laidByText := true, laidKinds := [.data], laidTests := true, laidLooks := .later }
def DaysetOfUptoCardSaid : Prop := Claim7.holds Tryd.pinned (.plain (OpenSpec.upto daysetOfSpec)) daysetOfUptoCard

/-- THE SECOND FORM's CARD OF 'errandlaw23.DaysetEnds'. -/
def daysetEndsUptoCard : Claim7 := { stood := { row := daysetEndsUptoRow, standIns := [], harness := (true, "4c49741fbce39c2d4e175aa9b266108c957c255e67df82c5f1506f8745b256fb"), looks := false }, kinds := [], alts := [], laidByText := true, laidKinds := [.data], laidTests := true, laidLooks := .later }
def DaysetEndsUptoCardSaid : Prop := Claim7.holds Tryd.pinned (.plain (OpenSpec.upto daysetEndsSpec)) daysetEndsUptoCard

/-- THE SECOND FORM's CARD OF 'errandlaw23.DaysetNth'. -/
def daysetNthUptoCard : Claim7 := { stood := { row := daysetNthUptoRow, standIns := [], harness := (true, "4c49741fbce39c2d4e175aa9b266108c957c255e67df82c5f1506f8745b256fb"), looks := false }, kinds := [], alts := [], laidByText := true, laidKinds := [.data], laidTests := true, laidLooks := .later }
def DaysetNthUptoCardSaid : Prop := Claim7.holds Tryd.pinned (.plain (OpenSpec.upto daysetNthSpec)) daysetNthUptoCard
end Rows
end Go.Proofs.YtpfimkjfonijcaaDoor
