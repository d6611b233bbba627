/-
  DERIVED. GIVEN WITH THE SEED: THE CARDS: each row of YtkbohijlhhpfbaaGreatDoorRows.lean that lists a variable, with what it lists TIED to the program's text (the seventh form; the later family's looks); each row that meets fmt, with fmt's text TOLD by the authors' own Lean function (tested against real Go, not proved from fmt's source: count such statements apart). THE CARD IS WHAT COUNTS. Prove the row's statement (the work); the ties are given (YtkbohijlhhpfbaaGreatDoorTie.lean); close each card by the builder's one call (the guide's Derived/Test/ToyasCard.lean, 'card_holds'). Laid BY PROGRAM, IN A SANDBOX (cutbox-door.mjs). By AI agents, Wed Nov 11 2026. No macro, syntax, notation, axiom, sorry.
-/
import Derived.Test.YtkbohijlhhpfbaaGreatDoorRows
import GoSem.ClaimSeven
namespace Go.Proofs.YtkbohijlhhpfbaaGreatDoor
namespace Rows

/-- THE TIED CARD OF 'errandlaw25.ExpandTells'. -/
def expandTellsCard : Claim7 := { stood := { row := expandTellsRow, standIns := [], harness := (true, "d52050b13f7100e4c58bf2485cdd28749158d162698cbf2298ee2e7a8ffc8300"), looks := false }, kinds := [], alts := [], laidByText := true, laidKinds := [.data], laidTests := true, laidLooks := .later }
def ExpandTellsCardSaid : Prop := Claim7.holds Tryz.pinned (.plain (OpenSpec.ofChange expandTellsSpec)) expandTellsCard

/-- THE TIED CARD OF 'errandlaw26.RsetWindows'. -/
def rsetWindowsCard : Claim7 := { stood := { row := rsetWindowsRow, standIns := [], harness := (true, "d52050b13f7100e4c58bf2485cdd28749158d162698cbf2298ee2e7a8ffc8300"), looks := false }, kinds := [], alts := [], laidByText := true, laidKinds := [.data], laidTests := true, laidLooks := .later }
def RsetWindowsCardSaid : Prop := Claim7.holds Tryz.pinned (.plain (OpenSpec.ofChange rsetWindowsSpec)) rsetWindowsCard

/-- THE TIED CARD OF 'errandlaw26.RsetNext'. -/
def rsetNextCard : Claim7 := { stood := { row := rsetNextRow, standIns := [], harness := (true, "d52050b13f7100e4c58bf2485cdd28749158d162698cbf2298ee2e7a8ffc8300"), looks := false }, kinds := [], alts := [], laidByText := true, laidKinds := [.data], laidTests := true, laidLooks := .later }
def RsetNextCardSaid : Prop := Claim7.holds Tryz.pinned (.plain (OpenSpec.ofChange rsetNextSpec)) rsetNextCard

/-- THE TIED CARD OF 'errandlaw26.RsetMember'. -/
def rsetMemberCard : Claim7 := { stood := { row := rsetMemberRow, standIns := [], harness := (true, "d52050b13f7100e4c58bf2485cdd28749158d162698cbf2298ee2e7a8ffc8300"), looks := false }, kinds := [], alts := [], laidByText := true, laidKinds := [.data], laidTests := true, laidLooks := .later }
def RsetMemberCardSaid : Prop := Claim7.holds Tryz.pinned (.plain (OpenSpec.ofChange rsetMemberSpec)) rsetMemberCard

/-- THE TIED CARD OF 'errandlaw26.RsetParts'. -/
def rsetPartsCard : Claim7 := { stood := { row := rsetPartsRow, standIns := [], harness := (true, "d52050b13f7100e4c58bf2485cdd28749158d162698cbf2298ee2e7a8ffc8300"), looks := false }, kinds := [], alts := [], laidByText := true, laidKinds := [.data], laidTests := true, laidLooks := .later }
def RsetPartsCardSaid : Prop := Claim7.holds Tryz.pinned (.plain (OpenSpec.ofChange rsetPartsSpec)) rsetPartsCard

/-- THE TIED CARD OF 'errandlaw26.RsetSteps'. -/
def rsetStepsCard : Claim7 := { stood := { row := rsetStepsRow, standIns := [], harness := (true, "d52050b13f7100e4c58bf2485cdd28749158d162698cbf2298ee2e7a8ffc8300"), looks := false }, kinds := [], alts := [], laidByText := true, laidKinds := [.data], laidTests := true, laidLooks := .later }
def RsetStepsCardSaid : Prop := Claim7.holds Tryz.pinned (.plain (OpenSpec.ofChange rsetStepsSpec)) rsetStepsCard

/-- THE SECOND FORM's CARD OF 'errandlaw25.ExpandTells'. -/
def expandTellsUptoCard : Claim7 := { stood := { row := expandTellsUptoRow, standIns := [], harness := (true, "d52050b13f7100e4c58bf2485cdd28749158d162698cbf2298ee2e7a8ffc8300"), looks := false }, kinds := [], alts := [], laidByText := true, laidKinds := [.data], laidTests := true, laidLooks := .later }
def ExpandTellsUptoCardSaid : Prop := Claim7.holds Tryz.pinned (.plain (OpenSpec.upto expandTellsSpec)) expandTellsUptoCard

/-- THE SECOND FORM's CARD OF 'errandlaw26.RsetWindows'. -/
def rsetWindowsUptoCard : Claim7 := { stood := { row := rsetWindowsUptoRow, standIns := [], harness := (true, "d52050b13f7100e4c58bf2485cdd28749158d162698cbf2298ee2e7a8ffc8300"), looks := false }, kinds := [], alts := [], laidByText := true, laidKinds := [.data], laidTests := true, laidLooks := .later }
def RsetWindowsUptoCardSaid : Prop := Claim7.holds Tryz.pinned (.plain (OpenSpec.upto rsetWindowsSpec)) rsetWindowsUptoCard

/-- THE SECOND FORM's CARD OF 'errandlaw26.RsetNext'. -/
def rsetNextUptoCard : Claim7 := { stood := { row := rsetNextUptoRow, standIns := [], harness := (true, "d52050b13f7100e4c58bf2485cdd28749158d162698cbf2298ee2e7a8ffc8300"), looks := false }, kinds := [], alts := [], laidByText := true, laidKinds := [.data], laidTests := true, laidLooks := .later }
def RsetNextUptoCardSaid : Prop := Claim7.holds Tryz.pinned (.plain (OpenSpec.upto rsetNextSpec)) rsetNextUptoCard

/-- THE SECOND FORM's CARD OF 'errandlaw26.RsetMember'. -/
def rsetMemberUptoCard : Claim7 := { stood := { row := rsetMemberUptoRow, standIns := [], harness := (true, "d52050b13f7100e4c58bf2485cdd28749158d162698cbf2298ee2e7a8ffc8300"), looks := false }, kinds := [], alts := [], laidByText := true, laidKinds := [.data], laidTests := true, laidLooks := .later }
def RsetMemberUptoCardSaid : Prop := Claim7.holds Tryz.pinned (.plain (OpenSpec.upto rsetMemberSpec)) rsetMemberUptoCard

/-- THE SECOND FORM's CARD OF 'errandlaw26.RsetParts'. -/
def rsetPartsUptoCard : Claim7 := { stood := { row := rsetPartsUptoRow, standIns := [], harness := (true, "d52050b13f7100e4c58bf2485cdd28749158d162698cbf2298ee2e7a8ffc8300"), looks := false }, kinds := [], alts := [], laidByText := true, laidKinds := [.data], laidTests := true, laidLooks := .later }
def RsetPartsUptoCardSaid : Prop := Claim7.holds Tryz.pinned (.plain (OpenSpec.upto rsetPartsSpec)) rsetPartsUptoCard

/-- THE SECOND FORM's CARD OF 'errandlaw26.RsetSteps'. -/
def rsetStepsUptoCard : Claim7 := { stood := { row := rsetStepsUptoRow, standIns := [], harness := (true, "d52050b13f7100e4c58bf2485cdd28749158d162698cbf2298ee2e7a8ffc8300"), looks := false }, kinds := [], alts := [], laidByText := true, laidKinds := [.data], laidTests := true, laidLooks := .later }
def RsetStepsUptoCardSaid : Prop := Claim7.holds Tryz.pinned (.plain (OpenSpec.upto rsetStepsSpec)) rsetStepsUptoCard
end Rows
end Go.Proofs.YtkbohijlhhpfbaaGreatDoor
