/-
  DERIVED. GIVEN WITH THE SEED: THE CARDS: each row of YtbjiiejgepgdeaaDoorRows.lean that lists a variable, with what it lists TIED to the program's text (the seventh form; the later family's looks); each row that meets fmt, with fmt's text TOLD by the authors' own Lean function (tested against real Go, not proved from fmt's source: count such statements apart). THE CARD IS WHAT COUNTS. Prove the row's statement (the work); the ties are given (YtbjiiejgepgdeaaDoorTie.lean); close each card by the builder's one call (the guide's Derived/Test/ToyasCard.lean, 'card_holds'). Laid BY PROGRAM, IN A SANDBOX (cutbox-door.mjs). By AI agents, Wed Nov 11 2026. No macro, syntax, notation, axiom, sorry.
-/
import Derived.Test.YtbjiiejgepgdeaaDoorRows
import GoSem.ClaimSeven
namespace Go.Proofs.YtbjiiejgepgdeaaDoor
namespace Rows

/-- THE TIED CARD OF 'errandlaw11.MomentParses'. -/
def momentParsesCard : Claim7 := { stood := { row := momentParsesRow, standIns := [], harness := (true, "b2750196e9d23b94603720ec5c1d5e98dd42391f29a839526f4898535d1e1b3f"), looks := false }, kinds := [], alts := [], laidByText := true, laidKinds := [.data], laidTests := true, laidLooks := .later }
def MomentParsesCardSaid : Prop := Claim7.holds Tryd.pinned (.plain (OpenSpec.ofChange momentParsesSpec)) momentParsesCard

/-- THE TIED CARD OF 'errandlaw11.MomentTells'. -/
def momentTellsCard : Claim7 := { stood := { row := momentTellsRow, standIns := [], harness := (true, "b2750196e9d23b94603720ec5c1d5e98dd42391f29a839526f4898535d1e1b3f"), looks := false }, kinds := [], alts := [], laidByText := true, laidKinds := [.data], laidTests := true, laidLooks := .later }
def MomentTellsCardSaid : Prop := Claim7.holds Tryd.pinned (.plain (OpenSpec.ofChange momentTellsSpec)) momentTellsCard

/-- THE TIED CARD OF 'errandlaw11.MomentBack'. -/
def momentBackCard : Claim7 := { stood := { row := momentBackRow, standIns := [], harness := (true, "b2750196e9d23b94603720ec5c1d5e98dd42391f29a839526f4898535d1e1b3f"), looks := false }, kinds := [], alts := [], laidByText := true, laidKinds := [.data], laidTests := true, laidLooks := .later }
def MomentBackCardSaid : Prop := Claim7.holds Tryd.pinned (.plain (OpenSpec.ofChange momentBackSpec)) momentBackCard

/-- THE TIED CARD OF 'errandlaw11.MomentOrder'. -/
def momentOrderCard : Claim7 := { stood := { row := momentOrderRow, standIns := [], harness := (true, "b2750196e9d23b94603720ec5c1d5e98dd42391f29a839526f4898535d1e1b3f"), looks := false }, kinds := [], alts := [], laidByText := true, laidKinds := [.data], laidTests := true, laidLooks := .later }
def MomentOrderCardSaid : Prop := Claim7.holds Tryd.pinned (.plain (OpenSpec.ofChange momentOrderSpec)) momentOrderCard

/-- THE SECOND FORM's CARD OF 'errandlaw11.MomentParses'. -/
def momentParsesUptoCard : Claim7 := { stood := { row := momentParsesUptoRow, standIns := [], harness := (true, "b2750196e9d23b94603720ec5c1d5e98dd42391f29a839526f4898535d1e1b3f"), looks := false }, kinds := [], alts := [], laidByText := true, laidKinds := [.data], laidTests := true, laidLooks := .later }
def MomentParsesUptoCardSaid : Prop := Claim7.holds Tryd.pinned (.plain (OpenSpec.upto momentParsesSpec)) momentParsesUptoCard

/-- THE SECOND FORM's CARD OF 'errandlaw11.MomentTells'. -/
def momentTellsUptoCard : Claim7 := { stood := { row := momentTellsUptoRow, standIns := [], harness := (true, "b2750196e9d23b94603720ec5c1d5e98dd42391f29a839526f4898535d1e1b3f"), looks := false }, kinds := [], alts := [], laidByText := true, laidKinds := [.data], laidTests := true, laidLooks := .later }
def MomentTellsUptoCardSaid : Prop := Claim7.holds Tryd.pinned (.plain (OpenSpec.upto momentTellsSpec)) momentTellsUptoCard

/-- THE SECOND FORM's CARD OF 'errandlaw11.MomentBack'. -/
def momentBackUptoCard : Claim7 := { stood := { row := momentBackUptoRow, standIns := [], harness := (true, "b2750196e9d23b94603720ec5c1d5e98dd42391f29a839526f4898535d1e1b3f"), looks := false }, kinds := [], alts := [], laidByText := true, laidKinds := [.data], laidTests := true, laidLooks := .later }
def MomentBackUptoCardSaid : Prop := Claim7.holds Tryd.pinned (.plain (OpenSpec.upto momentBackSpec)) momentBackUptoCard

/-- THE SECOND FORM's CARD OF 'errandlaw11.MomentOrder'. -/
def momentOrderUptoCard : Claim7 := { stood := { row := momentOrderUptoRow, standIns := [], harness := (true, "b2750196e9d23b94603720ec5c1d5e98dd42391f29a839526f4898535d1e1b3f"), looks := false }, kinds := [], alts := [], laidByText := true, laidKinds := [.data], laidTests := true, laidLooks := .later }
def MomentOrderUptoCardSaid : Prop := Claim7.holds Tryd.pinned (.plain (OpenSpec.upto momentOrderSpec)) momentOrderUptoCard
end Rows
end Go.Proofs.YtbjiiejgepgdeaaDoor
