/-
  DERIVED. GIVEN WITH THE SEED: THE CARDS: each row of YtkbohijlhhpfbaaDoorRows.lean that lists a variable, with what it lists TIED to the program's text (the seventh form; the later family's looks); each row that meets fmt, with fmt's text TOLD by the authors' own Lean function (tested against real Go, not proved from fmt's source: count such statements apart). THE CARD IS WHAT COUNTS. Prove the row's statement (the work); the ties are given (YtkbohijlhhpfbaaDoorTie.lean); close each card by the builder's one call (the guide's Derived/Test/ToyasCard.lean, 'card_holds'). Laid BY PROGRAM, IN A SANDBOX (cutbox-door.mjs). By AI agents, Wed Nov 11 2026. No macro, syntax, notation, axiom, sorry.
-/
import Derived.Test.YtkbohijlhhpfbaaDoorRows
import GoSem.ClaimSeven
namespace Go.Proofs.YtkbohijlhhpfbaaDoor
namespace Rows

/-- THE TIED CARD OF 'errandlaw25.ExpandPicks'. -/
def expandPicksCard : Claim7 := { stood := { row := expandPicksRow, standIns := [], harness := (true, "2b98c77d40c427808d259f6ea98c3b28017bd76c8891a8916188b0d3f66964db"), looks := false }, kinds := [], alts := [], laidByText := true, laidKinds := [.data], laidTests := true, laidLooks := .later }
def ExpandPicksCardSaid : Prop := Claim7.holds Tryd.pinned (.plain (OpenSpec.ofChange expandPicksSpec)) expandPicksCard

/-- THE TIED CARD OF 'errandlaw25.ExpandEach'. -/
def expandEachCard : Claim7 := { stood := { row := expandEachRow, standIns := [], harness := (true, "2b98c77d40c427808d259f6ea98c3b28017bd76c8891a8916188b0d3f66964db"), looks := false }, kinds := [], alts := [], laidByText := true, laidKinds := [.data], laidTests := true, laidLooks := .later }
def ExpandEachCardSaid : Prop := Claim7.holds Tryd.pinned (.plain (OpenSpec.ofChange expandEachSpec)) expandEachCard

/-- THE TIED CARD OF 'errandlaw25.ExpandMember'. -/
def expandMemberCard : Claim7 := { stood := { row := expandMemberRow, standIns := [], harness := (true, "2b98c77d40c427808d259f6ea98c3b28017bd76c8891a8916188b0d3f66964db"), looks := false }, kinds := [], alts := [], laidByText := true, laidKinds := [.data], laidTests := true, laidLooks := .later }
def ExpandMemberCardSaid : Prop := Claim7.holds Tryd.pinned (.plain (OpenSpec.ofChange expandMemberSpec)) expandMemberCard

/-- THE SECOND FORM's CARD OF 'errandlaw25.ExpandPicks'. -/
def expandPicksUptoCard : Claim7 := { stood := { row := expandPicksUptoRow, standIns := [], harness := (true, "2b98c77d40c427808d259f6ea98c3b28017bd76c8891a8916188b0d3f66964db"), looks := false }, kinds := [], alts := [], laidByText := true, laidKinds := [.data], laidTests := true, laidLooks := .later }
def ExpandPicksUptoCardSaid : Prop := Claim7.holds Tryd.pinned (.plain (OpenSpec.upto expandPicksSpec)) expandPicksUptoCard

/-- THE SECOND FORM's CARD OF 'errandlaw25.ExpandEach'. -/
def expandEachUptoCard : Claim7 := { stood := { row := expandEachUptoRow, standIns := [], harness := (true, "2b98c77d40c427808d259f6ea98c3b28017bd76c8891a8916188b0d3f66964db"), looks := false }, kinds := [], alts := [], laidByText := true, laidKinds := [.data], laidTests := true, laidLooks := .later }
def ExpandEachUptoCardSaid : Prop := Claim7.holds Tryd.pinned (.plain (OpenSpec.upto expandEachSpec)) expandEachUptoCard

/-- THE SECOND FORM's CARD OF 'errandlaw25.ExpandMember'. -/
def expandMemberUptoCard : Claim7 := { stood := { row := expandMemberUptoRow, standIns := [], harness := (true, "2b98c77d40c427808d259f6ea98c3b28017bd76c8891a8916188b0d3f66964db"), looks := false }, kinds := [], alts := [], laidByText := true, laidKinds := [.data], laidTests := true, laidLooks := .later }
def ExpandMemberUptoCardSaid : Prop := Claim7.holds Tryd.pinned (.plain (OpenSpec.upto expandMemberSpec)) expandMemberUptoCard
end Rows
end Go.Proofs.YtkbohijlhhpfbaaDoor
