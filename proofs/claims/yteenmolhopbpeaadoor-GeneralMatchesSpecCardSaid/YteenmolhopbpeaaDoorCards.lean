/-
  DERIVED. GIVEN WITH THE SEED: THE CARDS: each row of YteenmolhopbpeaaDoorRows.lean that lists a variable, with what it lists TIED to the program's text (the seventh form; the later family's looks); each row that meets fmt, with fmt's text TOLD by the authors' own Lean function (tested against real Go, not proved from fmt's source: count such statements apart). THE CARD IS WHAT COUNTS. Prove the row's statement (the work); the ties are given (YteenmolhopbpeaaDoorTie.lean); close each card by the builder's one call (the guide's Derived/Test/ToyasCard.lean, 'card_holds'). Laid BY PROGRAM, IN A SANDBOX (cutbox-door.mjs). By AI agents, Wed Nov 11 2026. No macro, syntax, notation, axiom, sorry.
-/
import Derived.Test.YteenmolhopbpeaaDoorRows
import GoSem.ClaimSeven
namespace Go.Proofs.YteenmolhopbpeaaDoor
namespace Rows

/-- THE TIED CARD OF 'glosswrightlaw3.GeneralMatchesSpec'. -/
def generalMatchesSpecCard : Claim7 := { stood := { row := generalMatchesSpecRow, standIns := [], harness := (true, "9825c70e5d3de9eb4812fc9294f891f87ba9d9c086a18aa7c3d0bc979adbd302"), looks := false }, kinds := [], alts := [], laidByText := true, laidKinds := [.data], laidTests := true, laidLooks := .later }
def GeneralMatchesSpecCardSaid : Prop := Claim7.holds Tryd.pinned (.plain (OpenSpec.ofChange generalMatchesSpecSpec)) generalMatchesSpecCard

/-- THE TIED CARD OF 'glosswrightlaw3.GeneralIsGreatestBound'. -/
def generalIsGreatestBoundCard : Claim7 := { stood := { row := generalIsGreatestBoundRow, standIns := [], harness := (true, "9825c70e5d3de9eb4812fc9294f891f87ba9d9c086a18aa7c3d0bc979adbd302"), looks := false }, kinds := [], alts := [], laidByText := true, laidKinds := [.data], laidTests := true, laidLooks := .later }
def GeneralIsGreatestBoundCardSaid : Prop := Claim7.holds Tryd.pinned (.plain (OpenSpec.ofChange generalIsGreatestBoundSpec)) generalIsGreatestBoundCard

/-- THE SECOND FORM's CARD OF 'glosswrightlaw3.GeneralMatchesSpec'. -/
def generalMatchesSpecUptoCard : Claim7 := { stood := { row := generalMatchesSpecUptoRow, standIns := [], harness := (true, "9825c70e5d3de9eb4812fc9294f891f87ba9d9c086a18aa7c3d0bc979adbd302"), looks := false }, kinds := [], alts := [], laidByText := true, laidKinds := [.data], laidTests := true, laidLooks := .later }
def GeneralMatchesSpecUptoCardSaid : Prop := Claim7.holds Tryd.pinned (.plain (OpenSpec.upto generalMatchesSpecSpec)) generalMatchesSpecUptoCard

/-- THE SECOND FORM's CARD OF 'glosswrightlaw3.GeneralIsGreatestBound'. -/
def generalIsGreatestBoundUptoCard : Claim7 := { stood := { row := generalIsGreatestBoundUptoRow, standIns := [], harness := (true, "9825c70e5d3de9eb4812fc9294f891f87ba9d9c086a18aa7c3d0bc979adbd302"), looks := false }, kinds := [], alts := [], laidByText := true, laidKinds := [.data], laidTests := true, laidLooks := .later }
def GeneralIsGreatestBoundUptoCardSaid : Prop := Claim7.holds Tryd.pinned (.plain (OpenSpec.upto generalIsGreatestBoundSpec)) generalIsGreatestBoundUptoCard
end Rows
end Go.Proofs.YteenmolhopbpeaaDoor
