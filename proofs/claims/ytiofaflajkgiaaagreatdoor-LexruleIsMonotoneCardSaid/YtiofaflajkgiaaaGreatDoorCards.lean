/-
  DERIVED. GIVEN WITH THE SEED: THE CARDS: each row of YtiofaflajkgiaaaGreatDoorRows.lean that lists a variable, with what it lists TIED to the program's text (the seventh form; the later family's looks); each row that meets fmt, with fmt's text TOLD by the authors' own Lean function (tested against real Go, not proved from fmt's source: count such statements apart). THE CARD IS WHAT COUNTS. Prove the row's statement (the work); the ties are given (YtiofaflajkgiaaaGreatDoorTie.lean); close each card by the builder's one call (the guide's Derived/Test/ToyasCard.lean, 'card_holds'). Laid BY PROGRAM, IN A SANDBOX (cutbox-door.mjs). By AI agents, Wed Nov 11 2026. No macro, syntax, notation, axiom, sorry.
-/
import Derived.Test.YtiofaflajkgiaaaGreatDoorRows
import GoSem.ClaimSeven
namespace Go.Proofs.YtiofaflajkgiaaaGreatDoor
namespace Rows

/-- THE TIED CARD OF 'glosswrightlaw3.LexruleIsMonotone'. -/
def lexruleIsMonotoneCard : Claim7 := { stood := { row := lexruleIsMonotoneRow, standIns := [], harness := (true, "677337cd7e6d9563be686c8c0d4490575b4661f8a98732da6833b555044db915"), looks := false }, kinds := [], alts := [], laidByText := true, laidKinds := [.data, .data, .pinned], laidTests := true, laidLooks := .later }
def LexruleIsMonotoneCardSaid : Prop := Claim7.holds Tryz.pinned (.plain (OpenSpec.ofChange lexruleIsMonotoneSpec)) lexruleIsMonotoneCard

/-- THE TIED CARD OF 'glosswrightlaw3.LexruleApplyMatchesSpec'. -/
def lexruleApplyMatchesSpecCard : Claim7 := { stood := { row := lexruleApplyMatchesSpecRow, standIns := [], harness := (true, "677337cd7e6d9563be686c8c0d4490575b4661f8a98732da6833b555044db915"), looks := false }, kinds := [], alts := [], laidByText := true, laidKinds := [.data, .data, .pinned], laidTests := true, laidLooks := .later }
def LexruleApplyMatchesSpecCardSaid : Prop := Claim7.holds Tryz.pinned (.plain (OpenSpec.ofChange lexruleApplyMatchesSpecSpec)) lexruleApplyMatchesSpecCard

/-- THE SECOND FORM's CARD OF 'glosswrightlaw3.LexruleIsMonotone'. -/
def lexruleIsMonotoneUptoCard : Claim7 := { stood := { row := lexruleIsMonotoneUptoRow, standIns := [], harness := (true, "677337cd7e6d9563be686c8c0d4490575b4661f8a98732da6833b555044db915"), looks := false }, kinds := [], alts := [], laidByText := true, laidKinds := [.data, .data, .pinned], laidTests := true, laidLooks := .later }
def LexruleIsMonotoneUptoCardSaid : Prop := Claim7.holds Tryz.pinned (.plain (OpenSpec.upto lexruleIsMonotoneSpec)) lexruleIsMonotoneUptoCard

/-- THE SECOND FORM's CARD OF 'glosswrightlaw3.LexruleApplyMatchesSpec'. -/
def lexruleApplyMatchesSpecUptoCard : Claim7 := { stood := { row := lexruleApplyMatchesSpecUptoRow, standIns := [], harness := (true, "677337cd7e6d9563be686c8c0d4490575b4661f8a98732da6833b555044db915"), looks := false }, kinds := [], alts := [], laidByText := true, laidKinds := [.data, .data, .pinned], laidTests := true, laidLooks := .later }
def LexruleApplyMatchesSpecUptoCardSaid : Prop := Claim7.holds Tryz.pinned (.plain (OpenSpec.upto lexruleApplyMatchesSpecSpec)) lexruleApplyMatchesSpecUptoCard
end Rows
end Go.Proofs.YtiofaflajkgiaaaGreatDoor
