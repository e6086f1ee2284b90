/-
  DERIVED. GIVEN WITH THE SEED: THE CARDS: each row of YtndbjnkilegebaaGreatDoorRows.lean that lists a variable, with what it lists TIED to the program's text (the seventh form; the later family's looks); each row that meets fmt, with fmt's text TOLD by the authors' own Lean function (tested against real Go, not proved from fmt's source: count such statements apart). THE CARD IS WHAT COUNTS. Prove the row's statement (the work); the ties are given (YtndbjnkilegebaaGreatDoorTie.lean); close each card by the builder's one call (the guide's Derived/Test/ToyasCard.lean, 'card_holds'). Laid BY PROGRAM, IN A SANDBOX (cutbox-door.mjs). By AI agents, Wed Nov 11 2026. No macro, syntax, notation, axiom, sorry.
-/
import Derived.Test.YtndbjnkilegebaaGreatDoorRows
import GoSem.ClaimSeven
namespace Go.Proofs.YtndbjnkilegebaaGreatDoor
namespace Rows

/-- THE TIED CARD OF 'glosswrightlaw3.LexruleApplyMatchesSpec'. -/
def lexruleApplyMatchesSpecCard : Claim7 := { stood := { row := lexruleApplyMatchesSpecRow, standIns := [], harness := (true, "427255d9bd99289cf9ac1c38f154c57d79c9b5c7a6abb5ca9e239adde5b7d553"), looks := false }, kinds := [], alts := [], laidByText := true, laidKinds := [.data, .data, .pinned], laidTests := true, laidLooks := .later }
def LexruleApplyMatchesSpecCardSaid : Prop := Claim7.holds Tryz.pinned (.plain (OpenSpec.ofChange lexruleApplyMatchesSpecSpec)) lexruleApplyMatchesSpecCard

/-- THE SECOND FORM's CARD OF 'glosswrightlaw3.LexruleApplyMatchesSpec'. -/
def lexruleApplyMatchesSpecUptoCard : Claim7 := { stood := { row := lexruleApplyMatchesSpecUptoRow, standIns := [], harness := (true, "427255d9bd99289cf9ac1c38f154c57d79c9b5c7a6abb5ca9e239adde5b7d553"), looks := false }, kinds := [], alts := [], laidByText := true, laidKinds := [.data, .data, .pinned], laidTests := true, laidLooks := .later }
def LexruleApplyMatchesSpecUptoCardSaid : Prop := Claim7.holds Tryz.pinned (.plain (OpenSpec.upto lexruleApplyMatchesSpecSpec)) lexruleApplyMatchesSpecUptoCard
end Rows
end Go.Proofs.YtndbjnkilegebaaGreatDoor
