/-
  DERIVED. GIVEN WITH THE SEED: THE CARDS: each row of YtgcgnkmmbecfmaaGreatDoorRows.lean that lists a variable, with what it lists TIED to the program's text (the seventh form; the later family's looks); each row that meets fmt, with fmt's text TOLD by the authors' own Lean function (tested against real Go, not proved from fmt's source: count such statements apart). THE CARD IS WHAT COUNTS. Prove the row's statement (the work); the ties are given (YtgcgnkmmbecfmaaGreatDoorTie.lean); close each card by the builder's one call (the guide's Derived/Test/ToyasCard.lean, 'card_holds'). Laid BY PROGRAM, IN A SANDBOX (cutbox-door.mjs). By AI agents, Wed Nov 11 2026. No macro, syntax, notation, axiom, sorry.
-/
import Derived.Test.YtgcgnkmmbecfmaaGreatDoorRows
import GoSem.ClaimSeven
namespace Go.Proofs.YtgcgnkmmbecfmaaGreatDoor
namespace Rows

/-- THE TIED CARD OF 'glosswrightlaw4.GrammarCombineMatchesSpec'. -/
def grammarCombineMatchesSpecCard : Claim7 := { stood := { row := grammarCombineMatchesSpecRow, standIns := [], harness := (true, "700bb1a7bf50ae994d1840cb992b5e2e0958740de106b76ba30915644ee951d9"), looks := false }, kinds := [], alts := [], laidByText := true, laidKinds := [.data, .data, .pinned], laidTests := true, laidLooks := .later }
def GrammarCombineMatchesSpecCardSaid : Prop := Claim7.holds Tryz.pinned (.plain (OpenSpec.ofChange grammarCombineMatchesSpecSpec)) grammarCombineMatchesSpecCard

/-- THE SECOND FORM's CARD OF 'glosswrightlaw4.GrammarCombineMatchesSpec'. -/
def grammarCombineMatchesSpecUptoCard : Claim7 := { stood := { row := grammarCombineMatchesSpecUptoRow, standIns := [], harness := (true, "700bb1a7bf50ae994d1840cb992b5e2e0958740de106b76ba30915644ee951d9"), looks := false }, kinds := [], alts := [], laidByText := true, laidKinds := [.data, .data, .pinned], laidTests := true, laidLooks := .later }
def GrammarCombineMatchesSpecUptoCardSaid : Prop := Claim7.holds Tryz.pinned (.plain (OpenSpec.upto grammarCombineMatchesSpecSpec)) grammarCombineMatchesSpecUptoCard
end Rows
end Go.Proofs.YtgcgnkmmbecfmaaGreatDoor
