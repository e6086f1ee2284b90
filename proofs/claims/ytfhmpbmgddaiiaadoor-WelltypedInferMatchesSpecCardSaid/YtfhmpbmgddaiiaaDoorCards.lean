/-
  DERIVED. GIVEN WITH THE SEED: THE CARDS: each row of YtfhmpbmgddaiiaaDoorRows.lean that lists a variable, with what it lists TIED to the program's text (the seventh form; the later family's looks); each row that meets fmt, with fmt's text TOLD by the authors' own Lean function (tested against real Go, not proved from fmt's source: count such statements apart). THE CARD IS WHAT COUNTS. Prove the row's statement (the work); the ties are given (YtfhmpbmgddaiiaaDoorTie.lean); close each card by the builder's one call (the guide's Derived/Test/ToyasCard.lean, 'card_holds'). Laid BY PROGRAM, IN A SANDBOX (cutbox-door.mjs). By AI agents, Wed Nov 11 2026. No macro, syntax, notation, axiom, sorry.
-/
import Derived.Test.YtfhmpbmgddaiiaaDoorRows
import GoSem.ClaimSeven
namespace Go.Proofs.YtfhmpbmgddaiiaaDoor
namespace Rows

/-- THE TIED CARD OF 'glosswrightlaw3.WelltypedInferMatchesSpec'. -/
def welltypedInferMatchesSpecCard : Claim7 := { stood := { row := welltypedInferMatchesSpecRow, standIns := [], harness := (true, "463aaf901c13a307162d89233439cfa374e4b26941a5115567e48366ddbaf2a4"), looks := false }, kinds := [], alts := [], laidByText := true, laidKinds := [.data], laidTests := true, laidLooks := .later }
def WelltypedInferMatchesSpecCardSaid : Prop := Claim7.holds Tryd.pinned (.plain (OpenSpec.ofChange welltypedInferMatchesSpecSpec)) welltypedInferMatchesSpecCard

/-- THE TIED CARD OF 'glosswrightlaw3.WelltypedInferIsLeast'. -/
def welltypedInferIsLeastCard : Claim7 := { stood := { row := welltypedInferIsLeastRow, standIns := [], harness := (true, "463aaf901c13a307162d89233439cfa374e4b26941a5115567e48366ddbaf2a4"), looks := false }, kinds := [], alts := [], laidByText := true, laidKinds := [.data], laidTests := true, laidLooks := .later }
def WelltypedInferIsLeastCardSaid : Prop := Claim7.holds Tryd.pinned (.plain (OpenSpec.ofChange welltypedInferIsLeastSpec)) welltypedInferIsLeastCard

/-- THE SECOND FORM's CARD OF 'glosswrightlaw3.WelltypedInferMatchesSpec'. -/
def welltypedInferMatchesSpecUptoCard : Claim7 := { stood := { row := welltypedInferMatchesSpecUptoRow, standIns := [], harness := (true, "463aaf901c13a307162d89233439cfa374e4b26941a5115567e48366ddbaf2a4"), looks := false }, kinds := [], alts := [], laidByText := true, laidKinds := [.data], laidTests := true, laidLooks := .later }
def WelltypedInferMatchesSpecUptoCardSaid : Prop := Claim7.holds Tryd.pinned (.plain (OpenSpec.upto welltypedInferMatchesSpecSpec)) welltypedInferMatchesSpecUptoCard

/-- THE SECOND FORM's CARD OF 'glosswrightlaw3.WelltypedInferIsLeast'. -/
def welltypedInferIsLeastUptoCard : Claim7 := { stood := { row := welltypedInferIsLeastUptoRow, standIns := [], harness := (true, "463aaf901c13a307162d89233439cfa374e4b26941a5115567e48366ddbaf2a4"), looks := false }, kinds := [], alts := [], laidByText := true, laidKinds := [.data], laidTests := true, laidLooks := .later }
def WelltypedInferIsLeastUptoCardSaid : Prop := Claim7.holds Tryd.pinned (.plain (OpenSpec.upto welltypedInferIsLeastSpec)) welltypedInferIsLeastUptoCard
end Rows
end Go.Proofs.YtfhmpbmgddaiiaaDoor
