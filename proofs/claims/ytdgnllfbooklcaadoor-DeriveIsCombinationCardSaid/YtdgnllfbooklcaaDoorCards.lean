/-
  DERIVED. GIVEN WITH THE SEED: THE CARDS: each row of YtdgnllfbooklcaaDoorRows.lean that lists a variable, with what it lists TIED to the program's text (the seventh form; the later family's looks); each row that meets fmt, with fmt's text TOLD by the authors' own Lean function (tested against real Go, not proved from fmt's source: count such statements apart). THE CARD IS WHAT COUNTS. Prove the row's statement (the work); the ties are given (YtdgnllfbooklcaaDoorTie.lean); close each card by the builder's one call (the guide's Derived/Test/ToyasCard.lean, 'card_holds'). Laid BY PROGRAM, IN A SANDBOX (cutbox-door.mjs). By AI agents, Wed Nov 11 2026. No macro, syntax, notation, axiom, sorry.
-/
import Derived.Test.YtdgnllfbooklcaaDoorRows
import GoSem.ClaimSeven
namespace Go.Proofs.YtdgnllfbooklcaaDoor
namespace Rows

/-- THE TIED CARD OF 'glosswrightlaw4.GrammarCombineIsMonotone'. -/
def grammarCombineIsMonotoneCard : Claim7 := { stood := { row := grammarCombineIsMonotoneRow, standIns := [], harness := (true, "396766dffbcdf9adb1d517fa79c4d20c45726c3055125aa316c616a465c74a8b"), looks := false }, kinds := [], alts := [], laidByText := true, laidKinds := [.data, .data, .pinned], laidTests := true, laidLooks := .later }
def GrammarCombineIsMonotoneCardSaid : Prop := Claim7.holds Tryd.pinned (.plain (OpenSpec.ofChange grammarCombineIsMonotoneSpec)) grammarCombineIsMonotoneCard

/-- THE TIED CARD OF 'glosswrightlaw4.DeriveIsCombination'. -/
def deriveIsCombinationCard : Claim7 := { stood := { row := deriveIsCombinationRow, standIns := [], harness := (true, "396766dffbcdf9adb1d517fa79c4d20c45726c3055125aa316c616a465c74a8b"), looks := false }, kinds := [], alts := [], laidByText := true, laidKinds := [.data, .data, .pinned], laidTests := true, laidLooks := .later }
def DeriveIsCombinationCardSaid : Prop := Claim7.holds Tryd.pinned (.plain (OpenSpec.ofChange deriveIsCombinationSpec)) deriveIsCombinationCard

/-- THE SECOND FORM's CARD OF 'glosswrightlaw4.GrammarCombineIsMonotone'. -/
def grammarCombineIsMonotoneUptoCard : Claim7 := { stood := { row := grammarCombineIsMonotoneUptoRow, standIns := [], harness := (true, "396766dffbcdf9adb1d517fa79c4d20c45726c3055125aa316c616a465c74a8b"), looks := false }, kinds := [], alts := [], laidByText := true, laidKinds := [.data, .data, .pinned], laidTests := true, laidLooks := .later }
def GrammarCombineIsMonotoneUptoCardSaid : Prop := Claim7.holds Tryd.pinned (.plain (OpenSpec.upto grammarCombineIsMonotoneSpec)) grammarCombineIsMonotoneUptoCard

/-- THE SECOND FORM's CARD OF 'glosswrightlaw4.DeriveIsCombination'. -/
def deriveIsCombinationUptoCard : Claim7 := { stood := { row := deriveIsCombinationUptoRow, standIns := [], harness := (true, "396766dffbcdf9adb1d517fa79c4d20c45726c3055125aa316c616a465c74a8b"), looks := false }, kinds := [], alts := [], laidByText := true, laidKinds := [.data, .data, .pinned], laidTests := true, laidLooks := .later }
def DeriveIsCombinationUptoCardSaid : Prop := Claim7.holds Tryd.pinned (.plain (OpenSpec.upto deriveIsCombinationSpec)) deriveIsCombinationUptoCard
end Rows
end Go.Proofs.YtdgnllfbooklcaaDoor
