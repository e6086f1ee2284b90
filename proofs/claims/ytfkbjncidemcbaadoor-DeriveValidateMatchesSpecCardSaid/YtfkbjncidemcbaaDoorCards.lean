/-
  DERIVED. GIVEN WITH THE SEED: THE CARDS: each row of YtfkbjncidemcbaaDoorRows.lean that lists a variable, with what it lists TIED to the program's text (the seventh form; the later family's looks); each row that meets fmt, with fmt's text TOLD by the authors' own Lean function (tested against real Go, not proved from fmt's source: count such statements apart). THE CARD IS WHAT COUNTS. Prove the row's statement (the work); the ties are given (YtfkbjncidemcbaaDoorTie.lean); close each card by the builder's one call (the guide's Derived/Test/ToyasCard.lean, 'card_holds'). Laid BY PROGRAM, IN A SANDBOX (cutbox-door.mjs). By AI agents, Wed Nov 11 2026. No macro, syntax, notation, axiom, sorry.
-/
import Derived.Test.YtfkbjncidemcbaaDoorRows
import GoSem.ClaimSeven
namespace Go.Proofs.YtfkbjncidemcbaaDoor
namespace Rows

/-- THE TIED CARD OF 'glosswrightlaw4.GrammarValidateMatchesSpec'. -/
def grammarValidateMatchesSpecCard : Claim7 := { stood := { row := grammarValidateMatchesSpecRow, standIns := [], harness := (true, "9bae22c1f839bb5bd3e573cd4c12638b86f46d6896da3863284434124e914226"), looks := false }, kinds := [], alts := [], laidByText := true, laidKinds := [.data, .data, .pinned], laidTests := true, laidLooks := .later }
def GrammarValidateMatchesSpecCardSaid : Prop := Claim7.holds Tryd.pinned (.plain (OpenSpec.ofChange grammarValidateMatchesSpecSpec)) grammarValidateMatchesSpecCard

/-- THE TIED CARD OF 'glosswrightlaw4.DeriveValidateMatchesSpec'. -/
def deriveValidateMatchesSpecCard : Claim7 := { stood := { row := deriveValidateMatchesSpecRow, standIns := [], harness := (true, "9bae22c1f839bb5bd3e573cd4c12638b86f46d6896da3863284434124e914226"), looks := false }, kinds := [], alts := [], laidByText := true, laidKinds := [.data, .data, .pinned], laidTests := true, laidLooks := .later }
def DeriveValidateMatchesSpecCardSaid : Prop := Claim7.holds Tryd.pinned (.plain (OpenSpec.ofChange deriveValidateMatchesSpecSpec)) deriveValidateMatchesSpecCard

/-- THE TIED CARD OF 'glosswrightlaw4.GrammarCombineIsMonotone'. -/
def grammarCombineIsMonotoneCard : Claim7 := { stood := { row := grammarCombineIsMonotoneRow, standIns := [], harness := (true, "9bae22c1f839bb5bd3e573cd4c12638b86f46d6896da3863284434124e914226"), looks := false }, kinds := [], alts := [], laidByText := true, laidKinds := [.data, .data, .pinned], laidTests := true, laidLooks := .later }
def GrammarCombineIsMonotoneCardSaid : Prop := Claim7.holds Tryd.pinned (.plain (OpenSpec.ofChange grammarCombineIsMonotoneSpec)) grammarCombineIsMonotoneCard

/-- THE TIED CARD OF 'glosswrightlaw4.DeriveIsCombination'. -/
def deriveIsCombinationCard : Claim7 := { stood := { row := deriveIsCombinationRow, standIns := [], harness := (true, "9bae22c1f839bb5bd3e573cd4c12638b86f46d6896da3863284434124e914226"), looks := false }, kinds := [], alts := [], laidByText := true, laidKinds := [.data, .data, .pinned], laidTests := true, laidLooks := .later }
def DeriveIsCombinationCardSaid : Prop := Claim7.holds Tryd.pinned (.plain (OpenSpec.ofChange deriveIsCombinationSpec)) deriveIsCombinationCard

/-- THE SECOND FORM's CARD OF 'glosswrightlaw4.GrammarValidateMatchesSpec'. -/
def grammarValidateMatchesSpecUptoCard : Claim7 := { stood := { row := grammarValidateMatchesSpecUptoRow, standIns := [], harness := (true, "9bae22c1f839bb5bd3e573cd4c12638b86f46d6896da3863284434124e914226"), looks := false }, kinds := [], alts := [], laidByText := true, laidKinds := [.data, .data, .pinned], laidTests := true, laidLooks := .later }
def GrammarValidateMatchesSpecUptoCardSaid : Prop := Claim7.holds Tryd.pinned (.plain (OpenSpec.upto grammarValidateMatchesSpecSpec)) grammarValidateMatchesSpecUptoCard

/-- THE SECOND FORM's CARD OF 'glosswrightlaw4.DeriveValidateMatchesSpec'. -/
def deriveValidateMatchesSpecUptoCard : Claim7 := { stood := { row := deriveValidateMatchesSpecUptoRow, standIns := [], harness := (true, "9bae22c1f839bb5bd3e573cd4c12638b86f46d6896da3863284434124e914226"), looks := false }, kinds := [], alts := [], laidByText := true, laidKinds := [.data, .data, .pinned], laidTests := true, laidLooks := .later }
def DeriveValidateMatchesSpecUptoCardSaid : Prop := Claim7.holds Tryd.pinned (.plain (OpenSpec.upto deriveValidateMatchesSpecSpec)) deriveValidateMatchesSpecUptoCard

/-- THE SECOND FORM's CARD OF 'glosswrightlaw4.GrammarCombineIsMonotone'. -/
def grammarCombineIsMonotoneUptoCard : Claim7 := { stood := { row := grammarCombineIsMonotoneUptoRow, standIns := [], harness := (true, "9bae22c1f839bb5bd3e573cd4c12638b86f46d6896da3863284434124e914226"), looks := false }, kinds := [], alts := [], laidByText := true, laidKinds := [.data, .data, .pinned], laidTests := true, laidLooks := .later }
def GrammarCombineIsMonotoneUptoCardSaid : Prop := Claim7.holds Tryd.pinned (.plain (OpenSpec.upto grammarCombineIsMonotoneSpec)) grammarCombineIsMonotoneUptoCard

/-- THE SECOND FORM's CARD OF 'glosswrightlaw4.DeriveIsCombination'. -/
def deriveIsCombinationUptoCard : Claim7 := { stood := { row := deriveIsCombinationUptoRow, standIns := [], harness := (true, "9bae22c1f839bb5bd3e573cd4c12638b86f46d6896da3863284434124e914226"), looks := false }, kinds := [], alts := [], laidByText := true, laidKinds := [.data, .data, .pinned], laidTests := true, laidLooks := .later }
def DeriveIsCombinationUptoCardSaid : Prop := Claim7.holds Tryd.pinned (.plain (OpenSpec.upto deriveIsCombinationSpec)) deriveIsCombinationUptoCard
end Rows
end Go.Proofs.YtfkbjncidemcbaaDoor
