/-
  DERIVED. GIVEN WITH THE SEED: THE CARDS: each row of YtdegobbnidddjaaDoorRows.lean that lists a variable, with what it lists TIED to the program's text (the seventh form; the later family's looks); each row that meets fmt, with fmt's text TOLD by the authors' own Lean function (tested against real Go, not proved from fmt's source: count such statements apart). THE CARD IS WHAT COUNTS. Prove the row's statement (the work); the ties are given (YtdegobbnidddjaaDoorTie.lean); close each card by the builder's one call (the guide's Derived/Test/ToyasCard.lean, 'card_holds'). Laid BY PROGRAM, IN A SANDBOX (cutbox-door.mjs). By AI agents, Wed Nov 11 2026. No macro, syntax, notation, axiom, sorry.
-/
import Derived.Test.YtdegobbnidddjaaDoorRows
import GoSem.ClaimSeven
namespace Go.Proofs.YtdegobbnidddjaaDoor
namespace Rows

/-- THE TIED CARD OF 'glosswrightlaw3.GraphValidateMatchesSpec'. -/
def graphValidateMatchesSpecCard : Claim7 := { stood := { row := graphValidateMatchesSpecRow, standIns := [], harness := (true, "c51354929d8f2e4735d7b6368d52735f8bc267f32a9c18b142b14dca9846d75c"), looks := false }, kinds := [], alts := [], laidByText := true, laidKinds := [.data], laidTests := true, laidLooks := .later }
def GraphValidateMatchesSpecCardSaid : Prop := Claim7.holds Tryd.pinned (.plain (OpenSpec.ofChange graphValidateMatchesSpecSpec)) graphValidateMatchesSpecCard

/-- THE TIED CARD OF 'glosswrightlaw3.GraphNumbersDoNotMatter'. -/
def graphNumbersDoNotMatterCard : Claim7 := { stood := { row := graphNumbersDoNotMatterRow, standIns := [], harness := (true, "c51354929d8f2e4735d7b6368d52735f8bc267f32a9c18b142b14dca9846d75c"), looks := false }, kinds := [], alts := [], laidByText := true, laidKinds := [.data], laidTests := true, laidLooks := .later }
def GraphNumbersDoNotMatterCardSaid : Prop := Claim7.holds Tryd.pinned (.plain (OpenSpec.ofChange graphNumbersDoNotMatterSpec)) graphNumbersDoNotMatterCard

/-- THE TIED CARD OF 'glosswrightlaw3.GraphCanonicalMatchesSpec'. -/
def graphCanonicalMatchesSpecCard : Claim7 := { stood := { row := graphCanonicalMatchesSpecRow, standIns := [], harness := (true, "c51354929d8f2e4735d7b6368d52735f8bc267f32a9c18b142b14dca9846d75c"), looks := false }, kinds := [], alts := [], laidByText := true, laidKinds := [.data], laidTests := true, laidLooks := .later }
def GraphCanonicalMatchesSpecCardSaid : Prop := Claim7.holds Tryd.pinned (.plain (OpenSpec.ofChange graphCanonicalMatchesSpecSpec)) graphCanonicalMatchesSpecCard

/-- THE TIED CARD OF 'glosswrightlaw3.GraphPathsMatchesSpec'. -/
def graphPathsMatchesSpecCard : Claim7 := { stood := { row := graphPathsMatchesSpecRow, standIns := [], harness := (true, "c51354929d8f2e4735d7b6368d52735f8bc267f32a9c18b142b14dca9846d75c"), looks := false }, kinds := [], alts := [], laidByText := true, laidKinds := [.data], laidTests := true, laidLooks := .later }
def GraphPathsMatchesSpecCardSaid : Prop := Claim7.holds Tryd.pinned (.plain (OpenSpec.ofChange graphPathsMatchesSpecSpec)) graphPathsMatchesSpecCard

/-- THE TIED CARD OF 'glosswrightlaw3.GraphAtMatchesSpec'. -/
def graphAtMatchesSpecCard : Claim7 := { stood := { row := graphAtMatchesSpecRow, standIns := [], harness := (true, "c51354929d8f2e4735d7b6368d52735f8bc267f32a9c18b142b14dca9846d75c"), looks := false }, kinds := [], alts := [], laidByText := true, laidKinds := [.data], laidTests := true, laidLooks := .later }
def GraphAtMatchesSpecCardSaid : Prop := Claim7.holds Tryd.pinned (.plain (OpenSpec.ofChange graphAtMatchesSpecSpec)) graphAtMatchesSpecCard

/-- THE TIED CARD OF 'glosswrightlaw3.GraphAtComposes'. -/
def graphAtComposesCard : Claim7 := { stood := { row := graphAtComposesRow, standIns := [], harness := (true, "c51354929d8f2e4735d7b6368d52735f8bc267f32a9c18b142b14dca9846d75c"), looks := false }, kinds := [], alts := [], laidByText := true, laidKinds := [.data], laidTests := true, laidLooks := .later }
def GraphAtComposesCardSaid : Prop := Claim7.holds Tryd.pinned (.plain (OpenSpec.ofChange graphAtComposesSpec)) graphAtComposesCard

/-- THE SECOND FORM's CARD OF 'glosswrightlaw3.GraphValidateMatchesSpec'. -/
def graphValidateMatchesSpecUptoCard : Claim7 := { stood := { row := graphValidateMatchesSpecUptoRow, standIns := [], harness := (true, "c51354929d8f2e4735d7b6368d52735f8bc267f32a9c18b142b14dca9846d75c"), looks := false }, kinds := [], alts := [], laidByText := true, laidKinds := [.data], laidTests := true, laidLooks := .later }
def GraphValidateMatchesSpecUptoCardSaid : Prop := Claim7.holds Tryd.pinned (.plain (OpenSpec.upto graphValidateMatchesSpecSpec)) graphValidateMatchesSpecUptoCard

/-- THE SECOND FORM's CARD OF 'glosswrightlaw3.GraphNumbersDoNotMatter'. -/
def graphNumbersDoNotMatterUptoCard : Claim7 := { stood := { row := graphNumbersDoNotMatterUptoRow, standIns := [], harness := (true, "c51354929d8f2e4735d7b6368d52735f8bc267f32a9c18b142b14dca9846d75c"), looks := false }, kinds := [], alts := [], laidByText := true, laidKinds := [.data], laidTests := true, laidLooks := .later }
def GraphNumbersDoNotMatterUptoCardSaid : Prop := Claim7.holds Tryd.pinned (.plain (OpenSpec.upto graphNumbersDoNotMatterSpec)) graphNumbersDoNotMatterUptoCard

/-- THE SECOND FORM's CARD OF 'glosswrightlaw3.GraphCanonicalMatchesSpec'. -/
def graphCanonicalMatchesSpecUptoCard : Claim7 := { stood := { row := graphCanonicalMatchesSpecUptoRow, standIns := [], harness := (true, "c51354929d8f2e4735d7b6368d52735f8bc267f32a9c18b142b14dca9846d75c"), looks := false }, kinds := [], alts := [], laidByText := true, laidKinds := [.data], laidTests := true, laidLooks := .later }
def GraphCanonicalMatchesSpecUptoCardSaid : Prop := Claim7.holds Tryd.pinned (.plain (OpenSpec.upto graphCanonicalMatchesSpecSpec)) graphCanonicalMatchesSpecUptoCard

/-- THE SECOND FORM's CARD OF 'glosswrightlaw3.GraphPathsMatchesSpec'. -/
def graphPathsMatchesSpecUptoCard : Claim7 := { stood := { row := graphPathsMatchesSpecUptoRow, standIns := [], harness := (true, "c51354929d8f2e4735d7b6368d52735f8bc267f32a9c18b142b14dca9846d75c"), looks := false }, kinds := [], alts := [], laidByText := true, laidKinds := [.data], laidTests := true, laidLooks := .later }
def GraphPathsMatchesSpecUptoCardSaid : Prop := Claim7.holds Tryd.pinned (.plain (OpenSpec.upto graphPathsMatchesSpecSpec)) graphPathsMatchesSpecUptoCard

/-- THE SECOND FORM's CARD OF 'glosswrightlaw3.GraphAtMatchesSpec'. -/
def graphAtMatchesSpecUptoCard : Claim7 := { stood := { row := graphAtMatchesSpecUptoRow, standIns := [], harness := (true, "c51354929d8f2e4735d7b6368d52735f8bc267f32a9c18b142b14dca9846d75c"), looks := false }, kinds := [], alts := [], laidByText := true, laidKinds := [.data], laidTests := true, laidLooks := .later }
def GraphAtMatchesSpecUptoCardSaid : Prop := Claim7.holds Tryd.pinned (.plain (OpenSpec.upto graphAtMatchesSpecSpec)) graphAtMatchesSpecUptoCard

/-- THE SECOND FORM's CARD OF 'glosswrightlaw3.GraphAtComposes'. -/
def graphAtComposesUptoCard : Claim7 := { stood := { row := graphAtComposesUptoRow, standIns := [], harness := (true, "c51354929d8f2e4735d7b6368d52735f8bc267f32a9c18b142b14dca9846d75c"), looks := false }, kinds := [], alts := [], laidByText := true, laidKinds := [.data], laidTests := true, laidLooks := .later }
def GraphAtComposesUptoCardSaid : Prop := Claim7.holds Tryd.pinned (.plain (OpenSpec.upto graphAtComposesSpec)) graphAtComposesUptoCard
end Rows
end Go.Proofs.YtdegobbnidddjaaDoor
