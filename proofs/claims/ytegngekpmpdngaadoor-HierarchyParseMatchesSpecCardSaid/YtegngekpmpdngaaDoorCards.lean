/-
  DERIVED. GIVEN WITH THE SEED: THE CARDS: each row of YtegngekpmpdngaaDoorRows.lean that lists a variable, with what it lists TIED to the program's text (the seventh form; the later family's looks); each row that meets fmt, with fmt's text TOLD by the authors' own Lean function (tested against real Go, not proved from fmt's source: count such statements apart). THE CARD IS WHAT COUNTS. Prove the row's statement (the work); the ties are given (YtegngekpmpdngaaDoorTie.lean); close each card by the builder's one call (the guide's Derived/Test/ToyasCard.lean, 'card_holds'). Laid BY PROGRAM, IN A SANDBOX (cutbox-door.mjs). By AI agents, Wed Nov 11 2026. No macro, syntax, notation, axiom, sorry.
-/
import Derived.Test.YtegngekpmpdngaaDoorRows
import GoSem.ClaimSeven
namespace Go.Proofs.YtegngekpmpdngaaDoor
namespace Rows

/-- THE TIED CARD OF 'glosswrightlaw3.GraphPathsMatchesSpec'. -/
def graphPathsMatchesSpecCard : Claim7 := { stood := { row := graphPathsMatchesSpecRow, standIns := [], harness := (true, "59fe920756264a4433b5b50bdf368de8a97f17a5dd64975ab90d6c89a166cfbe"), looks := false }, kinds := [], alts := [], laidByText := true, laidKinds := [.data], laidTests := true, laidLooks := .later }
def GraphPathsMatchesSpecCardSaid : Prop := Claim7.holds Tryd.pinned (.plain (OpenSpec.ofChange graphPathsMatchesSpecSpec)) graphPathsMatchesSpecCard

/-- THE TIED CARD OF 'glosswrightlaw3.HierarchyParseMatchesSpec'. -/
def hierarchyParseMatchesSpecCard : Claim7 := { stood := { row := hierarchyParseMatchesSpecRow, standIns := [], harness := (true, "59fe920756264a4433b5b50bdf368de8a97f17a5dd64975ab90d6c89a166cfbe"), looks := false }, kinds := [], alts := [], laidByText := true, laidKinds := [.data, .data, .pinned], laidTests := true, laidLooks := .later }
def HierarchyParseMatchesSpecCardSaid : Prop := Claim7.holds Tryd.pinned (.plain (OpenSpec.ofChange hierarchyParseMatchesSpecSpec)) hierarchyParseMatchesSpecCard

/-- THE TIED CARD OF 'glosswrightlaw3.WelltypedFillMatchesSpec'. -/
def welltypedFillMatchesSpecCard : Claim7 := { stood := { row := welltypedFillMatchesSpecRow, standIns := [], harness := (true, "59fe920756264a4433b5b50bdf368de8a97f17a5dd64975ab90d6c89a166cfbe"), looks := false }, kinds := [], alts := [], laidByText := true, laidKinds := [.data], laidTests := true, laidLooks := .later }
def WelltypedFillMatchesSpecCardSaid : Prop := Claim7.holds Tryd.pinned (.plain (OpenSpec.ofChange welltypedFillMatchesSpecSpec)) welltypedFillMatchesSpecCard

/-- THE TIED CARD OF 'glosswrightlaw3.HierarchyTextReturns'. -/
def hierarchyTextReturnsCard : Claim7 := { stood := { row := hierarchyTextReturnsRow, standIns := [], harness := (true, "59fe920756264a4433b5b50bdf368de8a97f17a5dd64975ab90d6c89a166cfbe"), looks := false }, kinds := [], alts := [], laidByText := true, laidKinds := [.data, .data, .pinned], laidTests := true, laidLooks := .later }
def HierarchyTextReturnsCardSaid : Prop := Claim7.holds Tryd.pinned (.plain (OpenSpec.ofChange hierarchyTextReturnsSpec)) hierarchyTextReturnsCard

/-- THE TIED CARD OF 'glosswrightlaw3.AvmPrintMatchesSpec'. -/
def avmPrintMatchesSpecCard : Claim7 := { stood := { row := avmPrintMatchesSpecRow, standIns := [], harness := (true, "59fe920756264a4433b5b50bdf368de8a97f17a5dd64975ab90d6c89a166cfbe"), looks := false }, kinds := [], alts := [], laidByText := true, laidKinds := [.data, .data, .data], laidTests := true, laidLooks := .later }
def AvmPrintMatchesSpecCardSaid : Prop := Claim7.holds Tryd.pinned (.plain (OpenSpec.ofChange avmPrintMatchesSpecSpec)) avmPrintMatchesSpecCard

/-- THE TIED CARD OF 'glosswrightlaw3.WelltypedFillIsLeast'. -/
def welltypedFillIsLeastCard : Claim7 := { stood := { row := welltypedFillIsLeastRow, standIns := [], harness := (true, "59fe920756264a4433b5b50bdf368de8a97f17a5dd64975ab90d6c89a166cfbe"), looks := false }, kinds := [], alts := [], laidByText := true, laidKinds := [.data], laidTests := true, laidLooks := .later }
def WelltypedFillIsLeastCardSaid : Prop := Claim7.holds Tryd.pinned (.plain (OpenSpec.ofChange welltypedFillIsLeastSpec)) welltypedFillIsLeastCard

/-- THE SECOND FORM's CARD OF 'glosswrightlaw3.GraphPathsMatchesSpec'. -/
def graphPathsMatchesSpecUptoCard : Claim7 := { stood := { row := graphPathsMatchesSpecUptoRow, standIns := [], harness := (true, "59fe920756264a4433b5b50bdf368de8a97f17a5dd64975ab90d6c89a166cfbe"), looks := false }, kinds := [], alts := [], laidByText := true, laidKinds := [.data], laidTests := true, laidLooks := .later }
def GraphPathsMatchesSpecUptoCardSaid : Prop := Claim7.holds Tryd.pinned (.plain (OpenSpec.upto graphPathsMatchesSpecSpec)) graphPathsMatchesSpecUptoCard

/-- THE SECOND FORM's CARD OF 'glosswrightlaw3.HierarchyParseMatchesSpec'. -/
def hierarchyParseMatchesSpecUptoCard : Claim7 := { stood := { row := hierarchyParseMatchesSpecUptoRow, standIns := [], harness := (true, "59fe920756264a4433b5b50bdf368de8a97f17a5dd64975ab90d6c89a166cfbe"), looks := false }, kinds := [], alts := [], laidByText := true, laidKinds := [.data, .data, .pinned], laidTests := true, laidLooks := .later }
def HierarchyParseMatchesSpecUptoCardSaid : Prop := Claim7.holds Tryd.pinned (.plain (OpenSpec.upto hierarchyParseMatchesSpecSpec)) hierarchyParseMatchesSpecUptoCard

/-- THE SECOND FORM's CARD OF 'glosswrightlaw3.WelltypedFillMatchesSpec'. -/
def welltypedFillMatchesSpecUptoCard : Claim7 := { stood := { row := welltypedFillMatchesSpecUptoRow, standIns := [], harness := (true, "59fe920756264a4433b5b50bdf368de8a97f17a5dd64975ab90d6c89a166cfbe"), looks := false }, kinds := [], alts := [], laidByText := true, laidKinds := [.data], laidTests := true, laidLooks := .later }
def WelltypedFillMatchesSpecUptoCardSaid : Prop := Claim7.holds Tryd.pinned (.plain (OpenSpec.upto welltypedFillMatchesSpecSpec)) welltypedFillMatchesSpecUptoCard

/-- THE SECOND FORM's CARD OF 'glosswrightlaw3.HierarchyTextReturns'. -/
def hierarchyTextReturnsUptoCard : Claim7 := { stood := { row := hierarchyTextReturnsUptoRow, standIns := [], harness := (true, "59fe920756264a4433b5b50bdf368de8a97f17a5dd64975ab90d6c89a166cfbe"), looks := false }, kinds := [], alts := [], laidByText := true, laidKinds := [.data, .data, .pinned], laidTests := true, laidLooks := .later }
def HierarchyTextReturnsUptoCardSaid : Prop := Claim7.holds Tryd.pinned (.plain (OpenSpec.upto hierarchyTextReturnsSpec)) hierarchyTextReturnsUptoCard

/-- THE SECOND FORM's CARD OF 'glosswrightlaw3.AvmPrintMatchesSpec'. -/
def avmPrintMatchesSpecUptoCard : Claim7 := { stood := { row := avmPrintMatchesSpecUptoRow, standIns := [], harness := (true, "59fe920756264a4433b5b50bdf368de8a97f17a5dd64975ab90d6c89a166cfbe"), looks := false }, kinds := [], alts := [], laidByText := true, laidKinds := [.data, .data, .data], laidTests := true, laidLooks := .later }
def AvmPrintMatchesSpecUptoCardSaid : Prop := Claim7.holds Tryd.pinned (.plain (OpenSpec.upto avmPrintMatchesSpecSpec)) avmPrintMatchesSpecUptoCard

/-- THE SECOND FORM's CARD OF 'glosswrightlaw3.WelltypedFillIsLeast'. -/
def welltypedFillIsLeastUptoCard : Claim7 := { stood := { row := welltypedFillIsLeastUptoRow, standIns := [], harness := (true, "59fe920756264a4433b5b50bdf368de8a97f17a5dd64975ab90d6c89a166cfbe"), looks := false }, kinds := [], alts := [], laidByText := true, laidKinds := [.data], laidTests := true, laidLooks := .later }
def WelltypedFillIsLeastUptoCardSaid : Prop := Claim7.holds Tryd.pinned (.plain (OpenSpec.upto welltypedFillIsLeastSpec)) welltypedFillIsLeastUptoCard
end Rows
end Go.Proofs.YtegngekpmpdngaaDoor
