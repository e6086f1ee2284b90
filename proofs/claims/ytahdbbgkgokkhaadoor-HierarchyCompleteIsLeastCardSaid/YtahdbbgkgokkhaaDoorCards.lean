/-
  DERIVED. GIVEN WITH THE SEED: THE CARDS: each row of YtahdbbgkgokkhaaDoorRows.lean that lists a variable, with what it lists TIED to the program's text (the seventh form; the later family's looks); each row that meets fmt, with fmt's text TOLD by the authors' own Lean function (tested against real Go, not proved from fmt's source: count such statements apart). THE CARD IS WHAT COUNTS. Prove the row's statement (the work); the ties are given (YtahdbbgkgokkhaaDoorTie.lean); close each card by the builder's one call (the guide's Derived/Test/ToyasCard.lean, 'card_holds'). Laid BY PROGRAM, IN A SANDBOX (cutbox-door.mjs). By AI agents, Wed Nov 11 2026. No macro, syntax, notation, axiom, sorry.
-/
import Derived.Test.YtahdbbgkgokkhaaDoorRows
import GoSem.ClaimSeven
namespace Go.Proofs.YtahdbbgkgokkhaaDoor
namespace Rows

/-- THE TIED CARD OF 'glosswrightlaw3.HierarchyCompleteIsLeast'. -/
def hierarchyCompleteIsLeastCard : Claim7 := { stood := { row := hierarchyCompleteIsLeastRow, standIns := [], harness := (true, "556bcf9da5e8e45bb1424dff4982d5dd8ebd97268cea294a46df2e0fa365d5f1"), looks := false }, kinds := [], alts := [], laidByText := true, laidKinds := [.data, .data, .data], laidTests := true, laidLooks := .later }
def HierarchyCompleteIsLeastCardSaid : Prop := Claim7.holds Tryd.pinned (.plain (OpenSpec.ofChange hierarchyCompleteIsLeastSpec)) hierarchyCompleteIsLeastCard

/-- THE TIED CARD OF 'glosswrightlaw3.HierarchyCompleteMatchesSpec'. -/
def hierarchyCompleteMatchesSpecCard : Claim7 := { stood := { row := hierarchyCompleteMatchesSpecRow, standIns := [], harness := (true, "556bcf9da5e8e45bb1424dff4982d5dd8ebd97268cea294a46df2e0fa365d5f1"), looks := false }, kinds := [], alts := [], laidByText := true, laidKinds := [.data, .data, .data], laidTests := true, laidLooks := .later }
def HierarchyCompleteMatchesSpecCardSaid : Prop := Claim7.holds Tryd.pinned (.plain (OpenSpec.ofChange hierarchyCompleteMatchesSpecSpec)) hierarchyCompleteMatchesSpecCard

/-- THE SECOND FORM's CARD OF 'glosswrightlaw3.HierarchyCompleteIsLeast'. -/
def hierarchyCompleteIsLeastUptoCard : Claim7 := { stood := { row := hierarchyCompleteIsLeastUptoRow, standIns := [], harness := (true, "556bcf9da5e8e45bb1424dff4982d5dd8ebd97268cea294a46df2e0fa365d5f1"), looks := false }, kinds := [], alts := [], laidByText := true, laidKinds := [.data, .data, .data], laidTests := true, laidLooks := .later }
def HierarchyCompleteIsLeastUptoCardSaid : Prop := Claim7.holds Tryd.pinned (.plain (OpenSpec.upto hierarchyCompleteIsLeastSpec)) hierarchyCompleteIsLeastUptoCard

/-- THE SECOND FORM's CARD OF 'glosswrightlaw3.HierarchyCompleteMatchesSpec'. -/
def hierarchyCompleteMatchesSpecUptoCard : Claim7 := { stood := { row := hierarchyCompleteMatchesSpecUptoRow, standIns := [], harness := (true, "556bcf9da5e8e45bb1424dff4982d5dd8ebd97268cea294a46df2e0fa365d5f1"), looks := false }, kinds := [], alts := [], laidByText := true, laidKinds := [.data, .data, .data], laidTests := true, laidLooks := .later }
def HierarchyCompleteMatchesSpecUptoCardSaid : Prop := Claim7.holds Tryd.pinned (.plain (OpenSpec.upto hierarchyCompleteMatchesSpecSpec)) hierarchyCompleteMatchesSpecUptoCard
end Rows
end Go.Proofs.YtahdbbgkgokkhaaDoor
