/-
  DERIVED. GIVEN WITH THE SEED: THE CARDS: each row of YtmfiholmfieieaaDoorRows.lean that lists a variable, with what it lists TIED to the program's text (the seventh form; the later family's looks); each row that meets fmt, with fmt's text TOLD by the authors' own Lean function (tested against real Go, not proved from fmt's source: count such statements apart). THE CARD IS WHAT COUNTS. Prove the row's statement (the work); the ties are given (YtmfiholmfieieaaDoorTie.lean); close each card by the builder's one call (the guide's Derived/Test/ToyasCard.lean, 'card_holds'). Laid BY PROGRAM, IN A SANDBOX (cutbox-door.mjs). By AI agents, Wed Nov 11 2026. No macro, syntax, notation, axiom, sorry.
-/
import Derived.Test.YtmfiholmfieieaaDoorRows
import GoSem.ClaimSeven
namespace Go.Proofs.YtmfiholmfieieaaDoor
namespace Rows

/-- THE TIED CARD OF 'glosswrightlaw4.FilterIsSafe'. -/
def filterIsSafeCard : Claim7 := { stood := { row := filterIsSafeRow, standIns := [], harness := (true, "74cd597d24be08bdb9619e12feb5c655699308f47a09893989e92fbea0142c3f"), looks := false }, kinds := [], alts := [], laidByText := true, laidKinds := [.data, .data, .pinned], laidTests := true, laidLooks := .later }
def FilterIsSafeCardSaid : Prop := Claim7.holds Tryd.pinned (.plain (OpenSpec.ofChange filterIsSafeSpec)) filterIsSafeCard

/-- THE TIED CARD OF 'glosswrightlaw4.FilterExcludesForever'. -/
def filterExcludesForeverCard : Claim7 := { stood := { row := filterExcludesForeverRow, standIns := [], harness := (true, "74cd597d24be08bdb9619e12feb5c655699308f47a09893989e92fbea0142c3f"), looks := false }, kinds := [], alts := [], laidByText := true, laidKinds := [.data, .data, .pinned], laidTests := true, laidLooks := .later }
def FilterExcludesForeverCardSaid : Prop := Claim7.holds Tryd.pinned (.plain (OpenSpec.ofChange filterExcludesForeverSpec)) filterExcludesForeverCard

/-- THE SECOND FORM's CARD OF 'glosswrightlaw4.FilterIsSafe'. -/
def filterIsSafeUptoCard : Claim7 := { stood := { row := filterIsSafeUptoRow, standIns := [], harness := (true, "74cd597d24be08bdb9619e12feb5c655699308f47a09893989e92fbea0142c3f"), looks := false }, kinds := [], alts := [], laidByText := true, laidKinds := [.data, .data, .pinned], laidTests := true, laidLooks := .later }
def FilterIsSafeUptoCardSaid : Prop := Claim7.holds Tryd.pinned (.plain (OpenSpec.upto filterIsSafeSpec)) filterIsSafeUptoCard

/-- THE SECOND FORM's CARD OF 'glosswrightlaw4.FilterExcludesForever'. -/
def filterExcludesForeverUptoCard : Claim7 := { stood := { row := filterExcludesForeverUptoRow, standIns := [], harness := (true, "74cd597d24be08bdb9619e12feb5c655699308f47a09893989e92fbea0142c3f"), looks := false }, kinds := [], alts := [], laidByText := true, laidKinds := [.data, .data, .pinned], laidTests := true, laidLooks := .later }
def FilterExcludesForeverUptoCardSaid : Prop := Claim7.holds Tryd.pinned (.plain (OpenSpec.upto filterExcludesForeverSpec)) filterExcludesForeverUptoCard
end Rows
end Go.Proofs.YtmfiholmfieieaaDoor
