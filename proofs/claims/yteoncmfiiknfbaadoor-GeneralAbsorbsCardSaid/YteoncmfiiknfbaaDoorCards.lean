/-
  DERIVED. GIVEN WITH THE SEED: THE CARDS: each row of YteoncmfiiknfbaaDoorRows.lean that lists a variable, with what it lists TIED to the program's text (the seventh form; the later family's looks); each row that meets fmt, with fmt's text TOLD by the authors' own Lean function (tested against real Go, not proved from fmt's source: count such statements apart). THE CARD IS WHAT COUNTS. Prove the row's statement (the work); the ties are given (YteoncmfiiknfbaaDoorTie.lean); close each card by the builder's one call (the guide's Derived/Test/ToyasCard.lean, 'card_holds'). Laid BY PROGRAM, IN A SANDBOX (cutbox-door.mjs). By AI agents, Wed Nov 11 2026. No macro, syntax, notation, axiom, sorry.
-/
import Derived.Test.YteoncmfiiknfbaaDoorRows
import GoSem.ClaimSeven
namespace Go.Proofs.YteoncmfiiknfbaaDoor
namespace Rows

/-- THE TIED CARD OF 'glosswrightlaw3.UnifyInAnyOrder'. -/
def unifyInAnyOrderCard : Claim7 := { stood := { row := unifyInAnyOrderRow, standIns := [], harness := (true, "6929846c74c68640eefd4de35595cdaeb17accc2128868a4cb98b4027f305c62"), looks := false }, kinds := [], alts := [], laidByText := true, laidKinds := [.data], laidTests := true, laidLooks := .later }
def UnifyInAnyOrderCardSaid : Prop := Claim7.holds Tryd.pinned (.plain (OpenSpec.ofChange unifyInAnyOrderSpec)) unifyInAnyOrderCard

/-- THE TIED CARD OF 'glosswrightlaw3.UnifySaysSubsumption'. -/
def unifySaysSubsumptionCard : Claim7 := { stood := { row := unifySaysSubsumptionRow, standIns := [], harness := (true, "6929846c74c68640eefd4de35595cdaeb17accc2128868a4cb98b4027f305c62"), looks := false }, kinds := [], alts := [], laidByText := true, laidKinds := [.data], laidTests := true, laidLooks := .later }
def UnifySaysSubsumptionCardSaid : Prop := Claim7.holds Tryd.pinned (.plain (OpenSpec.ofChange unifySaysSubsumptionSpec)) unifySaysSubsumptionCard

/-- THE TIED CARD OF 'glosswrightlaw3.UnifyIsLeastBound'. -/
def unifyIsLeastBoundCard : Claim7 := { stood := { row := unifyIsLeastBoundRow, standIns := [], harness := (true, "6929846c74c68640eefd4de35595cdaeb17accc2128868a4cb98b4027f305c62"), looks := false }, kinds := [], alts := [], laidByText := true, laidKinds := [.data], laidTests := true, laidLooks := .later }
def UnifyIsLeastBoundCardSaid : Prop := Claim7.holds Tryd.pinned (.plain (OpenSpec.ofChange unifyIsLeastBoundSpec)) unifyIsLeastBoundCard

/-- THE TIED CARD OF 'glosswrightlaw3.GeneralAbsorbs'. -/
def generalAbsorbsCard : Claim7 := { stood := { row := generalAbsorbsRow, standIns := [], harness := (true, "6929846c74c68640eefd4de35595cdaeb17accc2128868a4cb98b4027f305c62"), looks := false }, kinds := [], alts := [], laidByText := true, laidKinds := [.data], laidTests := true, laidLooks := .later }
def GeneralAbsorbsCardSaid : Prop := Claim7.holds Tryd.pinned (.plain (OpenSpec.ofChange generalAbsorbsSpec)) generalAbsorbsCard

/-- THE TIED CARD OF 'glosswrightlaw3.UnifyAllMatchesSpec'. -/
def unifyAllMatchesSpecCard : Claim7 := { stood := { row := unifyAllMatchesSpecRow, standIns := [], harness := (true, "6929846c74c68640eefd4de35595cdaeb17accc2128868a4cb98b4027f305c62"), looks := false }, kinds := [], alts := [], laidByText := true, laidKinds := [.data], laidTests := true, laidLooks := .later }
def UnifyAllMatchesSpecCardSaid : Prop := Claim7.holds Tryd.pinned (.plain (OpenSpec.ofChange unifyAllMatchesSpecSpec)) unifyAllMatchesSpecCard

/-- THE TIED CARD OF 'glosswrightlaw3.UnifyMatchesSpec'. -/
def unifyMatchesSpecCard : Claim7 := { stood := { row := unifyMatchesSpecRow, standIns := [], harness := (true, "6929846c74c68640eefd4de35595cdaeb17accc2128868a4cb98b4027f305c62"), looks := false }, kinds := [], alts := [], laidByText := true, laidKinds := [.data], laidTests := true, laidLooks := .later }
def UnifyMatchesSpecCardSaid : Prop := Claim7.holds Tryd.pinned (.plain (OpenSpec.ofChange unifyMatchesSpecSpec)) unifyMatchesSpecCard

/-- THE SECOND FORM's CARD OF 'glosswrightlaw3.UnifyInAnyOrder'. -/
def unifyInAnyOrderUptoCard : Claim7 := { stood := { row := unifyInAnyOrderUptoRow, standIns := [], harness := (true, "6929846c74c68640eefd4de35595cdaeb17accc2128868a4cb98b4027f305c62"), looks := false }, kinds := [], alts := [], laidByText := true, laidKinds := [.data], laidTests := true, laidLooks := .later }
def UnifyInAnyOrderUptoCardSaid : Prop := Claim7.holds Tryd.pinned (.plain (OpenSpec.upto unifyInAnyOrderSpec)) unifyInAnyOrderUptoCard

/-- THE SECOND FORM's CARD OF 'glosswrightlaw3.UnifySaysSubsumption'. -/
def unifySaysSubsumptionUptoCard : Claim7 := { stood := { row := unifySaysSubsumptionUptoRow, standIns := [], harness := (true, "6929846c74c68640eefd4de35595cdaeb17accc2128868a4cb98b4027f305c62"), looks := false }, kinds := [], alts := [], laidByText := true, laidKinds := [.data], laidTests := true, laidLooks := .later }
def UnifySaysSubsumptionUptoCardSaid : Prop := Claim7.holds Tryd.pinned (.plain (OpenSpec.upto unifySaysSubsumptionSpec)) unifySaysSubsumptionUptoCard

/-- THE SECOND FORM's CARD OF 'glosswrightlaw3.UnifyIsLeastBound'. -/
def unifyIsLeastBoundUptoCard : Claim7 := { stood := { row := unifyIsLeastBoundUptoRow, standIns := [], harness := (true, "6929846c74c68640eefd4de35595cdaeb17accc2128868a4cb98b4027f305c62"), looks := false }, kinds := [], alts := [], laidByText := true, laidKinds := [.data], laidTests := true, laidLooks := .later }
def UnifyIsLeastBoundUptoCardSaid : Prop := Claim7.holds Tryd.pinned (.plain (OpenSpec.upto unifyIsLeastBoundSpec)) unifyIsLeastBoundUptoCard

/-- THE SECOND FORM's CARD OF 'glosswrightlaw3.GeneralAbsorbs'. -/
def generalAbsorbsUptoCard : Claim7 := { stood := { row := generalAbsorbsUptoRow, standIns := [], harness := (true, "6929846c74c68640eefd4de35595cdaeb17accc2128868a4cb98b4027f305c62"), looks := false }, kinds := [], alts := [], laidByText := true, laidKinds := [.data], laidTests := true, laidLooks := .later }
def GeneralAbsorbsUptoCardSaid : Prop := Claim7.holds Tryd.pinned (.plain (OpenSpec.upto generalAbsorbsSpec)) generalAbsorbsUptoCard

/-- THE SECOND FORM's CARD OF 'glosswrightlaw3.UnifyAllMatchesSpec'. -/
def unifyAllMatchesSpecUptoCard : Claim7 := { stood := { row := unifyAllMatchesSpecUptoRow, standIns := [], harness := (true, "6929846c74c68640eefd4de35595cdaeb17accc2128868a4cb98b4027f305c62"), looks := false }, kinds := [], alts := [], laidByText := true, laidKinds := [.data], laidTests := true, laidLooks := .later }
def UnifyAllMatchesSpecUptoCardSaid : Prop := Claim7.holds Tryd.pinned (.plain (OpenSpec.upto unifyAllMatchesSpecSpec)) unifyAllMatchesSpecUptoCard

/-- THE SECOND FORM's CARD OF 'glosswrightlaw3.UnifyMatchesSpec'. -/
def unifyMatchesSpecUptoCard : Claim7 := { stood := { row := unifyMatchesSpecUptoRow, standIns := [], harness := (true, "6929846c74c68640eefd4de35595cdaeb17accc2128868a4cb98b4027f305c62"), looks := false }, kinds := [], alts := [], laidByText := true, laidKinds := [.data], laidTests := true, laidLooks := .later }
def UnifyMatchesSpecUptoCardSaid : Prop := Claim7.holds Tryd.pinned (.plain (OpenSpec.upto unifyMatchesSpecSpec)) unifyMatchesSpecUptoCard
end Rows
end Go.Proofs.YteoncmfiiknfbaaDoor
