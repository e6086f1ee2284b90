/-
  DERIVED. GIVEN WITH THE SEED: THE CARDS: each row of YthhkbhapfcfdjaaDoorRows.lean that lists a variable, with what it lists TIED to the program's text (the seventh form; the later family's looks); each row that meets fmt, with fmt's text TOLD by the authors' own Lean function (tested against real Go, not proved from fmt's source: count such statements apart). THE CARD IS WHAT COUNTS. Prove the row's statement (the work); the ties are given (YthhkbhapfcfdjaaDoorTie.lean); close each card by the builder's one call (the guide's Derived/Test/ToyasCard.lean, 'card_holds'). Laid BY PROGRAM, IN A SANDBOX (cutbox-door.mjs). By AI agents, Wed Nov 11 2026. No macro, syntax, notation, axiom, sorry.
-/
import Derived.Test.YthhkbhapfcfdjaaDoorRows
import GoSem.ClaimSeven
namespace Go.Proofs.YthhkbhapfcfdjaaDoor
namespace Rows

/-- THE TIED CARD OF 'glosswrightlaw3.HierarchyValidateMatchesSpec'. -/
def hierarchyValidateMatchesSpecCard : Claim7 := { stood := { row := hierarchyValidateMatchesSpecRow, standIns := [], harness := (true, "9ff5cbe6ca5d7f93fd6a1055c2b655e813a25b7186e46d05eeee6b9867131545"), looks := false }, kinds := [], alts := [], laidByText := true, laidKinds := [.data], laidTests := true, laidLooks := .later }
def HierarchyValidateMatchesSpecCardSaid : Prop := Claim7.holds Tryd.pinned (.plain (OpenSpec.ofChange hierarchyValidateMatchesSpecSpec)) hierarchyValidateMatchesSpecCard

/-- THE TIED CARD OF 'glosswrightlaw3.HierarchyMeetLaws'. -/
def hierarchyMeetLawsCard : Claim7 := { stood := { row := hierarchyMeetLawsRow, standIns := [], harness := (true, "9ff5cbe6ca5d7f93fd6a1055c2b655e813a25b7186e46d05eeee6b9867131545"), looks := false }, kinds := [], alts := [], laidByText := true, laidKinds := [.data], laidTests := true, laidLooks := .later }
def HierarchyMeetLawsCardSaid : Prop := Claim7.holds Tryd.pinned (.plain (OpenSpec.ofChange hierarchyMeetLawsSpec)) hierarchyMeetLawsCard

/-- THE TIED CARD OF 'glosswrightlaw3.HierarchyJoinAbsorbs'. -/
def hierarchyJoinAbsorbsCard : Claim7 := { stood := { row := hierarchyJoinAbsorbsRow, standIns := [], harness := (true, "9ff5cbe6ca5d7f93fd6a1055c2b655e813a25b7186e46d05eeee6b9867131545"), looks := false }, kinds := [], alts := [], laidByText := true, laidKinds := [.data], laidTests := true, laidLooks := .later }
def HierarchyJoinAbsorbsCardSaid : Prop := Claim7.holds Tryd.pinned (.plain (OpenSpec.ofChange hierarchyJoinAbsorbsSpec)) hierarchyJoinAbsorbsCard

/-- THE TIED CARD OF 'glosswrightlaw3.HierarchyOrderMatchesSpec'. -/
def hierarchyOrderMatchesSpecCard : Claim7 := { stood := { row := hierarchyOrderMatchesSpecRow, standIns := [], harness := (true, "9ff5cbe6ca5d7f93fd6a1055c2b655e813a25b7186e46d05eeee6b9867131545"), looks := false }, kinds := [], alts := [], laidByText := true, laidKinds := [.data], laidTests := true, laidLooks := .later }
def HierarchyOrderMatchesSpecCardSaid : Prop := Claim7.holds Tryd.pinned (.plain (OpenSpec.ofChange hierarchyOrderMatchesSpecSpec)) hierarchyOrderMatchesSpecCard

/-- THE SECOND FORM's CARD OF 'glosswrightlaw3.HierarchyValidateMatchesSpec'. -/
def hierarchyValidateMatchesSpecUptoCard : Claim7 := { stood := { row := hierarchyValidateMatchesSpecUptoRow, standIns := [], harness := (true, "9ff5cbe6ca5d7f93fd6a1055c2b655e813a25b7186e46d05eeee6b9867131545"), looks := false }, kinds := [], alts := [], laidByText := true, laidKinds := [.data], laidTests := true, laidLooks := .later }
def HierarchyValidateMatchesSpecUptoCardSaid : Prop := Claim7.holds Tryd.pinned (.plain (OpenSpec.upto hierarchyValidateMatchesSpecSpec)) hierarchyValidateMatchesSpecUptoCard

/-- THE SECOND FORM's CARD OF 'glosswrightlaw3.HierarchyMeetLaws'. -/
def hierarchyMeetLawsUptoCard : Claim7 := { stood := { row := hierarchyMeetLawsUptoRow, standIns := [], harness := (true, "9ff5cbe6ca5d7f93fd6a1055c2b655e813a25b7186e46d05eeee6b9867131545"), looks := false }, kinds := [], alts := [], laidByText := true, laidKinds := [.data], laidTests := true, laidLooks := .later }
def HierarchyMeetLawsUptoCardSaid : Prop := Claim7.holds Tryd.pinned (.plain (OpenSpec.upto hierarchyMeetLawsSpec)) hierarchyMeetLawsUptoCard

/-- THE SECOND FORM's CARD OF 'glosswrightlaw3.HierarchyJoinAbsorbs'. -/
def hierarchyJoinAbsorbsUptoCard : Claim7 := { stood := { row := hierarchyJoinAbsorbsUptoRow, standIns := [], harness := (true, "9ff5cbe6ca5d7f93fd6a1055c2b655e813a25b7186e46d05eeee6b9867131545"), looks := false }, kinds := [], alts := [], laidByText := true, laidKinds := [.data], laidTests := true, laidLooks := .later }
def HierarchyJoinAbsorbsUptoCardSaid : Prop := Claim7.holds Tryd.pinned (.plain (OpenSpec.upto hierarchyJoinAbsorbsSpec)) hierarchyJoinAbsorbsUptoCard

/-- THE SECOND FORM's CARD OF 'glosswrightlaw3.HierarchyOrderMatchesSpec'. -/
def hierarchyOrderMatchesSpecUptoCard : Claim7 := { stood := { row := hierarchyOrderMatchesSpecUptoRow, standIns := [], harness := (true, "9ff5cbe6ca5d7f93fd6a1055c2b655e813a25b7186e46d05eeee6b9867131545"), looks := false }, kinds := [], alts := [], laidByText := true, laidKinds := [.data], laidTests := true, laidLooks := .later }
def HierarchyOrderMatchesSpecUptoCardSaid : Prop := Claim7.holds Tryd.pinned (.plain (OpenSpec.upto hierarchyOrderMatchesSpecSpec)) hierarchyOrderMatchesSpecUptoCard
end Rows
end Go.Proofs.YthhkbhapfcfdjaaDoor
