/-
  DERIVED. GIVEN WITH THE SEED: THE CARDS: each row of YtlaihbaneoeffaaDoorRows.lean that lists a variable, with what it lists TIED to the program's text (the seventh form; the later family's looks); each row that meets fmt, with fmt's text TOLD by the authors' own Lean function (tested against real Go, not proved from fmt's source: count such statements apart). THE CARD IS WHAT COUNTS. Prove the row's statement (the work); the ties are given (YtlaihbaneoeffaaDoorTie.lean); close each card by the builder's one call (the guide's Derived/Test/ToyasCard.lean, 'card_holds'). Laid BY PROGRAM, IN A SANDBOX (cutbox-door.mjs). By AI agents, Wed Nov 11 2026. No macro, syntax, notation, axiom, sorry.
-/
import Derived.Test.YtlaihbaneoeffaaDoorRows
import GoSem.ClaimSeven
namespace Go.Proofs.YtlaihbaneoeffaaDoor
namespace Rows

/-- THE TIED CARD OF 'glosswrightlaw3.WelltypedInferMatchesSpec'. -/
def welltypedInferMatchesSpecCard : Claim7 := { stood := { row := welltypedInferMatchesSpecRow, standIns := [], harness := (true, "3e41561f5015784155346ea09de2c4a1270bd57081bac366ff84d7559d95489f"), looks := false }, kinds := [], alts := [], laidByText := true, laidKinds := [.data], laidTests := true, laidLooks := .later }
def WelltypedInferMatchesSpecCardSaid : Prop := Claim7.holds Tryd.pinned (.plain (OpenSpec.ofChange welltypedInferMatchesSpecSpec)) welltypedInferMatchesSpecCard

/-- THE TIED CARD OF 'glosswrightlaw3.SubsumeMatchesSpec'. -/
def subsumeMatchesSpecCard : Claim7 := { stood := { row := subsumeMatchesSpecRow, standIns := [], harness := (true, "3e41561f5015784155346ea09de2c4a1270bd57081bac366ff84d7559d95489f"), looks := false }, kinds := [], alts := [], laidByText := true, laidKinds := [.data], laidTests := true, laidLooks := .later }
def SubsumeMatchesSpecCardSaid : Prop := Claim7.holds Tryd.pinned (.plain (OpenSpec.ofChange subsumeMatchesSpecSpec)) subsumeMatchesSpecCard

/-- THE TIED CARD OF 'glosswrightlaw3.SubsumeIsOrder'. -/
def subsumeIsOrderCard : Claim7 := { stood := { row := subsumeIsOrderRow, standIns := [], harness := (true, "3e41561f5015784155346ea09de2c4a1270bd57081bac366ff84d7559d95489f"), looks := false }, kinds := [], alts := [], laidByText := true, laidKinds := [.data], laidTests := true, laidLooks := .later }
def SubsumeIsOrderCardSaid : Prop := Claim7.holds Tryd.pinned (.plain (OpenSpec.ofChange subsumeIsOrderSpec)) subsumeIsOrderCard

/-- THE TIED CARD OF 'glosswrightlaw3.GeneralMatchesSpec'. -/
def generalMatchesSpecCard : Claim7 := { stood := { row := generalMatchesSpecRow, standIns := [], harness := (true, "3e41561f5015784155346ea09de2c4a1270bd57081bac366ff84d7559d95489f"), looks := false }, kinds := [], alts := [], laidByText := true, laidKinds := [.data], laidTests := true, laidLooks := .later }
def GeneralMatchesSpecCardSaid : Prop := Claim7.holds Tryd.pinned (.plain (OpenSpec.ofChange generalMatchesSpecSpec)) generalMatchesSpecCard

/-- THE TIED CARD OF 'glosswrightlaw3.GeneralIsGreatestBound'. -/
def generalIsGreatestBoundCard : Claim7 := { stood := { row := generalIsGreatestBoundRow, standIns := [], harness := (true, "3e41561f5015784155346ea09de2c4a1270bd57081bac366ff84d7559d95489f"), looks := false }, kinds := [], alts := [], laidByText := true, laidKinds := [.data], laidTests := true, laidLooks := .later }
def GeneralIsGreatestBoundCardSaid : Prop := Claim7.holds Tryd.pinned (.plain (OpenSpec.ofChange generalIsGreatestBoundSpec)) generalIsGreatestBoundCard

/-- THE TIED CARD OF 'glosswrightlaw3.SubsumeKeepsPaths'. -/
def subsumeKeepsPathsCard : Claim7 := { stood := { row := subsumeKeepsPathsRow, standIns := [], harness := (true, "3e41561f5015784155346ea09de2c4a1270bd57081bac366ff84d7559d95489f"), looks := false }, kinds := [], alts := [], laidByText := true, laidKinds := [.data], laidTests := true, laidLooks := .later }
def SubsumeKeepsPathsCardSaid : Prop := Claim7.holds Tryd.pinned (.plain (OpenSpec.ofChange subsumeKeepsPathsSpec)) subsumeKeepsPathsCard

/-- THE SECOND FORM's CARD OF 'glosswrightlaw3.WelltypedInferMatchesSpec'. -/
def welltypedInferMatchesSpecUptoCard : Claim7 := { stood := { row := welltypedInferMatchesSpecUptoRow, standIns := [], harness := (true, "3e41561f5015784155346ea09de2c4a1270bd57081bac366ff84d7559d95489f"), looks := false }, kinds := [], alts := [], laidByText := true, laidKinds := [.data], laidTests := true, laidLooks := .later }
def WelltypedInferMatchesSpecUptoCardSaid : Prop := Claim7.holds Tryd.pinned (.plain (OpenSpec.upto welltypedInferMatchesSpecSpec)) welltypedInferMatchesSpecUptoCard

/-- THE SECOND FORM's CARD OF 'glosswrightlaw3.SubsumeMatchesSpec'. -/
def subsumeMatchesSpecUptoCard : Claim7 := { stood := { row := subsumeMatchesSpecUptoRow, standIns := [], harness := (true, "3e41561f5015784155346ea09de2c4a1270bd57081bac366ff84d7559d95489f"), looks := false }, kinds := [], alts := [], laidByText := true, laidKinds := [.data], laidTests := true, laidLooks := .later }
def SubsumeMatchesSpecUptoCardSaid : Prop := Claim7.holds Tryd.pinned (.plain (OpenSpec.upto subsumeMatchesSpecSpec)) subsumeMatchesSpecUptoCard

/-- THE SECOND FORM's CARD OF 'glosswrightlaw3.SubsumeIsOrder'. -/
def subsumeIsOrderUptoCard : Claim7 := { stood := { row := subsumeIsOrderUptoRow, standIns := [], harness := (true, "3e41561f5015784155346ea09de2c4a1270bd57081bac366ff84d7559d95489f"), looks := false }, kinds := [], alts := [], laidByText := true, laidKinds := [.data], laidTests := true, laidLooks := .later }
def SubsumeIsOrderUptoCardSaid : Prop := Claim7.holds Tryd.pinned (.plain (OpenSpec.upto subsumeIsOrderSpec)) subsumeIsOrderUptoCard

/-- THE SECOND FORM's CARD OF 'glosswrightlaw3.GeneralMatchesSpec'. -/
def generalMatchesSpecUptoCard : Claim7 := { stood := { row := generalMatchesSpecUptoRow, standIns := [], harness := (true, "3e41561f5015784155346ea09de2c4a1270bd57081bac366ff84d7559d95489f"), looks := false }, kinds := [], alts := [], laidByText := true, laidKinds := [.data], laidTests := true, laidLooks := .later }
def GeneralMatchesSpecUptoCardSaid : Prop := Claim7.holds Tryd.pinned (.plain (OpenSpec.upto generalMatchesSpecSpec)) generalMatchesSpecUptoCard

/-- THE SECOND FORM's CARD OF 'glosswrightlaw3.GeneralIsGreatestBound'. -/
def generalIsGreatestBoundUptoCard : Claim7 := { stood := { row := generalIsGreatestBoundUptoRow, standIns := [], harness := (true, "3e41561f5015784155346ea09de2c4a1270bd57081bac366ff84d7559d95489f"), looks := false }, kinds := [], alts := [], laidByText := true, laidKinds := [.data], laidTests := true, laidLooks := .later }
def GeneralIsGreatestBoundUptoCardSaid : Prop := Claim7.holds Tryd.pinned (.plain (OpenSpec.upto generalIsGreatestBoundSpec)) generalIsGreatestBoundUptoCard

/-- THE SECOND FORM's CARD OF 'glosswrightlaw3.SubsumeKeepsPaths'. -/
def subsumeKeepsPathsUptoCard : Claim7 := { stood := { row := subsumeKeepsPathsUptoRow, standIns := [], harness := (true, "3e41561f5015784155346ea09de2c4a1270bd57081bac366ff84d7559d95489f"), looks := false }, kinds := [], alts := [], laidByText := true, laidKinds := [.data], laidTests := true, laidLooks := .later }
def SubsumeKeepsPathsUptoCardSaid : Prop := Claim7.holds Tryd.pinned (.plain (OpenSpec.upto subsumeKeepsPathsSpec)) subsumeKeepsPathsUptoCard
end Rows
end Go.Proofs.YtlaihbaneoeffaaDoor
