/-
  DERIVED. GIVEN WITH THE SEED: THE CARDS: each row of YtbcpgfnfiekbiaaGreatDoorRows.lean that lists a variable, with what it lists TIED to the program's text (the seventh form; the later family's looks); each row that meets fmt, with fmt's text TOLD by the authors' own Lean function (tested against real Go, not proved from fmt's source: count such statements apart). THE CARD IS WHAT COUNTS. Prove the row's statement (the work); the ties are given (YtbcpgfnfiekbiaaGreatDoorTie.lean); close each card by the builder's one call (the guide's Derived/Test/ToyasCard.lean, 'card_holds'). Laid BY PROGRAM, IN A SANDBOX (cutbox-door.mjs). By AI agents, Wed Nov 11 2026. No macro, syntax, notation, axiom, sorry.
-/
import Derived.Test.YtbcpgfnfiekbiaaGreatDoorRows
import GoSem.ClaimSeven
namespace Go.Proofs.YtbcpgfnfiekbiaaGreatDoor
namespace Rows

/-- THE TIED CARD OF 'glosswrightlaw4.RobustExtendMatchesSpec'. -/
def robustExtendMatchesSpecCard : Claim7 := { stood := { row := robustExtendMatchesSpecRow, standIns := [], harness := (true, "f94be6bd6864f2035940b0a65aa150f0610c6e6a74fe6f365cf649cfb604f57b"), looks := false }, kinds := [], alts := [], laidByText := true, laidKinds := [.data, .data, .pinned], laidTests := true, laidLooks := .later }
def RobustExtendMatchesSpecCardSaid : Prop := Claim7.holds Tryz.pinned (.plain (OpenSpec.ofChange robustExtendMatchesSpecSpec)) robustExtendMatchesSpecCard

/-- THE TIED CARD OF 'glosswrightlaw4.OptionalExpandMatchesSpec'. -/
def optionalExpandMatchesSpecCard : Claim7 := { stood := { row := optionalExpandMatchesSpecRow, standIns := [], harness := (true, "f94be6bd6864f2035940b0a65aa150f0610c6e6a74fe6f365cf649cfb604f57b"), looks := false }, kinds := [], alts := [], laidByText := true, laidKinds := [.data, .data, .data], laidTests := true, laidLooks := .later }
def OptionalExpandMatchesSpecCardSaid : Prop := Claim7.holds Tryz.pinned (.plain (OpenSpec.ofChange optionalExpandMatchesSpecSpec)) optionalExpandMatchesSpecCard

/-- THE SECOND FORM's CARD OF 'glosswrightlaw4.RobustExtendMatchesSpec'. -/
def robustExtendMatchesSpecUptoCard : Claim7 := { stood := { row := robustExtendMatchesSpecUptoRow, standIns := [], harness := (true, "f94be6bd6864f2035940b0a65aa150f0610c6e6a74fe6f365cf649cfb604f57b"), looks := false }, kinds := [], alts := [], laidByText := true, laidKinds := [.data, .data, .pinned], laidTests := true, laidLooks := .later }
def RobustExtendMatchesSpecUptoCardSaid : Prop := Claim7.holds Tryz.pinned (.plain (OpenSpec.upto robustExtendMatchesSpecSpec)) robustExtendMatchesSpecUptoCard

/-- THE SECOND FORM's CARD OF 'glosswrightlaw4.OptionalExpandMatchesSpec'. -/
def optionalExpandMatchesSpecUptoCard : Claim7 := { stood := { row := optionalExpandMatchesSpecUptoRow, standIns := [], harness := (true, "f94be6bd6864f2035940b0a65aa150f0610c6e6a74fe6f365cf649cfb604f57b"), looks := false }, kinds := [], alts := [], laidByText := true, laidKinds := [.data, .data, .data], laidTests := true, laidLooks := .later }
def OptionalExpandMatchesSpecUptoCardSaid : Prop := Claim7.holds Tryz.pinned (.plain (OpenSpec.upto optionalExpandMatchesSpecSpec)) optionalExpandMatchesSpecUptoCard
end Rows
end Go.Proofs.YtbcpgfnfiekbiaaGreatDoor
