/-
  NARROWER THAN 'FOR EVERY INPUT', by the rows' own cells (each row's printed sentence says how): UnifyInAnyOrder: laid · UnifySaysSubsumption: laid · UnifyIsLeastBound: laid · GeneralAbsorbs: laid · UnifyAllMatchesSpec: laid · UnifyMatchesSpec: laid.
  DERIVED. THE GIVEN ROWS OF THIS SEAT. 6 by the template 'for every input the law returns true; each argument reads behind the call as it read before'; 0 by the template 'total and deterministic' (their statements: YteoncmfiiknfbaaDoorTotals.lean).
  GIVEN WITH THE SEED: the statements are not yours to turn. If you find one false, say at which input.
  Laid BY PROGRAM, IN A SANDBOX (cutbox-rows.mjs): the forced cells as the released guide's own fill.sh prints them over the translation 0739cc7f7a5a8dcf… (all of the seat's roots in one cut). By AI agents, Wed Nov 11 2026. No macro, syntax, notation, axiom, sorry.
-/
import Derived.Test.YteoncmfiiknfbaaDoorChecked
import GoSem.Claim
import GoSem.ClaimJoined
import GoSem.ClaimMapViews
import Derived.JoinedTies
import Derived.KernelRfl
namespace Go.Proofs.YteoncmfiiknfbaaDoor
/- THE CELL 'sum', in the pinned program and in every row, IS THE sha256 OF THE DUMP (.gsa) THAT YteoncmfiiknfbaaDoorProg.lean LOADS. Nothing in Lean hashes anything: it is a label: what it is worth is what the hold of that sum in a sandbox is worth. -/
noncomputable def Tryd.pinned : Pinned := { name := "yteoncmfiiknfbaadoor", sum := "0739cc7f7a5a8dcfcc48181c45802297313e53a8049e09e9f7602967e2363636", checked := Tryd.checked }
namespace Rows
def none {H : Type} : Left H := { results := [], args := [] }

/- WHAT THE LISTED PACKAGE-LEVEL VARIABLES READ AS WHEN THE CALL BEGINS. Each datum BY PROGRAM (the guide's laid-datum.mjs) off the statement by which the dump's own 'gosem.cut.vars' lays the variable. In a bare row this is a premise. The card (YteoncmfiiknfbaaDoorCards.lean) ties it to the program's text. -/
def laid_math_bits_deBruijn64tab {H : Type} : DataW H := .agg [.lit (.int .u8 0), .lit (.int .u8 1), .lit (.int .u8 56), .lit (.int .u8 2), .lit (.int .u8 57), .lit (.int .u8 49), .lit (.int .u8 28), .lit (.int .u8 3), .lit (.int .u8 61), .lit (.int .u8 58), .lit (.int .u8 42), .lit (.int .u8 50), .lit (.int .u8 38), .lit (.int .u8 29), .lit (.int .u8 17), .lit (.int .u8 4), .lit (.int .u8 62), .lit (.int .u8 47), .lit (.int .u8 59), .lit (.int .u8 36), .lit (.int .u8 45), .lit (.int .u8 43), .lit (.int .u8 51), .lit (.int .u8 22), .lit (.int .u8 53), .lit (.int .u8 39), .lit (.int .u8 33), .lit (.int .u8 30), .lit (.int .u8 24), .lit (.int .u8 18), .lit (.int .u8 12), .lit (.int .u8 5), .lit (.int .u8 63), .lit (.int .u8 55), .lit (.int .u8 48), .lit (.int .u8 27), .lit (.int .u8 60), .lit (.int .u8 41), .lit (.int .u8 37), .lit (.int .u8 16), .lit (.int .u8 46), .lit (.int .u8 35), .lit (.int .u8 44), .lit (.int .u8 21), .lit (.int .u8 52), .lit (.int .u8 32), .lit (.int .u8 23), .lit (.int .u8 11), .lit (.int .u8 54), .lit (.int .u8 26), .lit (.int .u8 40), .lit (.int .u8 15), .lit (.int .u8 34), .lit (.int .u8 20), .lit (.int .u8 31), .lit (.int .u8 10), .lit (.int .u8 25), .lit (.int .u8 14), .lit (.int .u8 19), .lit (.int .u8 9), .lit (.int .u8 13), .lit (.int .u8 8), .lit (.int .u8 7), .lit (.int .u8 6)]

/-- 'glosswrightlaw3.UnifyInAnyOrder': WHATEVER THE INPUT: true; the input reads as it did. -/
def unifyInAnyOrderSpec : ChangeSpec := { name := "unifyInAnyOrder", fn := fun _ => fun
  | [d1, d2, d3, d4] => { results := [.lit (.bool true)], args := [d1, d2, d3, d4] }
  | _ => none }
def unifyInAnyOrderRow : OpenClaim := { program := "yteoncmfiiknfbaadoor", sum := "0739cc7f7a5a8dcfcc48181c45802297313e53a8049e09e9f7602967e2363636", func := "glosswright/glosswrightlaw3.UnifyInAnyOrder", spec := "unifyInAnyOrder", unfollowed := true, recurses := true, named := ["math/bits.deBruijn64tab"], plainKeys := false, apart := false, laid := [("math/bits.deBruijn64tab", laid_math_bits_deBruijn64tab)] }
def UnifyInAnyOrderSaid : Prop := unifyInAnyOrderRow.holds Tryd.pinned (OpenSpec.ofChange unifyInAnyOrderSpec)

/-- ITS FALSE NEIGHBOUR: 'it returns false'. Refute it at one input. -/
def unifyInAnyOrderWrong : ChangeSpec := { name := "unifyInAnyOrder", fn := fun _ => fun
  | [d1, d2, d3, d4] => { results := [.lit (.bool false)], args := [d1, d2, d3, d4] }
  | _ => none }
def UnifyInAnyOrderWrongFalsely : Prop := unifyInAnyOrderRow.holds Tryd.pinned (OpenSpec.ofChange unifyInAnyOrderWrong)

/-- 'glosswrightlaw3.UnifySaysSubsumption': WHATEVER THE INPUT: true; the input reads as it did. -/
def unifySaysSubsumptionSpec : ChangeSpec := { name := "unifySaysSubsumption", fn := fun _ => fun
  | [d1, d2, d3] => { results := [.lit (.bool true)], args := [d1, d2, d3] }
  | _ => none }
def unifySaysSubsumptionRow : OpenClaim := { program := "yteoncmfiiknfbaadoor", sum := "0739cc7f7a5a8dcfcc48181c45802297313e53a8049e09e9f7602967e2363636", func := "glosswright/glosswrightlaw3.UnifySaysSubsumption", spec := "unifySaysSubsumption", unfollowed := true, recurses := true, named := ["math/bits.deBruijn64tab"], plainKeys := false, apart := false, laid := [("math/bits.deBruijn64tab", laid_math_bits_deBruijn64tab)] }
def UnifySaysSubsumptionSaid : Prop := unifySaysSubsumptionRow.holds Tryd.pinned (OpenSpec.ofChange unifySaysSubsumptionSpec)

/-- ITS FALSE NEIGHBOUR: 'it returns false'. Refute it at one input. -/
def unifySaysSubsumptionWrong : ChangeSpec := { name := "unifySaysSubsumption", fn := fun _ => fun
  | [d1, d2, d3] => { results := [.lit (.bool false)], args := [d1, d2, d3] }
  | _ => none }
def UnifySaysSubsumptionWrongFalsely : Prop := unifySaysSubsumptionRow.holds Tryd.pinned (OpenSpec.ofChange unifySaysSubsumptionWrong)

/-- 'glosswrightlaw3.UnifyIsLeastBound': WHATEVER THE INPUT: true; the input reads as it did. -/
def unifyIsLeastBoundSpec : ChangeSpec := { name := "unifyIsLeastBound", fn := fun _ => fun
  | [d1, d2, d3, d4] => { results := [.lit (.bool true)], args := [d1, d2, d3, d4] }
  | _ => none }
def unifyIsLeastBoundRow : OpenClaim := { program := "yteoncmfiiknfbaadoor", sum := "0739cc7f7a5a8dcfcc48181c45802297313e53a8049e09e9f7602967e2363636", func := "glosswright/glosswrightlaw3.UnifyIsLeastBound", spec := "unifyIsLeastBound", unfollowed := true, recurses := true, named := ["math/bits.deBruijn64tab"], plainKeys := false, apart := false, laid := [("math/bits.deBruijn64tab", laid_math_bits_deBruijn64tab)] }
def UnifyIsLeastBoundSaid : Prop := unifyIsLeastBoundRow.holds Tryd.pinned (OpenSpec.ofChange unifyIsLeastBoundSpec)

/-- ITS FALSE NEIGHBOUR: 'it returns false'. Refute it at one input. -/
def unifyIsLeastBoundWrong : ChangeSpec := { name := "unifyIsLeastBound", fn := fun _ => fun
  | [d1, d2, d3, d4] => { results := [.lit (.bool false)], args := [d1, d2, d3, d4] }
  | _ => none }
def UnifyIsLeastBoundWrongFalsely : Prop := unifyIsLeastBoundRow.holds Tryd.pinned (OpenSpec.ofChange unifyIsLeastBoundWrong)

/-- 'glosswrightlaw3.GeneralAbsorbs': WHATEVER THE INPUT: true; the input reads as it did. -/
def generalAbsorbsSpec : ChangeSpec := { name := "generalAbsorbs", fn := fun _ => fun
  | [d1, d2, d3] => { results := [.lit (.bool true)], args := [d1, d2, d3] }
  | _ => none }
def generalAbsorbsRow : OpenClaim := { program := "yteoncmfiiknfbaadoor", sum := "0739cc7f7a5a8dcfcc48181c45802297313e53a8049e09e9f7602967e2363636", func := "glosswright/glosswrightlaw3.GeneralAbsorbs", spec := "generalAbsorbs", unfollowed := true, recurses := true, named := ["math/bits.deBruijn64tab"], plainKeys := false, apart := false, laid := [("math/bits.deBruijn64tab", laid_math_bits_deBruijn64tab)] }
def GeneralAbsorbsSaid : Prop := generalAbsorbsRow.holds Tryd.pinned (OpenSpec.ofChange generalAbsorbsSpec)

/-- ITS FALSE NEIGHBOUR: 'it returns false'. Refute it at one input. -/
def generalAbsorbsWrong : ChangeSpec := { name := "generalAbsorbs", fn := fun _ => fun
  | [d1, d2, d3] => { results := [.lit (.bool false)], args := [d1, d2, d3] }
  | _ => none }
def GeneralAbsorbsWrongFalsely : Prop := generalAbsorbsRow.holds Tryd.pinned (OpenSpec.ofChange generalAbsorbsWrong)

/-- 'glosswrightlaw3.UnifyAllMatchesSpec': WHATEVER THE INPUT: true; the input reads as it did. -/
def unifyAllMatchesSpecSpec : ChangeSpec := { name := "unifyAllMatchesSpec", fn := fun _ => fun
  | [d1, d2] => { results := [.lit (.bool true)], args := [d1, d2] }
  | _ => none }
def unifyAllMatchesSpecRow : OpenClaim := { program := "yteoncmfiiknfbaadoor", sum := "0739cc7f7a5a8dcfcc48181c45802297313e53a8049e09e9f7602967e2363636", func := "glosswright/glosswrightlaw3.UnifyAllMatchesSpec", spec := "unifyAllMatchesSpec", inPlace := ["slices.overlaps[glosswright/api.Link]"], unfollowed := true, recurses := true, named := ["math/bits.deBruijn64tab"], plainKeys := false, apart := false, laid := [("math/bits.deBruijn64tab", laid_math_bits_deBruijn64tab)] }
def UnifyAllMatchesSpecSaid : Prop := unifyAllMatchesSpecRow.holds Tryd.pinned (OpenSpec.ofChange unifyAllMatchesSpecSpec)

/-- ITS FALSE NEIGHBOUR: 'it returns false'. Refute it at one input. -/
def unifyAllMatchesSpecWrong : ChangeSpec := { name := "unifyAllMatchesSpec", fn := fun _ => fun
  | [d1, d2] => { results := [.lit (.bool false)], args := [d1, d2] }
  | _ => none }
def UnifyAllMatchesSpecWrongFalsely : Prop := unifyAllMatchesSpecRow.holds Tryd.pinned (OpenSpec.ofChange unifyAllMatchesSpecWrong)

/-- 'glosswrightlaw3.UnifyMatchesSpec': WHATEVER THE INPUT: true; the input reads as it did. -/
def unifyMatchesSpecSpec : ChangeSpec := { name := "unifyMatchesSpec", fn := fun _ => fun
  | [d1, d2, d3] => { results := [.lit (.bool true)], args := [d1, d2, d3] }
  | _ => none }
def unifyMatchesSpecRow : OpenClaim := { program := "yteoncmfiiknfbaadoor", sum := "0739cc7f7a5a8dcfcc48181c45802297313e53a8049e09e9f7602967e2363636", func := "glosswright/glosswrightlaw3.UnifyMatchesSpec", spec := "unifyMatchesSpec", inPlace := ["slices.overlaps[glosswright/api.Link]"], unfollowed := true, recurses := true, named := ["math/bits.deBruijn64tab"], plainKeys := false, apart := false, laid := [("math/bits.deBruijn64tab", laid_math_bits_deBruijn64tab)] }
def UnifyMatchesSpecSaid : Prop := unifyMatchesSpecRow.holds Tryd.pinned (OpenSpec.ofChange unifyMatchesSpecSpec)

/-- ITS FALSE NEIGHBOUR: 'it returns false'. Refute it at one input. -/
def unifyMatchesSpecWrong : ChangeSpec := { name := "unifyMatchesSpec", fn := fun _ => fun
  | [d1, d2, d3] => { results := [.lit (.bool false)], args := [d1, d2, d3] }
  | _ => none }
def UnifyMatchesSpecWrongFalsely : Prop := unifyMatchesSpecRow.holds Tryd.pinned (OpenSpec.ofChange unifyMatchesSpecWrong)

/- THE SECOND FORM. 'bulk': how many values and letters a reading holds, each counted each time it is reached (what is shared counts as often as it is met; a slice's spare places count too). A statement '..UptoSaid' is the law's where the arguments, and the package variables that the reading takes, are together of bulk at most 1048576: NARROWER than '..Said'. Prove '..Said' where nothing that the law and all that it calls make is longer than what came in: it says more and counts as full. Else prove '..UptoSaid'. A law counts once. -/
mutual
def uptoBulk {H : Type} : DataW H → Nat
  | .lit (.string bytes) => bytes.length + 1
  | .lit _ => 1
  | .nil => 1
  | .ptr d => uptoBulk d + 1
  | .slice elems spare => uptoBulkAll elems + uptoBulkAll spare + 1
  | .agg parts => uptoBulkAll parts + 1
  | .iface _ d => uptoBulk d + 1
  | .map entries => uptoBulkEntries entries + 1
  | .held _ => 1
def uptoBulkAll {H : Type} : List (DataW H) → Nat
  | [] => 0
  | d :: r => uptoBulk d + uptoBulkAll r
def uptoBulkEntries {H : Type} : List (Lit × DataW H) → Nat
  | [] => 0
  | x :: r => uptoBulkEntry x + uptoBulkEntries r
def uptoBulkEntry {H : Type} : Lit × DataW H → Nat
  | (.string bytes, d) => bytes.length + uptoBulk d + 1
  | (_, d) => uptoBulk d + 1
 end
def uptoSmall : (H : Type) → List (DataW H) → Bool := fun _ ds => decide (uptoBulkAll ds ≤ 1048576)
def OpenSpec.upto (s : _root_.Go.ChangeSpec) : _root_.Go.OpenSpec := { _root_.Go.OpenSpec.ofChange s with cond := some uptoSmall }

/-- 'glosswrightlaw3.UnifyInAnyOrder', WHERE WHAT IT READS IS OF BULK AT MOST 1048576: true; the input reads as it did. -/
def unifyInAnyOrderUptoRow : OpenClaim := { program := "yteoncmfiiknfbaadoor", sum := "0739cc7f7a5a8dcfcc48181c45802297313e53a8049e09e9f7602967e2363636", func := "glosswright/glosswrightlaw3.UnifyInAnyOrder", spec := "unifyInAnyOrder", unfollowed := true, recurses := true, named := ["math/bits.deBruijn64tab"], plainKeys := false, apart := false, laid := [("math/bits.deBruijn64tab", laid_math_bits_deBruijn64tab)], narrowed := true }
def UnifyInAnyOrderUptoSaid : Prop := unifyInAnyOrderUptoRow.holds Tryd.pinned (OpenSpec.upto unifyInAnyOrderSpec)

/-- 'glosswrightlaw3.UnifySaysSubsumption', WHERE WHAT IT READS IS OF BULK AT MOST 1048576: true; the input reads as it did. -/
def unifySaysSubsumptionUptoRow : OpenClaim := { program := "yteoncmfiiknfbaadoor", sum := "0739cc7f7a5a8dcfcc48181c45802297313e53a8049e09e9f7602967e2363636", func := "glosswright/glosswrightlaw3.UnifySaysSubsumption", spec := "unifySaysSubsumption", unfollowed := true, recurses := true, named := ["math/bits.deBruijn64tab"], plainKeys := false, apart := false, laid := [("math/bits.deBruijn64tab", laid_math_bits_deBruijn64tab)], narrowed := true }
def UnifySaysSubsumptionUptoSaid : Prop := unifySaysSubsumptionUptoRow.holds Tryd.pinned (OpenSpec.upto unifySaysSubsumptionSpec)

/-- 'glosswrightlaw3.UnifyIsLeastBound', WHERE WHAT IT READS IS OF BULK AT MOST 1048576: true; the input reads as it did. -/
def unifyIsLeastBoundUptoRow : OpenClaim := { program := "yteoncmfiiknfbaadoor", sum := "0739cc7f7a5a8dcfcc48181c45802297313e53a8049e09e9f7602967e2363636", func := "glosswright/glosswrightlaw3.UnifyIsLeastBound", spec := "unifyIsLeastBound", unfollowed := true, recurses := true, named := ["math/bits.deBruijn64tab"], plainKeys := false, apart := false, laid := [("math/bits.deBruijn64tab", laid_math_bits_deBruijn64tab)], narrowed := true }
def UnifyIsLeastBoundUptoSaid : Prop := unifyIsLeastBoundUptoRow.holds Tryd.pinned (OpenSpec.upto unifyIsLeastBoundSpec)

/-- 'glosswrightlaw3.GeneralAbsorbs', WHERE WHAT IT READS IS OF BULK AT MOST 1048576: true; the input reads as it did. -/
def generalAbsorbsUptoRow : OpenClaim := { program := "yteoncmfiiknfbaadoor", sum := "0739cc7f7a5a8dcfcc48181c45802297313e53a8049e09e9f7602967e2363636", func := "glosswright/glosswrightlaw3.GeneralAbsorbs", spec := "generalAbsorbs", unfollowed := true, recurses := true, named := ["math/bits.deBruijn64tab"], plainKeys := false, apart := false, laid := [("math/bits.deBruijn64tab", laid_math_bits_deBruijn64tab)], narrowed := true }
def GeneralAbsorbsUptoSaid : Prop := generalAbsorbsUptoRow.holds Tryd.pinned (OpenSpec.upto generalAbsorbsSpec)

/-- 'glosswrightlaw3.UnifyAllMatchesSpec', WHERE WHAT IT READS IS OF BULK AT MOST 1048576: true; the input reads as it did. -/
def unifyAllMatchesSpecUptoRow : OpenClaim := { program := "yteoncmfiiknfbaadoor", sum := "0739cc7f7a5a8dcfcc48181c45802297313e53a8049e09e9f7602967e2363636", func := "glosswright/glosswrightlaw3.UnifyAllMatchesSpec", spec := "unifyAllMatchesSpec", inPlace := ["slices.overlaps[glosswright/api.Link]"], unfollowed := true, recurses := true, named := ["math/bits.deBruijn64tab"], plainKeys := false, apart := false, laid := [("math/bits.deBruijn64tab", laid_math_bits_deBruijn64tab)], narrowed := true }
def UnifyAllMatchesSpecUptoSaid : Prop := unifyAllMatchesSpecUptoRow.holds Tryd.pinned (OpenSpec.upto unifyAllMatchesSpecSpec)

/-- 'glosswrightlaw3.UnifyMatchesSpec', WHERE WHAT IT READS IS OF BULK AT MOST 1048576: true; the input reads as it did. -/
def unifyMatchesSpecUptoRow : OpenClaim := { program := "yteoncmfiiknfbaadoor", sum := "0739cc7f7a5a8dcfcc48181c45802297313e53a8049e09e9f7602967e2363636", func := "glosswright/glosswrightlaw3.UnifyMatchesSpec", spec := "unifyMatchesSpec", inPlace := ["slices.overlaps[glosswright/api.Link]"], unfollowed := true, recurses := true, named := ["math/bits.deBruijn64tab"], plainKeys := false, apart := false, laid := [("math/bits.deBruijn64tab", laid_math_bits_deBruijn64tab)], narrowed := true }
def UnifyMatchesSpecUptoSaid : Prop := unifyMatchesSpecUptoRow.holds Tryd.pinned (OpenSpec.upto unifyMatchesSpecSpec)

end Rows
end Go.Proofs.YteoncmfiiknfbaaDoor
