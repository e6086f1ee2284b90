/-
  NARROWER THAN 'FOR EVERY INPUT', by the rows' own cells (each row's printed sentence says how): GraphValidateMatchesSpec: laid · GraphNumbersDoNotMatter: laid · GraphCanonicalMatchesSpec: laid · GraphPathsMatchesSpec: laid · GraphAtMatchesSpec: laid · GraphAtComposes: laid.
  DERIVED. THE GIVEN ROWS OF THIS SEAT. 6 by the template 'for every input the law returns true; each argument reads behind the call as it read before'; 0 by the template 'total and deterministic' (their statements: YtdegobbnidddjaaDoorTotals.lean).
  GIVEN WITH THE SEED: the statements are not yours to turn. If you find one false, say at which input.
  Laid BY PROGRAM, IN A SANDBOX (cutbox-rows.mjs): the forced cells as the released guide's own fill.sh prints them over the translation a8f5a000a100d7a7… (all of the seat's roots in one cut). By AI agents, Wed Nov 11 2026. No macro, syntax, notation, axiom, sorry.
-/
import Derived.Test.YtdegobbnidddjaaDoorChecked
import GoSem.Claim
import GoSem.ClaimJoined
import GoSem.ClaimMapViews
import Derived.JoinedTies
import Derived.KernelRfl
namespace Go.Proofs.YtdegobbnidddjaaDoor
/- THE CELL 'sum', in the pinned program and in every row, IS THE sha256 OF THE DUMP (.gsa) THAT YtdegobbnidddjaaDoorProg.lean LOADS. Nothing in Lean hashes anything: it is a label: what it is worth is what the hold of that sum in a sandbox is worth. -/
noncomputable def Tryd.pinned : Pinned := { name := "ytdegobbnidddjaadoor", sum := "a8f5a000a100d7a75e5d962940afd4386c58fc95fc9a924001d0da916a9bb52c", checked := Tryd.checked }
namespace Rows
def none {H : Type} : Left H := { results := [], args := [] }

/- WHAT THE LISTED PACKAGE-LEVEL VARIABLES READ AS WHEN THE CALL BEGINS. Each datum BY PROGRAM (the guide's laid-datum.mjs) off the statement by which the dump's own 'gosem.cut.vars' lays the variable. In a bare row this is a premise. The card (YtdegobbnidddjaaDoorCards.lean) ties it to the program's text. -/
def laid_math_bits_deBruijn64tab {H : Type} : DataW H := .agg [.lit (.int .u8 0), .lit (.int .u8 1), .lit (.int .u8 56), .lit (.int .u8 2), .lit (.int .u8 57), .lit (.int .u8 49), .lit (.int .u8 28), .lit (.int .u8 3), .lit (.int .u8 61), .lit (.int .u8 58), .lit (.int .u8 42), .lit (.int .u8 50), .lit (.int .u8 38), .lit (.int .u8 29), .lit (.int .u8 17), .lit (.int .u8 4), .lit (.int .u8 62), .lit (.int .u8 47), .lit (.int .u8 59), .lit (.int .u8 36), .lit (.int .u8 45), .lit (.int .u8 43), .lit (.int .u8 51), .lit (.int .u8 22), .lit (.int .u8 53), .lit (.int .u8 39), .lit (.int .u8 33), .lit (.int .u8 30), .lit (.int .u8 24), .lit (.int .u8 18), .lit (.int .u8 12), .lit (.int .u8 5), .lit (.int .u8 63), .lit (.int .u8 55), .lit (.int .u8 48), .lit (.int .u8 27), .lit (.int .u8 60), .lit (.int .u8 41), .lit (.int .u8 37), .lit (.int .u8 16), .lit (.int .u8 46), .lit (.int .u8 35), .lit (.int .u8 44), .lit (.int .u8 21), .lit (.int .u8 52), .lit (.int .u8 32), .lit (.int .u8 23), .lit (.int .u8 11), .lit (.int .u8 54), .lit (.int .u8 26), .lit (.int .u8 40), .lit (.int .u8 15), .lit (.int .u8 34), .lit (.int .u8 20), .lit (.int .u8 31), .lit (.int .u8 10), .lit (.int .u8 25), .lit (.int .u8 14), .lit (.int .u8 19), .lit (.int .u8 9), .lit (.int .u8 13), .lit (.int .u8 8), .lit (.int .u8 7), .lit (.int .u8 6)]

/-- 'glosswrightlaw3.GraphValidateMatchesSpec': WHATEVER THE INPUT: true; the input reads as it did. -/
def graphValidateMatchesSpecSpec : ChangeSpec := { name := "graphValidateMatchesSpec", fn := fun _ => fun
  | [d1, d2] => { results := [.lit (.bool true)], args := [d1, d2] }
  | _ => none }
def graphValidateMatchesSpecRow : OpenClaim := { program := "ytdegobbnidddjaadoor", sum := "a8f5a000a100d7a75e5d962940afd4386c58fc95fc9a924001d0da916a9bb52c", func := "glosswright/glosswrightlaw3.GraphValidateMatchesSpec", spec := "graphValidateMatchesSpec", named := ["math/bits.deBruijn64tab"], apart := false, laid := [("math/bits.deBruijn64tab", laid_math_bits_deBruijn64tab)] }
def GraphValidateMatchesSpecSaid : Prop := graphValidateMatchesSpecRow.holds Tryd.pinned (OpenSpec.ofChange graphValidateMatchesSpecSpec)

/-- ITS FALSE NEIGHBOUR: 'it returns false'. Refute it at one input. -/
def graphValidateMatchesSpecWrong : ChangeSpec := { name := "graphValidateMatchesSpec", fn := fun _ => fun
  | [d1, d2] => { results := [.lit (.bool false)], args := [d1, d2] }
  | _ => none }
def GraphValidateMatchesSpecWrongFalsely : Prop := graphValidateMatchesSpecRow.holds Tryd.pinned (OpenSpec.ofChange graphValidateMatchesSpecWrong)

/-- 'glosswrightlaw3.GraphNumbersDoNotMatter': WHATEVER THE INPUT: true; the input reads as it did. -/
def graphNumbersDoNotMatterSpec : ChangeSpec := { name := "graphNumbersDoNotMatter", fn := fun _ => fun
  | [d1, d2, d3] => { results := [.lit (.bool true)], args := [d1, d2, d3] }
  | _ => none }
def graphNumbersDoNotMatterRow : OpenClaim := { program := "ytdegobbnidddjaadoor", sum := "a8f5a000a100d7a75e5d962940afd4386c58fc95fc9a924001d0da916a9bb52c", func := "glosswright/glosswrightlaw3.GraphNumbersDoNotMatter", spec := "graphNumbersDoNotMatter", unfollowed := true, recurses := true, named := ["math/bits.deBruijn64tab"], apart := false, laid := [("math/bits.deBruijn64tab", laid_math_bits_deBruijn64tab)] }
def GraphNumbersDoNotMatterSaid : Prop := graphNumbersDoNotMatterRow.holds Tryd.pinned (OpenSpec.ofChange graphNumbersDoNotMatterSpec)

/-- ITS FALSE NEIGHBOUR: 'it returns false'. Refute it at one input. -/
def graphNumbersDoNotMatterWrong : ChangeSpec := { name := "graphNumbersDoNotMatter", fn := fun _ => fun
  | [d1, d2, d3] => { results := [.lit (.bool false)], args := [d1, d2, d3] }
  | _ => none }
def GraphNumbersDoNotMatterWrongFalsely : Prop := graphNumbersDoNotMatterRow.holds Tryd.pinned (OpenSpec.ofChange graphNumbersDoNotMatterWrong)

/-- 'glosswrightlaw3.GraphCanonicalMatchesSpec': WHATEVER THE INPUT: true; the input reads as it did. -/
def graphCanonicalMatchesSpecSpec : ChangeSpec := { name := "graphCanonicalMatchesSpec", fn := fun _ => fun
  | [d1, d2] => { results := [.lit (.bool true)], args := [d1, d2] }
  | _ => none }
def graphCanonicalMatchesSpecRow : OpenClaim := { program := "ytdegobbnidddjaadoor", sum := "a8f5a000a100d7a75e5d962940afd4386c58fc95fc9a924001d0da916a9bb52c", func := "glosswright/glosswrightlaw3.GraphCanonicalMatchesSpec", spec := "graphCanonicalMatchesSpec", unfollowed := true, recurses := true, named := ["math/bits.deBruijn64tab"], apart := false, laid := [("math/bits.deBruijn64tab", laid_math_bits_deBruijn64tab)] }
def GraphCanonicalMatchesSpecSaid : Prop := graphCanonicalMatchesSpecRow.holds Tryd.pinned (OpenSpec.ofChange graphCanonicalMatchesSpecSpec)

/-- ITS FALSE NEIGHBOUR: 'it returns false'. Refute it at one input. -/
def graphCanonicalMatchesSpecWrong : ChangeSpec := { name := "graphCanonicalMatchesSpec", fn := fun _ => fun
  | [d1, d2] => { results := [.lit (.bool false)], args := [d1, d2] }
  | _ => none }
def GraphCanonicalMatchesSpecWrongFalsely : Prop := graphCanonicalMatchesSpecRow.holds Tryd.pinned (OpenSpec.ofChange graphCanonicalMatchesSpecWrong)

/-- 'glosswrightlaw3.GraphPathsMatchesSpec': WHATEVER THE INPUT: true; the input reads as it did. -/
def graphPathsMatchesSpecSpec : ChangeSpec := { name := "graphPathsMatchesSpec", fn := fun _ => fun
  | [d1, d2, d3] => { results := [.lit (.bool true)], args := [d1, d2, d3] }
  | _ => none }
def graphPathsMatchesSpecRow : OpenClaim := { program := "ytdegobbnidddjaadoor", sum := "a8f5a000a100d7a75e5d962940afd4386c58fc95fc9a924001d0da916a9bb52c", func := "glosswright/glosswrightlaw3.GraphPathsMatchesSpec", spec := "graphPathsMatchesSpec", unfollowed := true, recurses := true, named := ["math/bits.deBruijn64tab"], apart := false, laid := [("math/bits.deBruijn64tab", laid_math_bits_deBruijn64tab)] }
def GraphPathsMatchesSpecSaid : Prop := graphPathsMatchesSpecRow.holds Tryd.pinned (OpenSpec.ofChange graphPathsMatchesSpecSpec)

/-- ITS FALSE NEIGHBOUR: 'it returns false'. Refute it at one input. -/
def graphPathsMatchesSpecWrong : ChangeSpec := { name := "graphPathsMatchesSpec", fn := fun _ => fun
  | [d1, d2, d3] => { results := [.lit (.bool false)], args := [d1, d2, d3] }
  | _ => none }
def GraphPathsMatchesSpecWrongFalsely : Prop := graphPathsMatchesSpecRow.holds Tryd.pinned (OpenSpec.ofChange graphPathsMatchesSpecWrong)

/-- 'glosswrightlaw3.GraphAtMatchesSpec': WHATEVER THE INPUT: true; the input reads as it did. -/
def graphAtMatchesSpecSpec : ChangeSpec := { name := "graphAtMatchesSpec", fn := fun _ => fun
  | [d1, d2, d3] => { results := [.lit (.bool true)], args := [d1, d2, d3] }
  | _ => none }
def graphAtMatchesSpecRow : OpenClaim := { program := "ytdegobbnidddjaadoor", sum := "a8f5a000a100d7a75e5d962940afd4386c58fc95fc9a924001d0da916a9bb52c", func := "glosswright/glosswrightlaw3.GraphAtMatchesSpec", spec := "graphAtMatchesSpec", unfollowed := true, recurses := true, named := ["math/bits.deBruijn64tab"], apart := false, laid := [("math/bits.deBruijn64tab", laid_math_bits_deBruijn64tab)] }
def GraphAtMatchesSpecSaid : Prop := graphAtMatchesSpecRow.holds Tryd.pinned (OpenSpec.ofChange graphAtMatchesSpecSpec)

/-- ITS FALSE NEIGHBOUR: 'it returns false'. Refute it at one input. -/
def graphAtMatchesSpecWrong : ChangeSpec := { name := "graphAtMatchesSpec", fn := fun _ => fun
  | [d1, d2, d3] => { results := [.lit (.bool false)], args := [d1, d2, d3] }
  | _ => none }
def GraphAtMatchesSpecWrongFalsely : Prop := graphAtMatchesSpecRow.holds Tryd.pinned (OpenSpec.ofChange graphAtMatchesSpecWrong)

/-- 'glosswrightlaw3.GraphAtComposes': WHATEVER THE INPUT: true; the input reads as it did. -/
def graphAtComposesSpec : ChangeSpec := { name := "graphAtComposes", fn := fun _ => fun
  | [d1, d2, d3, d4] => { results := [.lit (.bool true)], args := [d1, d2, d3, d4] }
  | _ => none }
def graphAtComposesRow : OpenClaim := { program := "ytdegobbnidddjaadoor", sum := "a8f5a000a100d7a75e5d962940afd4386c58fc95fc9a924001d0da916a9bb52c", func := "glosswright/glosswrightlaw3.GraphAtComposes", spec := "graphAtComposes", unfollowed := true, recurses := true, named := ["math/bits.deBruijn64tab"], apart := false, laid := [("math/bits.deBruijn64tab", laid_math_bits_deBruijn64tab)] }
def GraphAtComposesSaid : Prop := graphAtComposesRow.holds Tryd.pinned (OpenSpec.ofChange graphAtComposesSpec)

/-- ITS FALSE NEIGHBOUR: 'it returns false'. Refute it at one input. -/
def graphAtComposesWrong : ChangeSpec := { name := "graphAtComposes", fn := fun _ => fun
  | [d1, d2, d3, d4] => { results := [.lit (.bool false)], args := [d1, d2, d3, d4] }
  | _ => none }
def GraphAtComposesWrongFalsely : Prop := graphAtComposesRow.holds Tryd.pinned (OpenSpec.ofChange graphAtComposesWrong)

/- THE SECOND FORM. 'bulk': how many values and letters a reading holds, each counted each time it is reached (what is shared counts as often as it is met; a slice's spare places count too). A statement '..UptoSaid' is the law's where the arguments, and the package variables that the reading takes, are together of bulk at most 1048576: NARROWER than '..Said'. Prove '..Said' where nothing that the law and all that it calls make is longer than what came in: it says more and counts as full. Else prove '..UptoSaid'. A law counts once. -/
mutual
def uptoBulk {H : Type} : DataW H → Nat
  | .lit (.string bytes) => bytes.length + 1
  | .lit _ => 1
  | .nil => 1
  | .ptr d => uptoBulk d + 1
  | .slice elems spare => uptoBulkAll elems + uptoBulkAll spare + 1
  | .agg parts => uptoBulkAll parts + 1
  | .iface _ d => uptoBulk d + 1
  | .map entries => uptoBulkEntries entries + 1
  | .held _ => 1
def uptoBulkAll {H : Type} : List (DataW H) → Nat
  | [] => 0
  | d :: r => uptoBulk d + uptoBulkAll r
def uptoBulkEntries {H : Type} : List (Lit × DataW H) → Nat
  | [] => 0
  | x :: r => uptoBulkEntry x + uptoBulkEntries r
def uptoBulkEntry {H : Type} : Lit × DataW H → Nat
  | (.string bytes, d) => bytes.length + uptoBulk d + 1
  | (_, d) => uptoBulk d + 1
 end
def uptoSmall : (H : Type) → List (DataW H) → Bool := fun _ ds => decide (uptoBulkAll ds ≤ 1048576)
def OpenSpec.upto (s : _root_.Go.ChangeSpec) : _root_.Go.OpenSpec := { _root_.Go.OpenSpec.ofChange s with cond := some uptoSmall }

/-- 'glosswrightlaw3.GraphValidateMatchesSpec', WHERE WHAT IT READS IS OF BULK AT MOST 1048576: true; the input reads as it did. -/
def graphValidateMatchesSpecUptoRow : OpenClaim := { program := "ytdegobbnidddjaadoor", sum := "a8f5a000a100d7a75e5d962940afd4386c58fc95fc9a924001d0da916a9bb52c", func := "glosswright/glosswrightlaw3.GraphValidateMatchesSpec", spec := "graphValidateMatchesSpec", named := ["math/bits.deBruijn64tab"], apart := false, laid := [("math/bits.deBruijn64tab", laid_math_bits_deBruijn64tab)], narrowed := true }
def GraphValidateMatchesSpecUptoSaid : Prop := graphValidateMatchesSpecUptoRow.holds Tryd.pinned (OpenSpec.upto graphValidateMatchesSpecSpec)

/-- 'glosswrightlaw3.GraphNumbersDoNotMatter', WHERE WHAT IT READS IS OF BULK AT MOST 1048576: true; the input reads as it did. -/
def graphNumbersDoNotMatterUptoRow : OpenClaim := { program := "ytdegobbnidddjaadoor", sum := "a8f5a000a100d7a75e5d962940afd4386c58fc95fc9a924001d0da916a9bb52c", func := "glosswright/glosswrightlaw3.GraphNumbersDoNotMatter", spec := "graphNumbersDoNotMatter", unfollowed := true, recurses := true, named := ["math/bits.deBruijn64tab"], apart := false, laid := [("math/bits.deBruijn64tab", laid_math_bits_deBruijn64tab)], narrowed := true }
def GraphNumbersDoNotMatterUptoSaid : Prop := graphNumbersDoNotMatterUptoRow.holds Tryd.pinned (OpenSpec.upto graphNumbersDoNotMatterSpec)

/-- 'glosswrightlaw3.GraphCanonicalMatchesSpec', WHERE WHAT IT READS IS OF BULK AT MOST 1048576: true; the input reads as it did. -/
def graphCanonicalMatchesSpecUptoRow : OpenClaim := { program := "ytdegobbnidddjaadoor", sum := "a8f5a000a100d7a75e5d962940afd4386c58fc95fc9a924001d0da916a9bb52c", func := "glosswright/glosswrightlaw3.GraphCanonicalMatchesSpec", spec := "graphCanonicalMatchesSpec", unfollowed := true, recurses := true, named := ["math/bits.deBruijn64tab"], apart := false, laid := [("math/bits.deBruijn64tab", laid_math_bits_deBruijn64tab)], narrowed := true }
def GraphCanonicalMatchesSpecUptoSaid : Prop := graphCanonicalMatchesSpecUptoRow.holds Tryd.pinned (OpenSpec.upto graphCanonicalMatchesSpecSpec)

/-- 'glosswrightlaw3.GraphPathsMatchesSpec', WHERE WHAT IT READS IS OF BULK AT MOST 1048576: true; the input reads as it did. -/
def graphPathsMatchesSpecUptoRow : OpenClaim := { program := "ytdegobbnidddjaadoor", sum := "a8f5a000a100d7a75e5d962940afd4386c58fc95fc9a924001d0da916a9bb52c", func := "glosswright/glosswrightlaw3.GraphPathsMatchesSpec", spec := "graphPathsMatchesSpec", unfollowed := true, recurses := true, named := ["math/bits.deBruijn64tab"], apart := false, laid := [("math/bits.deBruijn64tab", laid_math_bits_deBruijn64tab)], narrowed := true }
def GraphPathsMatchesSpecUptoSaid : Prop := graphPathsMatchesSpecUptoRow.holds Tryd.pinned (OpenSpec.upto graphPathsMatchesSpecSpec)

/-- 'glosswrightlaw3.GraphAtMatchesSpec', WHERE WHAT IT READS IS OF BULK AT MOST 1048576: true; the input reads as it did. -/
def graphAtMatchesSpecUptoRow : OpenClaim := { program := "ytdegobbnidddjaadoor", sum := "a8f5a000a100d7a75e5d962940afd4386c58fc95fc9a924001d0da916a9bb52c", func := "glosswright/glosswrightlaw3.GraphAtMatchesSpec", spec := "graphAtMatchesSpec", unfollowed := true, recurses := true, named := ["math/bits.deBruijn64tab"], apart := false, laid := [("math/bits.deBruijn64tab", laid_math_bits_deBruijn64tab)], narrowed := true }
def GraphAtMatchesSpecUptoSaid : Prop := graphAtMatchesSpecUptoRow.holds Tryd.pinned (OpenSpec.upto graphAtMatchesSpecSpec)

/-- 'glosswrightlaw3.GraphAtComposes', WHERE WHAT IT READS IS OF BULK AT MOST 1048576: true; the input reads as it did. -/
def graphAtComposesUptoRow : OpenClaim := { program := "ytdegobbnidddjaadoor", sum := "a8f5a000a100d7a75e5d962940afd4386c58fc95fc9a924001d0da916a9bb52c", func := "glosswright/glosswrightlaw3.GraphAtComposes", spec := "graphAtComposes", unfollowed := true, recurses := true, named := ["math/bits.deBruijn64tab"], apart := false, laid := [("math/bits.deBruijn64tab", laid_math_bits_deBruijn64tab)], narrowed := true }
def GraphAtComposesUptoSaid : Prop := graphAtComposesUptoRow.holds Tryd.pinned (OpenSpec.upto graphAtComposesSpec)

end Rows
end Go.Proofs.YtdegobbnidddjaaDoor
