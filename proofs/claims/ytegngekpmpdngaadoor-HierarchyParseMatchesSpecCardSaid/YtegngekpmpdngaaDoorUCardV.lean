/- Proved: for every world and every input, the law HierarchyParseMatchesSpec of glosswrightlaw3 returns true and leaves its arguments as they were; the condition is the statement's own, that math/bits.deBruijn64tab holds what its text lays. -/
import Derived.Test.YtegngekpmpdngaaDoorU
import Derived.Test.YtegngekpmpdngaaDoorCards
import Derived.Test.YtegngekpmpdngaaDoorTie
import Derived.Test.YtegngekpmpdngaaDoorTypes
import Derived.WalkKit
import Derived.ChangeMaps5
import Derived.LaidSub
import Derived.Deep.DeepLaidRun
import Derived.ProofKit
import Derived.Deep.DeepHandedRow
import Derived.Lib.LaidTab
import Derived.Test.YtegngekpmpdngaaDoorPLaw
import Derived.Test.YtegngekpmpdngaaDoorGOpen
namespace Go.Proofs.YtegngekpmpdngaaDoor
open Go.ChangeShapes Go.WideShapes Go.ChangeAt Go.RowKit Go.Joins
theorem ce3 : Tryd.prog.cellsOf 3 = 1 := by kernel_rfl
theorem ce9 : Tryd.prog.cellsOf 9 = 1 := by kernel_rfl
theorem ce22 : Tryd.prog.cellsOf 22 = 1 := by kernel_rfl
theorem ce23 : Tryd.prog.cellsOf 23 = 1 := by kernel_rfl
theorem ce25 : Tryd.prog.cellsOf 25 = 2 := by kernel_rfl
theorem ce43 : Tryd.prog.cellsOf 43 = 1 := by kernel_rfl
theorem ce63 : Tryd.prog.cellsOf 63 = 3 := by kernel_rfl
theorem ce77 : Tryd.prog.cellsOf 77 = 2 := by kernel_rfl
set_option maxRecDepth 100000 in
theorem hier_open {H : Type} {enc : TypeId × Value → H} {W : World} {base : Nat} {spare : Nat → Bool} {held : Bool} {r : Reach} {b0 : Nat} {v : Value} {d : DataW H} {p : List MemPlace} (hv : Value.okWide Tryd.prog W r b0 25 v) (h : DataW.Trod enc Tryd.prog W base spare held 25 v d p) :
    ∃ A B c e l fs, v = .agg #[.slice A (List.length l) c, .slice B (List.length fs) e] ∧ l.length ≤ c ∧ fs.length ≤ e ∧ TypesIn W A l ∧ FeatsIn W B fs := by
  obtain ⟨v0, v1, y0, y1, n, rfl, _, _, h0, h1⟩ := open_agg2 U25 kR ce25 hv h
  obtain ⟨A, l, c, rfl, hl, hT⟩ := types_open U22 U77 ce77 rfl rfl rfl rfl U9 ce9 ce43 U43 U3 ce3 h0
  obtain ⟨B, fs, e, rfl, hf, hF⟩ := feats_open U23 U63 ce63 rfl rfl rfl rfl rfl rfl U9 ce9 U3 ce3 h1
  exact ⟨A, B, c, e, l, fs, rfl, hl, hf, hT, hF⟩
theorem ce26 : Tryd.prog.cellsOf 26 = 1 := by kernel_rfl
theorem ce28 : Tryd.prog.cellsOf 28 = 1 := by kernel_rfl
theorem ce30 : Tryd.prog.cellsOf 30 = 2 := by kernel_rfl
theorem ce31 : Tryd.prog.cellsOf 31 = 1 := by kernel_rfl
theorem ce33 : Tryd.prog.cellsOf 33 = 2 := by kernel_rfl
set_option maxRecDepth 100000 in
theorem graph_open {H : Type} {enc : TypeId × Value → H} {W : World} {base : Nat} {spare : Nat → Bool} {held : Bool} {r : Reach} {b0 : Nat} {v : Value} {d : DataW H} {p : List MemPlace} (hv : Value.okWide Tryd.prog W r b0 28 v) (h : DataW.Trod enc Tryd.prog W base spare held 28 v d p) :
    ∃ G cg gr, v = .agg #[.slice G (List.length gr) cg] ∧ gr.length ≤ cg ∧ NodesIn W G gr := by
  obtain ⟨cs, rfl, hsz⟩ := okWide_struct Tryd.underlying28 hv
  obtain ⟨fuel, hf⟩ := h
  obtain ⟨y0, n, _, hl, h0⟩ := trod_struct1 Tryd.underlying28 hf
  rw [ce28] at hsz
  obtain ⟨L⟩ := cs
  match L, hsz with
  | [v0], _ =>
    have h1 : DataW.trod enc Tryd.prog W base spare held n 26 [v0] = some y0 := by simpa [Value.cells, ce26] using h0
    obtain ⟨G, gr, cg, rfl, hc, hG⟩ := nodes_open Tryd.underlying26 Tryd.underlying33 ce33 rfl rfl rfl rfl Tryd.underlying31 Tryd.underlying30 ce30 rfl rfl rfl rfl ce31 U3 ce3 h1
    exact ⟨G, cg, gr, rfl, hc, hG⟩
theorem laidOut : laidOutB Tryd.prog = true := by kernel_rfl
theorem own : ownKnob Tryd.prog.godebug = none := by kernel_rfl
theorem gTab : Tryd.prog.globalNamed "math/bits.deBruijn64tab" = some 0 := by kernel_rfl
theorem gTabType : (Tryd.prog.globals[0]?).map (·.type) = some 157 := by kernel_rfl
theorem ce157 : Tryd.prog.cellsOf 157 = 64 := by kernel_rfl
theorem ce5 : Tryd.prog.cellsOf 5 = 1 := by kernel_rfl
theorem tab_get (l : List Nat) (k : Nat) : (l.map (fun (n : Nat) => (n : Int))).getD k 0 = ((l.getD k 0 : Nat) : Int) := by
  simp only [List.getD_eq_getElem?_getD, List.getElem?_map]
  cases l[k]? <;> rfl
theorem tab_in {W : World} (h : laidMetH Tryd.prog [("math/bits.deBruijn64tab", Rows.laid_math_bits_deBruijn64tab)] W) : TabIn W := by
  have ht : Lib.TabIs Tryd.prog W "math/bits.deBruijn64tab" .u8 (Lib.deBruijn64tab.map (fun (n : Nat) => (n : Int))) := Lib.tabIs_of_head (rest := []) gTab gTabType Tryd.underlying157 U5 ce5 ce157 h
  have hc : ∀ k, k < 64 → W.cell? ⟨0, 0 + k * 1, none⟩ = some (.int .u8 ((Lib.deBruijn64tab.getD k 0 : Nat) : Int)) := fun k hk => by
    have h1 := ht.cell gTab k (by rw [List.length_map]; exact hk)
    rw [tab_get] at h1
    simpa using h1
  exact ⟨Go.Clock.block_lt (hc 0 dE), hc⟩
def oneLaid : DataW Unit → Value | .lit (.int k z) => .int k z | _ => .bool false
def someLaid : DataW Unit → List Value | .agg r => r.map oneLaid | x => [oneLaid x]
def laidV : DataW Unit → Array Value | .agg r => (r.flatMap someLaid).toArray | _ => #[]
noncomputable def laidWorld (os : Os) : World :=
  { World.holding Tryd.prog os ⟨#[], #[], []⟩ with heap := ((((World.holding Tryd.prog os ⟨#[], #[], []⟩).heap.modify 0 fun | .cells _ t z => .cells (laidV Rows.laid_math_bits_deBruijn64tab) t z | o => o).modify 4 fun | .cells _ t z => .cells (laidV Rows.laid_unicode_utf8_acceptRanges) t z | o => o).modify 3 fun | .cells _ t z => .cells (laidV Rows.laid_unicode_utf8_first) t z | o => o) }
theorem lone {W : World} (h : laidMetH Tryd.prog Rows.hierarchyParseMatchesSpecRow.laid W) : laidMetH Tryd.prog [("math/bits.deBruijn64tab", Rows.laid_math_bits_deBruijn64tab)] W := by
  have h1 := h.filter (fun x => x.1 == "math/bits.deBruijn64tab")
  have h2 : (Rows.hierarchyParseMatchesSpecRow.laid.filter fun x => x.1 == "math/bits.deBruijn64tab") = [("math/bits.deBruijn64tab", Rows.laid_math_bits_deBruijn64tab)] := by kernel_rfl
  rwa [h2] at h1
namespace hierarchyParseMatchesSpec
theorem laid_met (os : Os) : laidMet Tryd.prog Rows.hierarchyParseMatchesSpecRow.laid ((laidWorld os).forCall (fun _ _ => 0) ⟨#[], #[.string ⟨#[]⟩], []⟩).memory :=
  laidMet_of_run3 8 kR kR kR
theorem reads (os : Os) {H : Type} (enc : TypeId × Value → H) : ∃ places, DataW.whole enc Tryd.prog ((laidWorld os).forCall (fun _ _ => 0) ⟨#[], #[.string ⟨#[]⟩], []⟩).memory Tryd.f4.params.toList Rows.hierarchyParseMatchesSpecSpec.vars false (#[.string ⟨#[]⟩] : Array Value).toList 8 = some ([.lit (.string [])], [], places) :=
  ⟨[], by kernel_rfl⟩
set_option maxRecDepth 100000 in
theorem contract (H : Type) (enc : TypeId × Value → H) (W : World) (base : Nat) (args : Array Value) (ds gs : List (DataW H)) (before : List MemPlace)
    (hval : ∀ (j : Nat) t v, Tryd.f4.params[j]? = some t → args[j]? = some v → Value.okWide Tryd.prog W .any base t v)
    (hW : DataW.Whole enc Tryd.prog Tryd.f4.params.toList Rows.hierarchyParseMatchesSpecSpec.vars false W args.toList ds gs before) (hL : laidMetH Tryd.prog Rows.hierarchyParseMatchesSpecRow.laid W) :
    Calls Tryd.prog 4 args W fun e W' => ∃ v, e = .returned v ∧ Rows.hierarchyParseMatchesSpecSpec.post enc Tryd.prog Tryd.f4 false true false false W args v W' := by
  have hW' := hW
  have hblk := fun p hp => hW.lt p hp
  obtain ⟨p, q, hA0, hV, rfl, hfz, hnd⟩ := hW
  have hA : DataW.TrodAll enc Tryd.prog W 0 (fun _ => true) true Tryd.f4.params.toList args.toList ds p := hA0
  rw [Tryd.params4] at hA hval
  obtain ⟨v0, vs0, d0, ds0, p0, q0, hargs0, rfl, rfl, h0, r0⟩ := trodAll_cons hA
  obtain ⟨rfl, rfl, rfl⟩ := trodAll_nil r0
  obtain rfl : args = #[v0] := by cases args; simp_all
  obtain ⟨rfl, rfl⟩ := trodVars_none hV
  clear hA0
  simp only [List.append_nil] at hW' hblk
  have k0 := h0
  have u0 := hval 0 9 v0 rfl rfl
  obtain ⟨sT, rfl, _, _, _⟩ := Go.ChangeMaps.open_string U9 u0 h0
  refine (law18_any sT W (tab_in (lone hL))).mono fun e W' ⟨he, hg⟩ => ?_
  subst he
  have s0 : ∀ sp : Nat → Bool, (∀ x ∈ p0, sp x.block = true) → DataW.Trod enc Tryd.prog W' 0 sp true 9 _ d0 p0 := fun sp hsp => WideElems.Trod_stays laidOut kR (of_decide_eq_true kR) k0 (fun x hx => hg.same (hblk x (by simp [hx]))) hsp
  exact ⟨_, rfl, post_bel (pv := []) hW' (fun _ _ _ => trodAll_cons_mk (shut_bool U4 _) trodAll_mk0) (fun sp hsp => trodAll_cons_mk (s0 sp (fun x hx => hsp x (by simp [hx]))) trodAll_mk0) (fun _ _ => rfl) (by simp) hg (ok_one kR rfl (okWide_bool_mk U4 _))⟩
set_option maxRecDepth 100000 in
theorem lifted (os : Os) (started : os.Started) (H : Type) (enc : TypeId × Value → H) (F : Stop.Interp) :
    ReturnsInHanded {} Tryd.checked os 4 .any ((OpenSpec.ofChange Rows.hierarchyParseMatchesSpecSpec).preRow enc Tryd.prog Tryd.f4 Rows.hierarchyParseMatchesSpecRow.domain false Rows.hierarchyParseMatchesSpecRow.laid) (((OpenSpec.ofChange Rows.hierarchyParseMatchesSpecSpec).at F).post enc Tryd.prog Tryd.f4 false true false false) := by
  obtain ⟨places, hx⟩ := reads os enc
  refine returnsInHanded_of_row (C := Tryd.checked) (s := OpenSpec.ofChange Rows.hierarchyParseMatchesSpecSpec) own started kR Tryd.func4
    (witness_row_at (enc := enc) (C := Tryd.checked) false (laidWorld os) #[.string ⟨#[]⟩] rfl kR kR kR
      (OpenSpec.preRow_of_cond 8 hx kR (fun k hk => by cases hk) kR (laid_met os))) ?_
  intro W base args ds gs before hval hW _ _ _ hL _ _
  exact contract H enc W base args ds gs before hval hW hL
set_option maxRecDepth 100000 in
theorem said : Rows.HierarchyParseMatchesSpecSaid :=
  OpenClaim.holds_of_cond 4 Tryd.f4 rfl rfl rfl rfl rfl rfl rfl ⟨rfl, rfl, rfl, rfl, rfl⟩ rfl rfl rfl rfl rfl kR Tryd.func4 kR
    (of_decide_eq_true kR) (by unfold Func.isWrapper; first | (rw [if_pos (by decide +kernel)]; kernel_rfl) | (rw [if_neg (by decide +kernel)]; exact ⟨rfl, rfl⟩))
    (fun os started H enc _ F => by rw [OpenClaim.pre_eq_preRow]; exact lifted os started H enc F)
theorem plain (f : FuncId) (fn : Func) (hf : Tryd.pinned.checked.prog.funcNamed "glosswright/glosswrightlaw3.HierarchyParseMatchesSpec" = some f) (hfn : Tryd.pinned.checked.prog.funcs[f]? = some fn) :
    false = Tryd.pinned.checked.prog.looks [] ∧ ∀ (j : Nat) t, fn.params[j]? = some t → Tryd.pinned.checked.prog.wantsStandIn t = false := by
  obtain rfl : f = 4 := Option.some.inj ((show Tryd.prog.funcNamed "glosswright/glosswrightlaw3.HierarchyParseMatchesSpec" = some 4 by kernel_rfl).symm.trans hf) |>.symm
  obtain rfl : fn = Tryd.f4 := (Option.some.inj (Tryd.func4.symm.trans hfn)).symm
  refine ⟨by kernel_rfl, fun j t ht => ?_⟩
  rw [Tryd.params4] at ht
  have hm : t ∈ #[9] := Array.mem_of_getElem? ht
  simp only [List.mem_toArray, List.mem_cons, List.not_mem_nil, or_false] at hm
  subst hm
  exact (show Tryd.prog.wantsStandIn 9 = false by kernel_rfl)
theorem card : Rows.HierarchyParseMatchesSpecCardSaid :=
  Claim7.holds_tied_plain_at .later [] _ _ _ _ said (fun _ h => by cases h) kR (fun _ h => by cases h) hierarchyParseMatchesSpec_row_tie rfl ⟨rfl, rfl⟩ kR rfl plain kR
end hierarchyParseMatchesSpec
end Go.Proofs.YtegngekpmpdngaaDoor
