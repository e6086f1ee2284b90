/- Proved: for every world and every input, the law HierarchyCompleteIsLeast of glosswrightlaw3 returns true and leaves its arguments as they were; the condition is the statement's own, that the listed tables hold what their texts lay. -/
import Derived.Test.YtahdbbgkgokkhaaDoorCards
import Derived.Test.YtahdbbgkgokkhaaDoorTie
import Derived.Test.YtahdbbgkgokkhaaDoorOpen
import Derived.WalkKit
import Derived.LaidSub
import Derived.Deep.DeepLaidRun
import Derived.ProofKit
import Derived.Deep.DeepHandedRow
import Derived.Lib.LaidTab
import Derived.Test.YtahdbbgkgokkhaaDoorCLb
namespace Go.Proofs.YtahdbbgkgokkhaaDoor
open Go.ChangeShapes Go.WideShapes Go.ChangeAt Go.RowKit Go.Joins
theorem ce3 : Tryd.prog.cellsOf 3 = 1 := by kernel_rfl
theorem ce9 : Tryd.prog.cellsOf 9 = 1 := by kernel_rfl
theorem ce22 : Tryd.prog.cellsOf 22 = 1 := by kernel_rfl
theorem ce33 : Tryd.prog.cellsOf 33 = 1 := by kernel_rfl
theorem ce35 : Tryd.prog.cellsOf 35 = 2 := by kernel_rfl
theorem laidOut : laidOutB Tryd.prog = true := by kernel_rfl
theorem own : ownKnob Tryd.prog.godebug = none := by kernel_rfl
theorem gTab : Tryd.prog.globalNamed "math/bits.deBruijn64tab" = some 0 := by kernel_rfl
theorem gTabType : (Tryd.prog.globals[0]?).map (·.type) = some 80 := by kernel_rfl
theorem ce80 : Tryd.prog.cellsOf 80 = 64 := by kernel_rfl
theorem ce5 : Tryd.prog.cellsOf 5 = 1 := by kernel_rfl
theorem tab_get (l : List Nat) (k : Nat) : (l.map (fun (n : Nat) => (n : Int))).getD k 0 = ((l.getD k 0 : Nat) : Int) := by
  simp only [List.getD_eq_getElem?_getD, List.getElem?_map]
  cases l[k]? <;> rfl
theorem tab_in {W : World} (h : laidMetH Tryd.prog [("math/bits.deBruijn64tab", Rows.laid_math_bits_deBruijn64tab)] W) : TabIn W := by
  have ht : Lib.TabIs Tryd.prog W "math/bits.deBruijn64tab" .u8 (Lib.deBruijn64tab.map (fun (n : Nat) => (n : Int))) := Lib.tabIs_of_head (rest := []) gTab gTabType Tryd.underlying80 Tryd.underlying5 ce5 ce80 h
  have hc : ∀ k, k < 64 → W.cell? ⟨0, 0 + k * 1, none⟩ = some (.int .u8 ((Lib.deBruijn64tab.getD k 0 : Nat) : Int)) := fun k hk => by
    have h1 := ht.cell gTab k (by rw [List.length_map]; exact hk)
    rw [tab_get] at h1
    simpa using h1
  exact ⟨Go.Clock.block_lt (hc 0 (by decide)), hc⟩
/-- the values that a laid table lists -/
def oneLaid : DataW Unit → Value | .lit (.int k z) => .int k z | _ => .bool false
def someLaid : DataW Unit → List Value | .agg r => r.map oneLaid | x => [oneLaid x]
def laidV : DataW Unit → Array Value | .agg r => (r.flatMap someLaid).toArray | _ => #[]
/-- a world that holds the tables, for the witness -/
noncomputable def laidWorld (os : Os) : World :=
  { World.holding Tryd.prog os ⟨#[], #[], []⟩ with heap := ((((World.holding Tryd.prog os ⟨#[], #[], []⟩).heap.modify 2 fun | .cells _ t z => .cells (laidV Rows.laid_math_bits_deBruijn32tab) t z | o => o).modify 0 fun | .cells _ t z => .cells (laidV Rows.laid_math_bits_deBruijn64tab) t z | o => o).modify 1 fun | .cells _ t z => .cells (laidV Rows.laid_internal_strconv_uint64pow10) t z | o => o) }
theorem lone {W : World} (h : laidMetH Tryd.prog Rows.hierarchyCompleteIsLeastRow.laid W) : laidMetH Tryd.prog [("math/bits.deBruijn64tab", Rows.laid_math_bits_deBruijn64tab)] W := by
  have h1 := h.filter (fun x => x.1 == "math/bits.deBruijn64tab")
  have h2 : (Rows.hierarchyCompleteIsLeastRow.laid.filter fun x => x.1 == "math/bits.deBruijn64tab") = [("math/bits.deBruijn64tab", Rows.laid_math_bits_deBruijn64tab)] := by kernel_rfl
  rwa [h2] at h1
namespace hierarchyCompleteIsLeast
theorem laid_met (os : Os) : laidMet Tryd.prog Rows.hierarchyCompleteIsLeastRow.laid ((laidWorld os).forCall (fun _ _ => 0) ⟨#[], #[.slice none 0 0], []⟩).memory :=
  laidMet_of_run3 8 (by kernel_rfl) (by kernel_rfl) (by kernel_rfl)
theorem reads (os : Os) {H : Type} (enc : TypeId × Value → H) : ∃ places, DataW.whole enc Tryd.prog ((laidWorld os).forCall (fun _ _ => 0) ⟨#[], #[.slice none 0 0], []⟩).memory Tryd.f3.params.toList Rows.hierarchyCompleteIsLeastSpec.vars false (#[.slice none 0 0] : Array Value).toList 8 = some ([.nil], [], places) :=
  ⟨[], by kernel_rfl⟩
set_option maxRecDepth 100000 in
theorem contract (H : Type) (enc : TypeId × Value → H) (W : World) (base : Nat) (args : Array Value) (ds gs : List (DataW H)) (before : List MemPlace)
    (hval : ∀ (j : Nat) t v, Tryd.f3.params[j]? = some t → args[j]? = some v → Value.okWide Tryd.prog W .any base t v)
    (hW : DataW.Whole enc Tryd.prog Tryd.f3.params.toList Rows.hierarchyCompleteIsLeastSpec.vars false W args.toList ds gs before) (hL : laidMetH Tryd.prog Rows.hierarchyCompleteIsLeastRow.laid W) :
    Calls Tryd.prog 3 args W fun e W' => ∃ v, e = .returned v ∧ Rows.hierarchyCompleteIsLeastSpec.post enc Tryd.prog Tryd.f3 false true false false W args v W' := by
  have hW' := hW
  have hblk := fun p hp => hW.lt p hp
  obtain ⟨p, q, hA0, hV, rfl, hfz, hnd⟩ := hW
  have hA : DataW.TrodAll enc Tryd.prog W 0 (fun _ => true) true Tryd.f3.params.toList args.toList ds p := hA0
  rw [Tryd.params3] at hA hval
  obtain ⟨v0, vs0, d0, ds0, p0, q0, hargs0, rfl, rfl, h0, r0⟩ := trodAll_cons hA
  obtain ⟨rfl, rfl, rfl⟩ := trodAll_nil r0
  obtain rfl : args = #[v0] := by cases args; simp_all
  obtain ⟨rfl, rfl⟩ := trodVars_none hV
  clear hA0
  simp only [List.append_nil] at hW' hblk
  have k0 := h0
  have u0 := hval 0 22 v0 rfl rfl
  obtain ⟨pa0, pl0, pc0, rfl⟩ := okWide_slice Tryd.underlying22 u0
  obtain ⟨fu0, hfu0⟩ := h0
  obtain ⟨A, l, c, ep0, hl, hT⟩ := types_open Tryd.underlying22 Tryd.underlying35 ce35 rfl rfl rfl rfl Tryd.underlying9 ce9 ce33 Tryd.underlying33 Tryd.underlying3 ce3 hfu0
  cases ep0
  refine (law34_any pa0 pc0 l W (tab_in (lone hL)) hl hT).mono fun e W' ⟨he, hg⟩ => ?_
  subst he
  have s0 : ∀ sp : Nat → Bool, (∀ x ∈ p0, sp x.block = true) → DataW.Trod enc Tryd.prog W' 0 sp true 22 _ d0 p0 := fun sp hsp => WideElems.Trod_stays laidOut (by kernel_rfl) (of_decide_eq_true (by kernel_rfl)) k0 (fun x hx => hg.same (hblk x (by simp [hx]))) hsp
  exact ⟨_, rfl, post_bel (pv := []) hW' (fun _ _ _ => trodAll_cons_mk (shut_bool Tryd.underlying4 _) trodAll_mk0) (fun sp hsp => trodAll_cons_mk (s0 sp (fun x hx => hsp x (by simp [hx]))) trodAll_mk0) (fun _ _ => rfl) (by simp) hg (ok_one (by kernel_rfl) rfl (okWide_bool_mk Tryd.underlying4 _))⟩
set_option maxRecDepth 100000 in
theorem lifted (os : Os) (started : os.Started) (H : Type) (enc : TypeId × Value → H) (F : Stop.Interp) :
    ReturnsInHanded {} Tryd.checked os 3 .any ((OpenSpec.ofChange Rows.hierarchyCompleteIsLeastSpec).preRow enc Tryd.prog Tryd.f3 Rows.hierarchyCompleteIsLeastRow.domain false Rows.hierarchyCompleteIsLeastRow.laid) (((OpenSpec.ofChange Rows.hierarchyCompleteIsLeastSpec).at F).post enc Tryd.prog Tryd.f3 false true false false) := by
  obtain ⟨places, hx⟩ := reads os enc
  refine returnsInHanded_of_row (C := Tryd.checked) (s := OpenSpec.ofChange Rows.hierarchyCompleteIsLeastSpec) own started (by kernel_rfl) Tryd.func3
    (witness_row_at (enc := enc) (C := Tryd.checked) false (laidWorld os) #[.slice none 0 0] rfl (by kernel_rfl) (by kernel_rfl) (by kernel_rfl)
      (OpenSpec.preRow_of_cond 8 hx (by kernel_rfl) (fun k hk => by cases hk) (by kernel_rfl) (laid_met os))) ?_
  intro W base args ds gs before hval hW _ _ _ hL _ _
  exact contract H enc W base args ds gs before hval hW hL
set_option maxRecDepth 100000 in
theorem said : Rows.HierarchyCompleteIsLeastSaid :=
  OpenClaim.holds_of_cond 3 Tryd.f3 rfl rfl rfl rfl rfl rfl rfl ⟨rfl, rfl, rfl, rfl, rfl⟩ rfl rfl rfl rfl rfl (by kernel_rfl) Tryd.func3 (by kernel_rfl)
    (of_decide_eq_true (by kernel_rfl)) (by unfold Func.isWrapper; first | (rw [if_pos (by decide +kernel)]; kernel_rfl) | (rw [if_neg (by decide +kernel)]; exact ⟨rfl, rfl⟩))
    (fun os started H enc _ F => by rw [OpenClaim.pre_eq_preRow]; exact lifted os started H enc F)
theorem plain (f : FuncId) (fn : Func) (hf : Tryd.pinned.checked.prog.funcNamed "glosswright/glosswrightlaw3.HierarchyCompleteIsLeast" = some f) (hfn : Tryd.pinned.checked.prog.funcs[f]? = some fn) :
    false = Tryd.pinned.checked.prog.looks [] ∧ ∀ (j : Nat) t, fn.params[j]? = some t → Tryd.pinned.checked.prog.wantsStandIn t = false := by
  obtain rfl : f = 3 := Option.some.inj ((show Tryd.prog.funcNamed "glosswright/glosswrightlaw3.HierarchyCompleteIsLeast" = some 3 by kernel_rfl).symm.trans hf) |>.symm
  obtain rfl : fn = Tryd.f3 := (Option.some.inj (Tryd.func3.symm.trans hfn)).symm
  refine ⟨by kernel_rfl, fun j t ht => ?_⟩
  rw [Tryd.params3] at ht
  have hm : t ∈ #[22] := Array.mem_of_getElem? ht
  simp only [List.mem_toArray, List.mem_cons, List.not_mem_nil, or_false] at hm
  subst hm
  exact (show Tryd.prog.wantsStandIn 22 = false by kernel_rfl)
theorem card : Rows.HierarchyCompleteIsLeastCardSaid :=
  Claim7.holds_tied_plain_at .later [] _ _ _ _ said (fun _ h => by cases h) (by kernel_rfl) (fun _ h => by cases h) hierarchyCompleteIsLeast_row_tie rfl ⟨rfl, rfl⟩ (by kernel_rfl) rfl plain (by kernel_rfl)
end hierarchyCompleteIsLeast
end Go.Proofs.YtahdbbgkgokkhaaDoor
