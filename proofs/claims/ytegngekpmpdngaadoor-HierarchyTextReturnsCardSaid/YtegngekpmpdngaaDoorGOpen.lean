/- What these functions of the program compute, at every world: glosswright/hierarchy.Parse. What these functions of the program compute, at every world: glosswright/glosswrightlaw3.unmet, glosswright/glosswrightlaw3.HierarchyTextReturns. Arguments opened: graphs. -/
import Derived.Test.YtegngekpmpdngaaDoorU
import Derived.Test.YtegngekpmpdngaaDoorHRd
import Derived.Test.YtegngekpmpdngaaDoorGCan
import Derived.Test.YtegngekpmpdngaaDoorGro
import Derived.Test.YtegngekpmpdngaaDoorShx
import Derived.Test.YtegngekpmpdngaaDoorNIeq
import Derived.Test.YtegngekpmpdngaaDoorName
namespace Go.Proofs.YtegngekpmpdngaaDoor
open Go.RowKit
theorem lnsO_len {s : ByteArray} (h : s.size ≤ 4000) : (lnsO s).length ≤ 4001 := by
  have h1 := sp_len 10 s
  have h2 := count_size 10 s
  unfold lnsO
  split
  · rw [List.length_take]; omega
  · omega
theorem lnsO_small {s : ByteArray} (h : s.size ≤ 4000) : ∀ x ∈ lnsO s, x.size ≤ 4000 := fun x hx => by
  have h1 : x ∈ sp 10 s := by
    unfold lnsO at hx
    split at hx
    · exact List.mem_of_mem_take hx
    · exact hx
  exact nLT (sp_small h1) h
theorem sp_snoc (s : ByteArray) : (sp 10 s).take ((sp 10 s).length - 1) ++ [lastP s] = sp 10 s := by
  have h1 := sp_len 10 s
  have h2 : (sp 10 s).length - 1 < (sp 10 s).length := by omega
  have := List.take_succ_eq_append_getElem h2
  rw [show (sp 10 s).length - 1 + 1 = (sp 10 s).length by omega, List.take_length, pc_get] at this
  exact this.symm
theorem prs_big {s : ByteArray} (h : (4000 : Int) < ((s.size : Nat) : Int)) : prs s = (([], []), (1, -1)) := by
  unfold prs; rw [if_pos om]
theorem prs_fin {s : ByteArray} {l : List Ty} {fs : List Ft} {f : Fl} (h4 : s.size ≤ 4000) (hR : rdL [] [] 0 (lnsO s) = ((l, fs), f)) : (0 ≤ opn s ∧ (f.1 = 0 ∨ opn s ≤ f.2) → prs s = (([], []), (11, opn s))) ∧ (¬ (0 ≤ opn s ∧ (f.1 = 0 ∨ opn s ≤ f.2)) → (f.1 = 0 → prs s = finP l fs) ∧ (f.1 ≠ 0 → prs s = (([], []), f))) := by
  have hp : prs s = contP [] [] 0 ((sp 10 s).take ((sp 10 s).length - 1) ++ [lastP s]) := by
    unfold prs; rw [if_neg om, sp_snoc]
  by_cases hl : lastP s = ⟨#[]⟩
  · have ho : opn s = -1 := by unfold opn; rw [if_pos hl]
    have hx : lnsO s = (sp 10 s).take ((sp 10 s).length - 1) := by unfold lnsO; rw [if_pos hl]
    have h1 := cont_shut ((sp 10 s).take ((sp 10 s).length - 1)) [] [] 0
    rw [← hx, hR, hx, ← hl, ← hp] at h1
    refine ⟨fun h => by rw [ho] at h; exact absurd h.1 dE, fun _ => ⟨fun h => h1.1 h, fun h => (h1.2 h).1⟩⟩
  · have hlen : ((sp 10 s).take ((sp 10 s).length - 1)).length = (sp 10 s).length - 1 := by rw [List.length_take]; omega
    have ho : opn s = (((sp 10 s).length - 1 : Nat) : Int) := by unfold opn; rw [if_neg hl]
    have hx : lnsO s = sp 10 s := by unfold lnsO; rw [if_neg hl]
    have h1 := cont_open hl ((sp 10 s).take ((sp 10 s).length - 1)) [] [] 0
    rw [← hp, sp_snoc, ← hx, hR, hx, hlen, Nat.zero_add, ← ho] at h1
    refine ⟨fun h => h1.1 h.2, fun h => ?_⟩
    have h2 : ¬ (f.1 = 0 ∨ opn s ≤ f.2) := fun h3 => h ⟨by omega, h3⟩
    exact ⟨fun h3 => absurd (.inl h3) h2, fun _ => h1.2 h2⟩
theorem fin_ok {l : List Ty} {fs : List Ft} (h : (hierFault l fs).1 = 0) : finP l fs = ((l, fs), (0, 0)) := by unfold finP; rw [if_pos h]
theorem fin_no {l : List Ty} {fs : List Ft} (h : ¬ (hierFault l fs).1 = 0) : finP l fs = (([], []), hierFault l fs) := by unfold finP; rw [if_neg h]
theorem fn42 : callable Tryd.prog 42 = true := by kernel_rfl
theorem fn43 : callable Tryd.prog 43 = true := by kernel_rfl
set_option maxRecDepth 100000 in
set_option maxHeartbeats 4000000 in
theorem prs_any (s : ByteArray) (w : World) (hTab : TabIn w) : Calls Tryd.prog 16 #[.string s] w fun e w' => (∃ At ct Af cf l fs f, prs s = ((l, fs), f) ∧ e = .returned (.tuple #[.agg #[.slice At (List.length l) ct, .slice Af (List.length fs) cf], .agg #[.int .i64 (Prod.fst f), .int .i64 f.2]]) ∧ l.length ≤ ct ∧ fs.length ≤ cf ∧ TypesIn w' At l ∧ FeatsIn w' Af fs) ∧ Bel w w' := by
 refine enter Tryd.func16 Tryd.ntmps16 rfl (Nat.le_of_ble_eq_true rfl) ?_
 have hB : Bel w w := Below.refl _ _
 refine c_seq (c_region ?_)
 refine wl_al (cs := #[.slice none 0 0, .slice none 0 0]) ze25 rfl (fun b2 w1 hb2 hs hr => ?_)
 have lo2 := nLT (Bel.size hB) hr
 replace hB := hB.tr0 hs
 clear hs
 clear hr
 refine wl_al (cs := #[.int .i64 0, .int .i64 0]) ze35_GLoose rfl (fun b3 w2 hb3 hs hr => ?_)
 have or_b2_b3 : b2 < b3 := nLL hb2.lt hr
 have lo3 := nLT (Bel.size hB) hr
 replace hB := hB.tr0 hs
 replace hb2 := hb2.tr0 hs
 clear hs
 clear hr
 refine x_nil (e_S (c_seq (c_seq (c_region (wl (r_mv (v := .string _) rfl) ?_)))))
 refine wl (r_lenS U9 rfl) (wl (r_gtr rfl rfl) (x_nil (e_S ?_)))
 refine c_ifd rfl (fun c10 => ?_) (fun c10 => ?_)
 ·
  refine c_seq (c_region (wl (r_bd (vs := #[]) (cs := #[.slice none 0 0, .slice none 0 0]) (by simp) kR) ?_))
  refine wl_cl fn41_HRd (fault_any _ _ _) rfl (fun e' w3 hr => ?_)
  obtain ⟨rfl, hs⟩ := hr
  replace hs := Same.of_bel hs
  replace hB := hB.tr0 hs
  replace hb2 := hb2.tr0 hs
  replace hb3 := hb3.tr0 hs
  clear hs
  refine ⟨_, rfl, ?_⟩
  refine wl_stW hb2 rfl rfl sz25 rfl oneA (fun w4 hq hs => ?_)
  replace hB := hB.tr1 hs lo2
  replace hb3 := hb3.tr1 hs om
  clear hs
  replace hb2 := hq
  refine wl_stW hb3 rfl rfl sz35_GLoose rfl oneA (fun w5 hq hs => ?_)
  replace hB := hB.tr1 hs lo3
  replace hb2 := hb2.tr1 hs om
  clear hs
  replace hb3 := hq
  refine x_nil (e_S (c_ret (e_Sr (fin2 (.inl rfl) rfl (rr_cell U25 rfl rfl hb2.range0 sz25) (rr_cell U35 rfl rfl hb3.range0 sz35_GLoose) ?_))))
  exact ⟨⟨none, 0, none, 0, [], [], _, prs_big c10, rfl, Nat.le_refl _, Nat.le_refl _, types_nil _ _, feats_nilH _ _⟩, hB⟩
 have h4 : s.size ≤ 4000 := by omega
 refine c_skip (e_S (c_seq (c_region (wl (r_mv (v := .string _) rfl) ?_))))
 refine wl_cl fn42 (lns_any s _ h4) rfl (fun e' w6 hr => ?_)
 obtain ⟨⟨bL, rfl, hSL⟩, hs⟩ := hr
 replace hs := Same.of_bel hs
 replace hB := hB.tr0 hs
 replace hb2 := hb2.tr0 hs
 replace hb3 := hb3.tr0 hs
 clear hs
 refine ⟨_, rfl, ?_⟩
 refine wmT rfl (wl (r_ex (v := .slice _ _ _) rfl rfl) (wl (r_ex (v := .int _ _) rfl rfl) (waS rfl (waI rfl (x_nil ?_)))))
 refine e_S (c_seq (c_region (wmS rfl ?_)))
 have zq2 := hb2.lt
 have zq3 := hb3.lt
 refine wl_cl fn43 (rd_any _ _ (lnsO s) _ hSL (lnsO_len h4) (lnsO_small h4)) rfl (fun e' w7 hr => ?_)
 obtain ⟨⟨At, ct, Af, cf, l, fs, f, hRe, rfl, hcl, hcf, hTX, hFT⟩, hs⟩ := hr
 replace hs := Same.of_bel hs
 replace hB := hB.tr0 hs
 replace hb2 := hb2.tr0 hs
 replace hb3 := hb3.tr0 hs
 clear hs
 obtain ⟨wX, hwX⟩ : ∃ z, z = w7 := ⟨_, rfl⟩
 obtain ⟨ZX, hZX⟩ : ∃ z, z = (w6).heap.size := ⟨_, rfl⟩
 rw [← hZX] at hTX hFT zq2 zq3
 have hFX : FrSame ZX wX w7 := by rw [hwX]; exact FrSame.refl _ _
 rw [← hwX] at hTX hFT
 obtain ⟨hP1, hP2⟩ := prs_fin h4 hRe
 refine ⟨_, rfl, ?_⟩
 refine wmT rfl (wl (r_ex (v := .agg _) rfl rfl) (wl (r_ex (v := .agg _) rfl rfl) ?_))
 refine wl_al (cs := #[.slice none 0 0, .slice none 0 0]) ze25 rfl (fun b6 w8 hb6 hs hr => ?_)
 have or_b2_b6 : b2 < b6 := nLL hb2.lt hr
 have or_b3_b6 : b3 < b6 := nLL hb3.lt hr
 have or_hFX_b6 := (nLT hFX.size hr)
 have lo6 := nLT (Bel.size hB) hr
 replace hB := hB.tr0 hs
 replace hb2 := hb2.tr0 hs
 replace hb3 := hb3.tr0 hs
 replace hFX := hFX.of hs (by simp)
 clear hs
 clear hr
 refine wl_al (cs := #[.int .i64 0, .int .i64 0]) ze35_GLoose rfl (fun b7 w9 hb7 hs hr => ?_)
 have or_b2_b7 : b2 < b7 := nLL hb2.lt hr
 have or_b3_b7 : b3 < b7 := nLL hb3.lt hr
 have or_hFX_b7 := (nLT hFX.size hr)
 have or_b6_b7 : b6 < b7 := nLL hb6.lt hr
 have lo7 := nLT (Bel.size hB) hr
 replace hB := hB.tr0 hs
 replace hb2 := hb2.tr0 hs
 replace hb3 := hb3.tr0 hs
 replace hFX := hFX.of hs (by simp)
 replace hb6 := hb6.tr0 hs
 clear hs
 clear hr
 refine wl_stW hb6 rfl rfl sz25 rfl oneA (fun w10 hq hs => ?_)
 replace hB := hB.tr1 hs lo6
 replace hb2 := hb2.tr1 hs om
 replace hb3 := hb3.tr1 hs om
 replace hFX := hFX.of hs (fun g hg => by rw [List.mem_singleton.1 hg]; omega)
 replace hb7 := hb7.tr1 hs om
 clear hs
 replace hb6 := hq
 refine wl_stW hb7 rfl rfl sz35_GLoose rfl oneA (fun w11 hq hs => ?_)
 replace hB := hB.tr1 hs lo7
 replace hb2 := hb2.tr1 hs om
 replace hb3 := hb3.tr1 hs om
 replace hFX := hFX.of hs (fun g hg => by rw [List.mem_singleton.1 hg]; omega)
 replace hb6 := hb6.tr1 hs om
 clear hs
 replace hb7 := hq
 refine x_nil (e_S (c_seq (c_seq ?_)))
 refine c_cut1 [23, 24, 25, 26, 27, 28, 29, 30, 31, 32, 33, 34, 35] 35 (.bool (decide (0 ≤ opn s ∧ (f.1 = 0 ∨ opn s ≤ f.2)))) nu ?_ (fun gq => ?_)
 ·
  refine c_region (wmI rfl (wl (r_geq rfl rfl) (wmB rfl ?_)))
  refine wl_casesd 25 rfl (fun g25 => ?_) (fun g25 => ?_)
  ·
   refine wl_gd 25 rfl rfl (wl (r_fa U35 sz3_GLoose dE rfl rfl rfl) (wl_gd 25 rfl rfl (wl (r_ld1 (v := .int _ _) U3 rfl rfl (hb7.cell rfl)) (wl_gd 25 rfl rfl (wl (r_eql rfl rfl) ?_)))))
   refine wl_gd 25 rfl rfl (wmB rfl ?_)
   refine wl_casesd 29 rfl (fun g29 => ?_) (fun g29 => ?_)
   ·
    refine wlgn 29 rfl rfl rfl (wlgn 29 rfl rfl rfl (wlgn 29 rfl rfl rfl (wlgn 29 rfl rfl rfl (wl_gd 25 rfl rfl (wl (r_pt (v := .bool _) rfl rfl) ?_)))))
    refine wl (r_pt (v := .bool _) rfl rfl) ?_
    refine x_nil (e_R ⟨rfl, agA, ?_⟩)
    exact clA
   refine wl_gd 29 rfl rfl (wl (r_fa U35 sz3_GLoose dE rfl rfl rfl) (wl_gd 29 rfl rfl (wl (r_ld1 (v := .int _ _) U3 rfl rfl (hb7.cell rfl)) (wl_gd 29 rfl rfl (wmI rfl ?_)))))
   refine wl_gd 29 rfl rfl (wl (r_geq rfl rfl) (wl_gd 25 rfl rfl (wl (r_pf (v := .bool _) rfl rfl) (wl (r_pt (v := .bool _) rfl rfl) ?_))))
   refine x_nil (e_R ⟨rfl, agA, ?_⟩)
   exact clA
  refine wlgn 25 rfl rfl rfl (wlgn 25 rfl rfl rfl (wlgn 25 rfl rfl rfl (wlgn 25 rfl rfl rfl (wlgu 29 rfl rfl (wlgu 29 rfl rfl ?_)))))
  refine wlgu 29 rfl rfl (wlgu 29 rfl rfl (wlgn 25 rfl rfl rfl (wl (r_pf (v := .bool _) rfl rfl) ?_)))
  refine x_nil (e_R ⟨rfl, agA, ?_⟩)
  exact clA
 refine e_S ?_
 refine c_ifd rfl (fun c35 => ?_) (fun c35 => ?_)
 ·
  have hp := hP1 c35
  refine c_seq (c_region (wl (r_bd (vs := #[]) (cs := #[.slice none 0 0, .slice none 0 0]) (by simp) kR) (wmI rfl ?_)))
  refine wl_cl fn41_HRd (fault_any _ _ _) rfl (fun e' w12 hr => ?_)
  obtain ⟨rfl, hs⟩ := hr
  replace hs := Same.of_bel hs
  replace hB := hB.tr0 hs
  replace hb2 := hb2.tr0 hs
  replace hb3 := hb3.tr0 hs
  replace hFX := hFX.of hs (by simp)
  replace hb6 := hb6.tr0 hs
  replace hb7 := hb7.tr0 hs
  clear hs
  refine ⟨_, rfl, ?_⟩
  refine wl_stW hb2 rfl rfl sz25 rfl oneA (fun w13 hq hs => ?_)
  replace hB := hB.tr1 hs lo2
  replace hb3 := hb3.tr1 hs om
  replace hFX := hFX.of hs (fun g hg => by rw [List.mem_singleton.1 hg]; omega)
  replace hb6 := hb6.tr1 hs om
  replace hb7 := hb7.tr1 hs om
  clear hs
  replace hb2 := hq
  refine wl_stW hb3 rfl rfl sz35_GLoose rfl oneA (fun w14 hq hs => ?_)
  replace hB := hB.tr1 hs lo3
  replace hb2 := hb2.tr1 hs om
  replace hFX := hFX.of hs (fun g hg => by rw [List.mem_singleton.1 hg]; omega)
  replace hb6 := hb6.tr1 hs om
  replace hb7 := hb7.tr1 hs om
  clear hs
  replace hb3 := hq
  refine x_nil (e_S (c_ret (e_Sr (fin2 (.inl rfl) rfl (rr_cell U25 rfl rfl hb2.range0 sz25) (rr_cell U35 rfl rfl hb3.range0 sz35_GLoose) ?_))))
  exact ⟨⟨none, 0, none, 0, [], [], _, hp, rfl, Nat.le_refl _, Nat.le_refl _, types_nil _ _, feats_nilH _ _⟩, hB⟩
 obtain ⟨hP3, hP4⟩ := hP2 c35
 refine c_skip (e_S (c_seq (c_seq (c_region (wl (r_fa U35 sz3_GLoose dE rfl rfl rfl) ?_)))))
 refine wl (r_ld1 (v := .int _ _) U3 rfl rfl (hb7.cell rfl)) (wl (r_eql rfl rfl) (x_nil (e_S ?_)))
 refine c_ifd rfl (fun c41 => ?_) (fun c41 => ?_)
 ·
  have hp5 := hP3 c41
  refine c_region (wl (r_ldS U25 rfl rfl hb6.range0 sz25) ?_)
  refine wl_cl fn44 (validate_any At Af ct cf l fs _ (hTab.mono hB) (hTX _ hFX) (hFT _ hFX)) rfl (fun e' w15 hr => ?_)
  obtain ⟨rfl, hs⟩ := hr
  replace hs := Same.of_bel hs
  replace hB := hB.tr0 hs
  replace hb2 := hb2.tr0 hs
  replace hb3 := hb3.tr0 hs
  replace hFX := hFX.of hs (by simp)
  replace hb6 := hb6.tr0 hs
  replace hb7 := hb7.tr0 hs
  clear hs
  refine ⟨_, rfl, ?_⟩
  refine wl_stW hb7 rfl rfl sz35_GLoose rfl oneA (fun w16 hq hs => ?_)
  replace hB := hB.tr1 hs lo7
  replace hb2 := hb2.tr1 hs om
  replace hb3 := hb3.tr1 hs om
  replace hFX := hFX.of hs (fun g hg => by rw [List.mem_singleton.1 hg]; omega)
  replace hb6 := hb6.tr1 hs om
  clear hs
  replace hb7 := hq
  refine x_nil (e_S (c_seq (c_seq (c_region (wl (r_fa U35 sz3_GLoose dE rfl rfl rfl) ?_)))))
  refine wl (r_ld1 (v := .int _ _) U3 rfl rfl (hb7.cell rfl)) (wl (r_neq rfl rfl) (x_nil (e_S ?_)))
  refine c_ifd rfl (fun c46 => ?_) (fun c46 => ?_)
  ·
   refine c_seq ?_
   refine c_all #[false, false, false, false] kR (by rfl) (fun w17 hs => ?_)
   replace hB := hB.tr0 hs
   replace hb2 := hb2.tr0 hs
   replace hb3 := hb3.tr0 hs
   replace hFX := hFX.of hs (by simp)
   replace hb6 := hb6.tr0 hs
   replace hb7 := hb7.tr0 hs
   clear hs
   refine a_step [0, 1] kR rfl ⟨fun o hoq => ?_, fun o hoq => ?_, trivial⟩
   ·
    obtain rfl := sI hoq
    refine wl (r_bd (vs := #[]) (cs := #[.slice none 0 0, .slice none 0 0]) (by simp) kR) (x_nil (e_A (listed' := #[true, false, false, false]) (by rfl) ?_))
    refine a_step [1, 2] kR rfl ⟨fun o hoq => ?_, fun o hoq => ?_, trivial⟩
    ·
     obtain rfl := sI hoq
     refine wl (r_ldS U35 rfl rfl hb7.range0 sz35_GLoose) (x_nil (e_A (listed' := #[true, true, false, false]) (by rfl) ?_))
     refine a_step [2] kR rfl ⟨fun o hoq => ?_, trivial⟩
     obtain rfl := sI hoq
     refine wl_stW hb2 rfl rfl sz25 rfl oneA (fun w18 hq hs => ?_)
     replace hB := hB.tr1 hs lo2
     replace hb3 := hb3.tr1 hs om
     replace hFX := hFX.of hs (fun g hg => by rw [List.mem_singleton.1 hg]; omega)
     replace hb6 := hb6.tr1 hs om
     replace hb7 := hb7.tr1 hs om
     clear hs
     replace hb2 := hq
     refine x_nil (e_A (listed' := #[true, true, true, false]) (by rfl) ?_)
     refine a_step [3] kR rfl ⟨fun o hoq => ?_, trivial⟩
     obtain rfl := sI hoq
     refine wl_stW hb3 rfl rfl sz35_GLoose rfl oneA (fun w19 hq hs => ?_)
     replace hB := hB.tr1 hs lo3
     replace hb2 := hb2.tr1 hs om
     replace hFX := hFX.of hs (fun g hg => by rw [List.mem_singleton.1 hg]; omega)
     replace hb6 := hb6.tr1 hs om
     replace hb7 := hb7.tr1 hs om
     clear hs
     replace hb3 := hq
     refine x_nil (e_A (listed' := #[true, true, true, true]) (by rfl) (a_end kR (e_S (c_ret (e_Sr ?_)))))
     refine fin2 (.inl rfl) rfl (rr_cell U25 rfl rfl hb2.range0 sz25) (rr_cell U35 rfl rfl hb3.range0 sz35_GLoose) ?_
     first
       | exact ⟨⟨none, 0, none, 0, [], [], _, hp5.trans (fin_no c46), rfl, Nat.le_refl _, Nat.le_refl _, types_nil _ _, feats_nilH _ _⟩, hB⟩
       | exact ⟨⟨none, 0, none, 0, [], [], _, hp5, rfl, Nat.le_refl _, Nat.le_refl _, types_nil _ _, feats_nilH _ _⟩, hB⟩
    obtain rfl := sI hoq
    refine wl_stW hb2 rfl rfl sz25 rfl oneA (fun w20 hq hs => ?_)
    replace hB := hB.tr1 hs lo2
    replace hb3 := hb3.tr1 hs om
    replace hFX := hFX.of hs (fun g hg => by rw [List.mem_singleton.1 hg]; omega)
    replace hb6 := hb6.tr1 hs om
    replace hb7 := hb7.tr1 hs om
    clear hs
    replace hb2 := hq
    refine x_nil (e_A (listed' := #[true, false, true, false]) (by rfl) ?_)
    refine a_step [1] kR rfl ⟨fun o hoq => ?_, trivial⟩
    obtain rfl := sI hoq
    refine wl (r_ldS U35 rfl rfl hb7.range0 sz35_GLoose) (x_nil (e_A (listed' := #[true, true, true, false]) (by rfl) ?_))
    refine a_step [3] kR rfl ⟨fun o hoq => ?_, trivial⟩
    obtain rfl := sI hoq
    refine wl_stW hb3 rfl rfl sz35_GLoose rfl oneA (fun w21 hq hs => ?_)
    replace hB := hB.tr1 hs lo3
    replace hb2 := hb2.tr1 hs om
    replace hFX := hFX.of hs (fun g hg => by rw [List.mem_singleton.1 hg]; omega)
    replace hb6 := hb6.tr1 hs om
    replace hb7 := hb7.tr1 hs om
    clear hs
    replace hb3 := hq
    refine x_nil (e_A (listed' := #[true, true, true, true]) (by rfl) (a_end kR (e_S (c_ret (e_Sr ?_)))))
    refine fin2 (.inl rfl) rfl (rr_cell U25 rfl rfl hb2.range0 sz25) (rr_cell U35 rfl rfl hb3.range0 sz35_GLoose) ?_
    first
      | exact ⟨⟨none, 0, none, 0, [], [], _, hp5.trans (fin_no c46), rfl, Nat.le_refl _, Nat.le_refl _, types_nil _ _, feats_nilH _ _⟩, hB⟩
      | exact ⟨⟨none, 0, none, 0, [], [], _, hp5, rfl, Nat.le_refl _, Nat.le_refl _, types_nil _ _, feats_nilH _ _⟩, hB⟩
   obtain rfl := sI hoq
   refine wl (r_ldS U35 rfl rfl hb7.range0 sz35_GLoose) (x_nil (e_A (listed' := #[false, true, false, false]) (by rfl) ?_))
   refine a_step [0] kR rfl ⟨fun o hoq => ?_, trivial⟩
   obtain rfl := sI hoq
   refine wl (r_bd (vs := #[]) (cs := #[.slice none 0 0, .slice none 0 0]) (by simp) kR) (x_nil (e_A (listed' := #[true, true, false, false]) (by rfl) ?_))
   refine a_step [2] kR rfl ⟨fun o hoq => ?_, trivial⟩
   obtain rfl := sI hoq
   refine wl_stW hb2 rfl rfl sz25 rfl oneA (fun w22 hq hs => ?_)
   replace hB := hB.tr1 hs lo2
   replace hb3 := hb3.tr1 hs om
   replace hFX := hFX.of hs (fun g hg => by rw [List.mem_singleton.1 hg]; omega)
   replace hb6 := hb6.tr1 hs om
   replace hb7 := hb7.tr1 hs om
   clear hs
   replace hb2 := hq
   refine x_nil (e_A (listed' := #[true, true, true, false]) (by rfl) ?_)
   refine a_step [3] kR rfl ⟨fun o hoq => ?_, trivial⟩
   obtain rfl := sI hoq
   refine wl_stW hb3 rfl rfl sz35_GLoose rfl oneA (fun w23 hq hs => ?_)
   replace hB := hB.tr1 hs lo3
   replace hb2 := hb2.tr1 hs om
   replace hFX := hFX.of hs (fun g hg => by rw [List.mem_singleton.1 hg]; omega)
   replace hb6 := hb6.tr1 hs om
   replace hb7 := hb7.tr1 hs om
   clear hs
   replace hb3 := hq
   refine x_nil (e_A (listed' := #[true, true, true, true]) (by rfl) (a_end kR (e_S (c_ret (e_Sr ?_)))))
   refine fin2 (.inl rfl) rfl (rr_cell U25 rfl rfl hb2.range0 sz25) (rr_cell U35 rfl rfl hb3.range0 sz35_GLoose) ?_
   first
     | exact ⟨⟨none, 0, none, 0, [], [], _, hp5.trans (fin_no c46), rfl, Nat.le_refl _, Nat.le_refl _, types_nil _ _, feats_nilH _ _⟩, hB⟩
     | exact ⟨⟨none, 0, none, 0, [], [], _, hp5, rfl, Nat.le_refl _, Nat.le_refl _, types_nil _ _, feats_nilH _ _⟩, hB⟩
  refine c_skip (e_S (c_seq (c_region (wl (r_ldS U25 rfl rfl hb6.range0 sz25) (wl (r_bd (vs := #[]) (cs := #[.int .i64 0, .int .i64 0]) (by simp) kR) ?_)))))
  refine wl_stW hb2 rfl rfl sz25 rfl oneA (fun w24 hq hs => ?_)
  replace hB := hB.tr1 hs lo2
  replace hb3 := hb3.tr1 hs om
  replace hFX := hFX.of hs (fun g hg => by rw [List.mem_singleton.1 hg]; omega)
  replace hb6 := hb6.tr1 hs om
  replace hb7 := hb7.tr1 hs om
  clear hs
  replace hb2 := hq
  refine wl_stW hb3 rfl rfl sz35_GLoose rfl oneA (fun w25 hq hs => ?_)
  replace hB := hB.tr1 hs lo3
  replace hb2 := hb2.tr1 hs om
  replace hFX := hFX.of hs (fun g hg => by rw [List.mem_singleton.1 hg]; omega)
  replace hb6 := hb6.tr1 hs om
  replace hb7 := hb7.tr1 hs om
  clear hs
  replace hb3 := hq
  refine x_nil (e_S (c_ret (fin2 (.inl rfl) rfl (rr_cell U25 rfl rfl hb2.range0 sz25) (rr_cell U35 rfl rfl hb3.range0 sz35_GLoose) ?_)))
  first
    | exact absurd (Decidable.not_not.1 c46) c41
    | exact ⟨⟨At, ct, Af, cf, l, fs, _, hp5.trans (fin_ok (Decidable.not_not.1 c46)), rfl, hcl, hcf, hTX _ hFX, hFT _ hFX⟩, hB⟩
 have hp5 := hP4 c41
 refine c_skip (e_S (c_seq (c_seq (c_region (wl (r_fa U35 sz3_GLoose dE rfl rfl rfl) ?_)))))
 refine wl (r_ld1 (v := .int _ _) U3 rfl rfl (hb7.cell rfl)) (wl (r_neq rfl rfl) (x_nil (e_S ?_)))
 refine c_ifd rfl (fun c46 => ?_) (fun c46 => ?_)
 ·
  refine c_seq ?_
  refine c_all #[false, false, false, false] kR (by rfl) (fun w26 hs => ?_)
  replace hB := hB.tr0 hs
  replace hb2 := hb2.tr0 hs
  replace hb3 := hb3.tr0 hs
  replace hFX := hFX.of hs (by simp)
  replace hb6 := hb6.tr0 hs
  replace hb7 := hb7.tr0 hs
  clear hs
  refine a_step [0, 1] kR rfl ⟨fun o hoq => ?_, fun o hoq => ?_, trivial⟩
  ·
   obtain rfl := sI hoq
   refine wl (r_bd (vs := #[]) (cs := #[.slice none 0 0, .slice none 0 0]) (by simp) kR) (x_nil (e_A (listed' := #[true, false, false, false]) (by rfl) ?_))
   refine a_step [1, 2] kR rfl ⟨fun o hoq => ?_, fun o hoq => ?_, trivial⟩
   ·
    obtain rfl := sI hoq
    refine wl (r_ldS U35 rfl rfl hb7.range0 sz35_GLoose) (x_nil (e_A (listed' := #[true, true, false, false]) (by rfl) ?_))
    refine a_step [2] kR rfl ⟨fun o hoq => ?_, trivial⟩
    obtain rfl := sI hoq
    refine wl_stW hb2 rfl rfl sz25 rfl oneA (fun w27 hq hs => ?_)
    replace hB := hB.tr1 hs lo2
    replace hb3 := hb3.tr1 hs om
    replace hFX := hFX.of hs (fun g hg => by rw [List.mem_singleton.1 hg]; omega)
    replace hb6 := hb6.tr1 hs om
    replace hb7 := hb7.tr1 hs om
    clear hs
    replace hb2 := hq
    refine x_nil (e_A (listed' := #[true, true, true, false]) (by rfl) ?_)
    refine a_step [3] kR rfl ⟨fun o hoq => ?_, trivial⟩
    obtain rfl := sI hoq
    refine wl_stW hb3 rfl rfl sz35_GLoose rfl oneA (fun w28 hq hs => ?_)
    replace hB := hB.tr1 hs lo3
    replace hb2 := hb2.tr1 hs om
    replace hFX := hFX.of hs (fun g hg => by rw [List.mem_singleton.1 hg]; omega)
    replace hb6 := hb6.tr1 hs om
    replace hb7 := hb7.tr1 hs om
    clear hs
    replace hb3 := hq
    refine x_nil (e_A (listed' := #[true, true, true, true]) (by rfl) (a_end kR (e_S (c_ret (e_Sr ?_)))))
    refine fin2 (.inl rfl) rfl (rr_cell U25 rfl rfl hb2.range0 sz25) (rr_cell U35 rfl rfl hb3.range0 sz35_GLoose) ?_
    first
      | exact ⟨⟨none, 0, none, 0, [], [], _, hp5.trans (fin_no c46), rfl, Nat.le_refl _, Nat.le_refl _, types_nil _ _, feats_nilH _ _⟩, hB⟩
      | exact ⟨⟨none, 0, none, 0, [], [], _, hp5, rfl, Nat.le_refl _, Nat.le_refl _, types_nil _ _, feats_nilH _ _⟩, hB⟩
   obtain rfl := sI hoq
   refine wl_stW hb2 rfl rfl sz25 rfl oneA (fun w29 hq hs => ?_)
   replace hB := hB.tr1 hs lo2
   replace hb3 := hb3.tr1 hs om
   replace hFX := hFX.of hs (fun g hg => by rw [List.mem_singleton.1 hg]; omega)
   replace hb6 := hb6.tr1 hs om
   replace hb7 := hb7.tr1 hs om
   clear hs
   replace hb2 := hq
   refine x_nil (e_A (listed' := #[true, false, true, false]) (by rfl) ?_)
   refine a_step [1] kR rfl ⟨fun o hoq => ?_, trivial⟩
   obtain rfl := sI hoq
   refine wl (r_ldS U35 rfl rfl hb7.range0 sz35_GLoose) (x_nil (e_A (listed' := #[true, true, true, false]) (by rfl) ?_))
   refine a_step [3] kR rfl ⟨fun o hoq => ?_, trivial⟩
   obtain rfl := sI hoq
   refine wl_stW hb3 rfl rfl sz35_GLoose rfl oneA (fun w30 hq hs => ?_)
   replace hB := hB.tr1 hs lo3
   replace hb2 := hb2.tr1 hs om
   replace hFX := hFX.of hs (fun g hg => by rw [List.mem_singleton.1 hg]; omega)
   replace hb6 := hb6.tr1 hs om
   replace hb7 := hb7.tr1 hs om
   clear hs
   replace hb3 := hq
   refine x_nil (e_A (listed' := #[true, true, true, true]) (by rfl) (a_end kR (e_S (c_ret (e_Sr ?_)))))
   refine fin2 (.inl rfl) rfl (rr_cell U25 rfl rfl hb2.range0 sz25) (rr_cell U35 rfl rfl hb3.range0 sz35_GLoose) ?_
   first
     | exact ⟨⟨none, 0, none, 0, [], [], _, hp5.trans (fin_no c46), rfl, Nat.le_refl _, Nat.le_refl _, types_nil _ _, feats_nilH _ _⟩, hB⟩
     | exact ⟨⟨none, 0, none, 0, [], [], _, hp5, rfl, Nat.le_refl _, Nat.le_refl _, types_nil _ _, feats_nilH _ _⟩, hB⟩
  obtain rfl := sI hoq
  refine wl (r_ldS U35 rfl rfl hb7.range0 sz35_GLoose) (x_nil (e_A (listed' := #[false, true, false, false]) (by rfl) ?_))
  refine a_step [0] kR rfl ⟨fun o hoq => ?_, trivial⟩
  obtain rfl := sI hoq
  refine wl (r_bd (vs := #[]) (cs := #[.slice none 0 0, .slice none 0 0]) (by simp) kR) (x_nil (e_A (listed' := #[true, true, false, false]) (by rfl) ?_))
  refine a_step [2] kR rfl ⟨fun o hoq => ?_, trivial⟩
  obtain rfl := sI hoq
  refine wl_stW hb2 rfl rfl sz25 rfl oneA (fun w31 hq hs => ?_)
  replace hB := hB.tr1 hs lo2
  replace hb3 := hb3.tr1 hs om
  replace hFX := hFX.of hs (fun g hg => by rw [List.mem_singleton.1 hg]; omega)
  replace hb6 := hb6.tr1 hs om
  replace hb7 := hb7.tr1 hs om
  clear hs
  replace hb2 := hq
  refine x_nil (e_A (listed' := #[true, true, true, false]) (by rfl) ?_)
  refine a_step [3] kR rfl ⟨fun o hoq => ?_, trivial⟩
  obtain rfl := sI hoq
  refine wl_stW hb3 rfl rfl sz35_GLoose rfl oneA (fun w32 hq hs => ?_)
  replace hB := hB.tr1 hs lo3
  replace hb2 := hb2.tr1 hs om
  replace hFX := hFX.of hs (fun g hg => by rw [List.mem_singleton.1 hg]; omega)
  replace hb6 := hb6.tr1 hs om
  replace hb7 := hb7.tr1 hs om
  clear hs
  replace hb3 := hq
  refine x_nil (e_A (listed' := #[true, true, true, true]) (by rfl) (a_end kR (e_S (c_ret (e_Sr ?_)))))
  refine fin2 (.inl rfl) rfl (rr_cell U25 rfl rfl hb2.range0 sz25) (rr_cell U35 rfl rfl hb3.range0 sz35_GLoose) ?_
  first
    | exact ⟨⟨none, 0, none, 0, [], [], _, hp5.trans (fin_no c46), rfl, Nat.le_refl _, Nat.le_refl _, types_nil _ _, feats_nilH _ _⟩, hB⟩
    | exact ⟨⟨none, 0, none, 0, [], [], _, hp5, rfl, Nat.le_refl _, Nat.le_refl _, types_nil _ _, feats_nilH _ _⟩, hB⟩
 refine c_skip (e_S (c_seq (c_region (wl (r_ldS U25 rfl rfl hb6.range0 sz25) (wl (r_bd (vs := #[]) (cs := #[.int .i64 0, .int .i64 0]) (by simp) kR) ?_)))))
 refine wl_stW hb2 rfl rfl sz25 rfl oneA (fun w33 hq hs => ?_)
 replace hB := hB.tr1 hs lo2
 replace hb3 := hb3.tr1 hs om
 replace hFX := hFX.of hs (fun g hg => by rw [List.mem_singleton.1 hg]; omega)
 replace hb6 := hb6.tr1 hs om
 replace hb7 := hb7.tr1 hs om
 clear hs
 replace hb2 := hq
 refine wl_stW hb3 rfl rfl sz35_GLoose rfl oneA (fun w34 hq hs => ?_)
 replace hB := hB.tr1 hs lo3
 replace hb2 := hb2.tr1 hs om
 replace hFX := hFX.of hs (fun g hg => by rw [List.mem_singleton.1 hg]; omega)
 replace hb6 := hb6.tr1 hs om
 replace hb7 := hb7.tr1 hs om
 clear hs
 replace hb3 := hq
 refine x_nil (e_S (c_ret (fin2 (.inl rfl) rfl (rr_cell U25 rfl rfl hb2.range0 sz25) (rr_cell U35 rfl rfl hb3.range0 sz35_GLoose) ?_)))
 first
   | exact absurd (Decidable.not_not.1 c46) c41
   | exact ⟨⟨At, ct, Af, cf, l, fs, _, hp5.trans (fin_ok (Decidable.not_not.1 c46)), rfl, hcl, hcf, hTX _ hFX, hFT _ hFX⟩, hB⟩
end Go.Proofs.YtegngekpmpdngaaDoor
namespace Go.Proofs.YtegngekpmpdngaaDoor
open Go.RowKit
def exT : List Ty := [⟨⟨#[116, 111, 112]⟩, []⟩, ⟨⟨#[97]⟩, [0]⟩]
def exF : List Ft := [⟨⟨#[102]⟩, 1, 0⟩]
theorem ex_ok : (hierFault exT exF).1 = 0 := by decide +kernel
theorem ex_tx : mkS (htx exT exF) = (⟨#[116, 121, 112, 101, 32, 116, 111, 112, 10, 116, 121, 112, 101, 32, 97, 32, 116, 111, 112, 10, 102, 101, 97, 116, 32, 102, 32, 97, 32, 116, 111, 112, 10]⟩ : ByteArray) := by decide +kernel
def unm2 : List Ty := [⟨⟨#[116, 111, 112]⟩, []⟩, ⟨⟨#[97]⟩, [0]⟩, ⟨⟨#[98]⟩, [0]⟩, ⟨⟨#[99]⟩, [1, 2]⟩, ⟨⟨#[100]⟩, [1, 2]⟩]
theorem types_two {w : World} {A : Option Addr} (h : TypesIn w A unm2) : TypesIn w A exT := by
  refine ⟨by decide, fun _ => ?_⟩
  obtain ⟨b, o, e, hl, hc⟩ := h.2 dE
  refine ⟨b, o, e, hl, fun k hk => ?_⟩
  match k, hk with
  | 0, _ => exact hc 0 dE
  | 1, _ => exact hc 1 dE
def HPS (l : List Ty) (fs : List Ft) (f : Fl) (s : ByteArray) : Prop :=
  ((hierFault l fs).1 ≠ 0 ∧ f = hierFault l fs ∧ s = ⟨#[]⟩) ∨ ((hierFault l fs).1 = 0 ∧ 4000 < (htx l fs).length ∧ f = (1, -1) ∧ s = ⟨#[]⟩) ∨ ((hierFault l fs).1 = 0 ∧ (htx l fs).length ≤ 4000 ∧ f = (0, 0) ∧ s = mkS (htx l fs))
theorem hpr_any (A B : Option Addr) (c d : Nat) (l : List Ty) (fs : List Ft) (w : World) (hT : TypesIn w A l) (hF : FeatsIn w B fs) (hTab : TabIn w) : Calls Tryd.prog 25 #[.agg #[.slice A l.length c, .slice B fs.length d]] w fun e w' => (∃ s f, e = .returned (.tuple #[.string s, .agg #[.int .i64 (Prod.fst f), .int .i64 f.2]]) ∧ HPS l fs f s) ∧ Bel w w' := by
  refine (hprint_any A B c d l fs w hT hF hTab).mono fun e w' h => ⟨?_, h.2⟩
  rcases h.1 with ⟨h1, h2⟩ | ⟨h1, h2, h3⟩ | ⟨h1, h2, h3⟩
  · exact ⟨_, hierFault l fs, h2, .inl ⟨h1, rfl, rfl⟩⟩
  · exact ⟨_, (1, -1), h3, .inr (.inl ⟨h1, h2, rfl, rfl⟩)⟩
  · exact ⟨_, (0, 0), h3, .inr (.inr ⟨h1, h2, rfl, rfl⟩)⟩
theorem exp_any {w : World} {A B : Option Addr} (hT : TypesIn w A exT) (hF : FeatsIn w B exF) (hTab : TabIn w) : Calls Tryd.prog 25 #[.agg #[.slice A 2 5, .slice B 1 1]] w fun e w' => e = .returned (.tuple #[.string (⟨#[116, 121, 112, 101, 32, 116, 111, 112, 10, 116, 121, 112, 101, 32, 97, 32, 116, 111, 112, 10, 102, 101, 97, 116, 32, 102, 32, 97, 32, 116, 111, 112, 10]⟩ : ByteArray), .agg #[.int .i64 0, .int .i64 0]]) ∧ Bel w w' := by
  refine (hprint_any A B 5 1 exT exF w hT hF hTab).mono fun e w' h => ⟨?_, h.2⟩
  rcases h.1 with ⟨h1, _⟩ | ⟨_, h2, _⟩ | ⟨_, _, h3⟩
  · exact absurd ex_ok h1
  · exact absurd h2 (by decide +kernel)
  · rw [ex_tx] at h3; exact h3
theorem fd35_TLaw : (Tryd.prog.fieldsOf 35).toList.map (fun f => (f.name == "_", f.type, f.offset)) = [(false, 3, 0), (false, 3, 1)] := by kernel_rfl
theorem fn16 : callable Tryd.prog 16 = true := by kernel_rfl
theorem fn18 : callable Tryd.prog 18 = true := by kernel_rfl
theorem fn25 : callable Tryd.prog 25 = true := by kernel_rfl
theorem fn26 : callable Tryd.prog 26 = true := by kernel_rfl
theorem fn28 : callable Tryd.prog 28 = true := by kernel_rfl
theorem ft35_TLaw : Tryd.prog.underlying 35 = some (.struct (Tryd.prog.fieldsOf 35)) := by kernel_rfl
theorem unm2_any (w : World) : Calls Tryd.prog 26 #[] w fun e w' => (∃ A, e = .returned (.slice A 5 5) ∧ TypesIn w' A unm2) ∧ Bel w w' := by
 refine enter Tryd.func26 Tryd.ntmps26 rfl (Nat.le_of_ble_eq_true rfl) ?_
 have hB : Bel w w := Below.refl _ _
 refine c_seq (c_region (waS rfl (x_nil (e_S (c_seq ?_)))))
 refine c_region (wl (r_bd1 (v0 := .string _) (fun v0 => #[v0, .slice none 0 0]) rfl kR) ?_)
 refine wl_bs (cs := #[_]) [(0, .int _ _)] rfl U43 sz3_GLoose ze3_GUnr dE dE kR rfl (fun b2 w1 hb2 hs hr => ?_)
 have lo2 := nLT (Bel.size hB) hr
 replace hB := hB.tr0 hs
 clear hs
 clear hr
 refine wl (r_bd2 (v0 := .string _) (v1 := .slice _ _ _) (fun v0 v1 => #[v0, v1]) rfl rfl kR) ?_
 refine wl_bs (cs := #[_]) [(0, .int _ _)] rfl U43 sz3_GLoose ze3_GUnr dE dE kR rfl (fun b4 w2 hb4 hs hr => ?_)
 have or_b2_b4 : b2 < b4 := nLL hb2.lt hr
 have lo4 := nLT (Bel.size hB) hr
 replace hB := hB.tr0 hs
 replace hb2 := hb2.tr0 hs
 clear hs
 clear hr
 refine wl (r_bd2 (v0 := .string _) (v1 := .slice _ _ _) (fun v0 v1 => #[v0, v1]) rfl rfl kR) ?_
 refine wl_bs (cs := #[_, _]) [(0, .int _ _), (1, .int _ _)] rfl U43 sz3_GLoose ze3_GUnr dE dE kR rfl (fun b6 w3 hb6 hs hr => ?_)
 have or_b2_b6 : b2 < b6 := nLL hb2.lt hr
 have or_b4_b6 : b4 < b6 := nLL hb4.lt hr
 have lo6 := nLT (Bel.size hB) hr
 replace hB := hB.tr0 hs
 replace hb2 := hb2.tr0 hs
 replace hb4 := hb4.tr0 hs
 clear hs
 clear hr
 refine wl (r_bd2 (v0 := .string _) (v1 := .slice _ _ _) (fun v0 v1 => #[v0, v1]) rfl rfl kR) ?_
 refine wl_bs (cs := #[_, _]) [(0, .int _ _), (1, .int _ _)] rfl U43 sz3_GLoose ze3_GUnr dE dE kR rfl (fun b8 w4 hb8 hs hr => ?_)
 have or_b2_b8 : b2 < b8 := nLL hb2.lt hr
 have or_b4_b8 : b4 < b8 := nLL hb4.lt hr
 have or_b6_b8 : b6 < b8 := nLL hb6.lt hr
 have lo8 := nLT (Bel.size hB) hr
 replace hB := hB.tr0 hs
 replace hb2 := hb2.tr0 hs
 replace hb4 := hb4.tr0 hs
 replace hb6 := hb6.tr0 hs
 clear hs
 clear hr
 refine wl (r_bd2 (v0 := .string _) (v1 := .slice _ _ _) (fun v0 v1 => #[v0, v1]) rfl rfl kR) ?_
 refine wl_bs (cs := #[_, _, _, _, _, _, _, _, _, _]) [(0, .agg _), (1, .agg _), (2, .agg _), (3, .agg _), (4, .agg _)] rfl U22 sz77_HFnd ze77_HRd dE dE kR rfl (fun b10 w5 hb10 hs hr => ?_)
 have or_b2_b10 : b2 < b10 := nLL hb2.lt hr
 have or_b4_b10 : b4 < b10 := nLL hb4.lt hr
 have or_b6_b10 : b6 < b10 := nLL hb6.lt hr
 have or_b8_b10 : b8 < b10 := nLL hb8.lt hr
 have lo10 := nLT (Bel.size hB) hr
 replace hB := hB.tr0 hs
 replace hb2 := hb2.tr0 hs
 replace hb4 := hb4.tr0 hs
 replace hb6 := hb6.tr0 hs
 replace hb8 := hb8.tr0 hs
 clear hs
 clear hr
 refine waS rfl (x_nil (e_S (c_ret (fin1 (.inl rfl) rfl rfl ?_))))
 exact ⟨⟨_, rfl, types_of_blk (l := unm2) hb10 (.cons (ints_nil _ _) (.cons (ints_of_blk [0] hb2 dE) (.cons (ints_of_blk [0] hb4 dE) (.cons (ints_of_blk [1, 2] hb6 dE) (.cons (ints_of_blk [1, 2] hb8 dE) .nil))))) dE⟩, hB⟩
set_option maxRecDepth 100000 in
set_option maxHeartbeats 4000000 in
theorem law24_any (A B : Option Addr) (c d : Nat) (l : List Ty) (fs : List Ft) (w : World) (hTab : TabIn w) (hcl : l.length ≤ c) (hdl : fs.length ≤ d) (hT : TypesIn w A l) (hF : FeatsIn w B fs) : Calls Tryd.prog 6 #[.agg #[.slice A l.length c, .slice B fs.length d]] w fun e w' => e = .returned (.bool true) ∧ Bel w w' := by
 refine enter Tryd.func6 Tryd.ntmps6 rfl (Nat.le_of_ble_eq_true rfl) ?_
 have hB : Bel w w := Below.refl _ _
 refine c_seq (c_region ?_)
 refine wl_bx (v := .agg #[_, _]) (cs := #[_, _]) rfl rfl (fun b1 w1 hb1 hs hr => ?_)
 have lo1 := nLT (Bel.size hB) hr
 replace hB := hB.tr0 hs
 clear hs
 clear hr
 refine waB rfl (x_nil (e_S (c_seq (c_seq (c_region ?_)))))
 refine wl_cl fn26 (unm2_any _) rfl (fun e' w2 hr => ?_)
 obtain ⟨⟨A12, rfl, hT12⟩, hs⟩ := hr
 replace hs := Same.of_bel hs
 replace hB := hB.tr0 hs
 replace hb1 := hb1.tr0 hs
 clear hs
 obtain ⟨wU, hwU⟩ : ∃ z, z = w2 := ⟨_, rfl⟩
 have hBU : Bel wU w2 := by rw [hwU]; exact Below.refl _ _
 rw [← hwU] at hT12
 refine ⟨_, rfl, ?_⟩
 refine wl (r_slH (h := 2) U22 sz77_HFnd rfl rfl om) (wl (r_bd3 (v0 := .string _) (v1 := .int _ _) (v2 := .int _ _) (fun v0 v1 v2 => #[v0, v1, v2]) rfl rfl rfl kR) ?_)
 refine wl_bs (cs := #[_, _, _]) [(0, .agg _)] rfl U23 sz63_GVal ze63_GVal dE dE kR rfl (fun b15 w3 hb15 hs hr => ?_)
 have or_b1_b15 : b1 < b15 := nLL hb1.lt hr
 have lo15 := nLT (Bel.size hB) hr
 have lo_hBU_b15 := nLT (Bel.size hBU) hr
 replace hB := hB.tr0 hs
 replace hb1 := hb1.tr0 hs
 replace hBU := hBU.tr0 hs
 clear hs
 clear hr
 refine wl (r_bd2 (v0 := .slice _ _ _) (v1 := .slice _ _ _) (fun v0 v1 => #[v0, v1]) rfl rfl kR) ?_
 refine wl_cl fn25 (exp_any (types_two (hT12.mono hBU)) (feats_of_blk exF hb15 dE) (hTab.mono hB)) rfl (fun e' w4 hr => ?_)
 obtain ⟨rfl, hs⟩ := hr
 replace hs := Same.of_bel hs
 replace hB := hB.tr0 hs
 replace hb1 := hb1.tr0 hs
 replace hBU := hBU.tr0 hs
 replace hb15 := hb15.tr0 hs
 clear hs
 refine ⟨_, rfl, ?_⟩
 refine wmT rfl (wl (r_ex (v := .string _) rfl rfl) (wl (r_ex (v := .agg _) rfl rfl) ?_))
 refine wl_al (cs := #[.int .i64 0, .int .i64 0]) ze35_GLoose rfl (fun b4 w5 hb4 hs hr => ?_)
 have or_b1_b4 : b1 < b4 := nLL hb1.lt hr
 have or_b15_b4 : b15 < b4 := nLL hb15.lt hr
 have lo4 := nLT (Bel.size hB) hr
 have lo_hBU_b4 := nLT (Bel.size hBU) hr
 replace hB := hB.tr0 hs
 replace hb1 := hb1.tr0 hs
 replace hBU := hBU.tr0 hs
 replace hb15 := hb15.tr0 hs
 clear hs
 clear hr
 refine wl (r_as (v := .string _) rfl) ?_
 refine wl_stW hb4 rfl rfl sz35_GLoose rfl oneA (fun w6 hq hs => ?_)
 replace hB := hB.tr1 hs lo4
 replace hb1 := hb1.tr1 hs om
 replace hBU := hBU.tr1 hs lo_hBU_b4
 replace hb15 := hb15.tr1 hs om
 clear hs
 replace hb4 := hq
 refine x_nil (e_S (c_seq (c_region (wl (r_fa U35 sz3_GLoose dE rfl rfl rfl) (wl (r_ld1 (v := .int _ _) U3 rfl rfl (hb4.cell rfl)) ?_)))))
 refine wl (r_neq rfl rfl) (wl (r_mv (v := .bool false) (congrArg Value.bool (decide_eq_false (fun h => h rfl)))) (wl_gd 23 rfl rfl (wl (r_mv (v := .string _) rfl) (wl_gd 23 rfl rfl (wl (r_neqS rfl rfl) ?_)))))
 refine wl (r_pf (v := .bool _) rfl rfl) (x_nil (e_S ?_))
 refine c_ifd rfl (fun c26 => ?_) (fun c26 => ?_)
 ·
  exact absurd rfl c26
 refine c_skip (e_S (c_seq (c_region (wl (r_ldS U25 rfl rfl hb1.range0 sz25) ?_))))
 refine wl_cl fn25 (hpr_any A B c d l fs _ (hT.mono hB) (hF.mono hB) (hTab.mono hB)) rfl (fun e' w7 hr => ?_)
 obtain ⟨⟨sX, fX, rfl, hSX⟩, hs⟩ := hr
 replace hs := Same.of_bel hs
 replace hB := hB.tr0 hs
 replace hb1 := hb1.tr0 hs
 replace hBU := hBU.tr0 hs
 replace hb15 := hb15.tr0 hs
 replace hb4 := hb4.tr0 hs
 clear hs
 refine ⟨_, rfl, ?_⟩
 refine wmT rfl (wl (r_ex (v := .string _) rfl rfl) (wl (r_ex (v := .agg _) rfl rfl) ?_))
 refine wl_al (cs := #[.int .i64 0, .int .i64 0]) ze35_GLoose rfl (fun b6 w8 hb6 hs hr => ?_)
 have or_b1_b6 : b1 < b6 := nLL hb1.lt hr
 have or_b15_b6 : b15 < b6 := nLL hb15.lt hr
 have or_b4_b6 : b4 < b6 := nLL hb4.lt hr
 have lo6 := nLT (Bel.size hB) hr
 have lo_hBU_b6 := nLT (Bel.size hBU) hr
 replace hB := hB.tr0 hs
 replace hb1 := hb1.tr0 hs
 replace hBU := hBU.tr0 hs
 replace hb15 := hb15.tr0 hs
 replace hb4 := hb4.tr0 hs
 clear hs
 clear hr
 refine wl (r_as (v := .string _) rfl) ?_
 refine wl_stW hb6 rfl rfl sz35_GLoose rfl oneA (fun w9 hq hs => ?_)
 replace hB := hB.tr1 hs lo6
 replace hb1 := hb1.tr1 hs om
 replace hBU := hBU.tr1 hs lo_hBU_b6
 replace hb15 := hb15.tr1 hs om
 replace hb4 := hb4.tr1 hs om
 clear hs
 replace hb6 := hq
 refine x_nil (e_S (c_seq (c_seq (c_region (wl (r_ldS U25 rfl rfl hb1.range0 sz25) ?_)))))
 refine wl_cl fn27 (hierFault_any A B c d l fs _ hcl hdl (hT.mono hB) (hF.mono hB)) rfl (fun e' w10 hr => ?_)
 obtain ⟨rfl, hs⟩ := hr
 replace hs := Same.of_bel hs
 replace hB := hB.tr0 hs
 replace hb1 := hb1.tr0 hs
 replace hBU := hBU.tr0 hs
 replace hb15 := hb15.tr0 hs
 replace hb4 := hb4.tr0 hs
 replace hb6 := hb6.tr0 hs
 clear hs
 refine ⟨_, rfl, ?_⟩
 refine wl_al (cs := #[.int .i64 0, .int .i64 0]) ze35_GLoose rfl (fun b7 w11 hb7 hs hr => ?_)
 have or_b1_b7 : b1 < b7 := nLL hb1.lt hr
 have or_b15_b7 : b15 < b7 := nLL hb15.lt hr
 have or_b4_b7 : b4 < b7 := nLL hb4.lt hr
 have or_b6_b7 : b6 < b7 := nLL hb6.lt hr
 have lo7 := nLT (Bel.size hB) hr
 have lo_hBU_b7 := nLT (Bel.size hBU) hr
 replace hB := hB.tr0 hs
 replace hb1 := hb1.tr0 hs
 replace hBU := hBU.tr0 hs
 replace hb15 := hb15.tr0 hs
 replace hb4 := hb4.tr0 hs
 replace hb6 := hb6.tr0 hs
 clear hs
 clear hr
 refine wl_stW hb7 rfl rfl sz35_GLoose rfl oneA (fun w12 hq hs => ?_)
 replace hB := hB.tr1 hs lo7
 replace hb1 := hb1.tr1 hs om
 replace hBU := hBU.tr1 hs lo_hBU_b7
 replace hb15 := hb15.tr1 hs om
 replace hb4 := hb4.tr1 hs om
 replace hb6 := hb6.tr1 hs om
 clear hs
 replace hb7 := hq
 refine x_nil (e_S (c_seq (c_region (wl (r_fa U35 sz3_GLoose dE rfl rfl rfl) (wl (r_ld1 (v := .int _ _) U3 rfl rfl (hb7.cell rfl)) ?_)))))
 refine wl (r_neq rfl rfl) (x_nil (e_S ?_))
 refine c_ifd rfl (fun c36 => ?_) (fun c36 => ?_)
 ·
  obtain ⟨rfl, rfl⟩ : fX = hierFault l fs ∧ sX = ⟨#[]⟩ := by
    rcases hSX with ⟨_, h2, h3⟩ | ⟨h1, _⟩ | ⟨h1, _⟩
    · exact ⟨h2, h3⟩
    · exact absurd h1 c36
    · exact absurd h1 c36
  refine c_seq (c_region (wl (r_ldS U35 rfl rfl hb6.range0 sz35_GLoose) (wl (r_ldS U35 rfl rfl hb7.range0 sz35_GLoose) (wl (r_eqF Tryd.eqGuardType35 ft35_TLaw Tryd.stoodInHeld35 fd35_TLaw U3 rfl rfl) (wl (r_mv (v := .bool true) (congrArg Value.bool (decide_eq_true ⟨rfl, rfl⟩))) ?_)))))
  refine wl_gd 40 rfl rfl (wl (r_mv (v := .string _) rfl) (wl_gd 40 rfl rfl (wl (r_eqlS rfl rfl) (wl (r_pt (v := .bool _) rfl rfl) (wl (r_as (v := .bool true) (congrArg Value.bool (decide_eq_true rfl))) ?_)))))
  refine x_nil (e_S (c_ret (e_Sr (fin1 (.inl rfl) rfl rfl ?_))))
  exact ⟨rfl, hB⟩
 have h0 := Decidable.not_not.1 c36
 replace hSX := hSX.resolve_left (fun h => h.1 h0)
 have hsz : (mkS (htx l fs)).size = (htx l fs).length := by rw [← bl_size]; rfl
 refine c_skip (e_S (c_seq (c_region (wl (r_ldS U25 rfl rfl hb1.range0 sz25) ?_))))
 refine wl_cl fn28 (rtext_any A B c d l fs _ (hT.mono hB) (hF.mono hB) (hv_of h0)) rfl (fun e' w13 hr => ?_)
 obtain ⟨rfl, hs⟩ := hr
 replace hs := Same.of_bel hs
 replace hB := hB.tr0 hs
 replace hb1 := hb1.tr0 hs
 replace hBU := hBU.tr0 hs
 replace hb15 := hb15.tr0 hs
 replace hb4 := hb4.tr0 hs
 replace hb6 := hb6.tr0 hs
 replace hb7 := hb7.tr0 hs
 clear hs
 refine ⟨_, rfl, ?_⟩
 refine wl (r_as (v := .string _) rfl) (x_nil (e_S (c_seq (c_seq (c_region ?_)))))
 refine wl (r_mv (v := .string _) rfl) (wl (r_lenS U9 rfl) (wl (r_gtr rfl rfl) (x_nil (e_S ?_))))
 refine c_ifd rfl (fun c48 => ?_) (fun c48 => ?_)
 ·
  obtain ⟨rfl, rfl⟩ : fX = (1, -1) ∧ sX = ⟨#[]⟩ := by
    rcases hSX with ⟨_, _, h2, h3⟩ | ⟨_, h1, _⟩
    · exact ⟨h2, h3⟩
    · omega
  refine c_seq (c_region (wl (r_ldS U35 rfl rfl hb6.range0 sz35_GLoose) (wl (r_bd2 (v0 := .int _ _) (v1 := .int _ _) (fun v0 v1 => #[v0, v1]) rfl rfl kR) (wl (r_eqF Tryd.eqGuardType35 ft35_TLaw Tryd.stoodInHeld35 fd35_TLaw U3 rfl rfl) (wl (r_mv (v := .bool true) (congrArg Value.bool (decide_eq_true ⟨rfl, rfl⟩))) ?_)))))
  refine wl_gd 52 rfl rfl (wl (r_mv (v := .string _) rfl) (wl_gd 52 rfl rfl (wl (r_eqlS rfl rfl) (wl (r_pt (v := .bool _) rfl rfl) (wl (r_as (v := .bool true) (congrArg Value.bool (decide_eq_true rfl))) ?_)))))
  refine x_nil (e_S (c_ret (e_Sr (fin1 (.inl rfl) rfl rfl ?_))))
  exact ⟨rfl, hB⟩
 have hle : (htx l fs).length ≤ 4000 := by omega
 obtain ⟨rfl, rfl⟩ : fX = (0, 0) ∧ sX = mkS (htx l fs) := by
   rcases hSX with ⟨_, h1, _⟩ | ⟨_, _, h2, h3⟩
   · omega
   · exact ⟨h2, h3⟩
 refine c_skip (e_S (c_seq (c_region (wl (r_mv (v := .string _) rfl) ?_))))
 refine wl_cl fn16 (prs_any (mkS (htx l fs)) _ (hTab.mono hB)) rfl (fun e' w14 hr => ?_)
 obtain ⟨⟨At, ct, Af, cf, l2, fs2, f2, hpe, rfl, _, _, hTp, hFp⟩, hs⟩ := hr
 replace hs := Same.of_bel hs
 replace hB := hB.tr0 hs
 replace hb1 := hb1.tr0 hs
 replace hBU := hBU.tr0 hs
 replace hb15 := hb15.tr0 hs
 replace hb4 := hb4.tr0 hs
 replace hb6 := hb6.tr0 hs
 replace hb7 := hb7.tr0 hs
 clear hs
 have hq := (prs_text h0 hle).symm.trans hpe
 simp only [Prod.mk.injEq] at hq
 obtain ⟨⟨rfl, rfl⟩, rfl⟩ := hq
 obtain ⟨wP, hwP⟩ : ∃ z, z = w14 := ⟨_, rfl⟩
 have hBP : Bel wP w14 := by rw [hwP]; exact Below.refl _ _
 rw [← hwP] at hTp hFp
 refine ⟨_, rfl, ?_⟩
 refine wmT rfl (wl (r_ex (v := .agg _) rfl rfl) (wl (r_ex (v := .agg _) rfl rfl) ?_))
 refine wl_al (cs := #[.slice none 0 0, .slice none 0 0]) ze25_HRd rfl (fun b9 w15 hb9 hs hr => ?_)
 have or_b1_b9 : b1 < b9 := nLL hb1.lt hr
 have or_b15_b9 : b15 < b9 := nLL hb15.lt hr
 have or_b4_b9 : b4 < b9 := nLL hb4.lt hr
 have or_b6_b9 : b6 < b9 := nLL hb6.lt hr
 have or_b7_b9 : b7 < b9 := nLL hb7.lt hr
 have lo9 := nLT (Bel.size hB) hr
 have lo_hBU_b9 := nLT (Bel.size hBU) hr
 have lo_hBP_b9 := nLT (Bel.size hBP) hr
 replace hB := hB.tr0 hs
 replace hb1 := hb1.tr0 hs
 replace hBU := hBU.tr0 hs
 replace hb15 := hb15.tr0 hs
 replace hb4 := hb4.tr0 hs
 replace hb6 := hb6.tr0 hs
 replace hb7 := hb7.tr0 hs
 replace hBP := hBP.tr0 hs
 clear hs
 clear hr
 refine wl_al (cs := #[.int .i64 0, .int .i64 0]) ze35_GLoose rfl (fun b10 w16 hb10 hs hr => ?_)
 have or_b1_b10 : b1 < b10 := nLL hb1.lt hr
 have or_b15_b10 : b15 < b10 := nLL hb15.lt hr
 have or_b4_b10 : b4 < b10 := nLL hb4.lt hr
 have or_b6_b10 : b6 < b10 := nLL hb6.lt hr
 have or_b7_b10 : b7 < b10 := nLL hb7.lt hr
 have or_b9_b10 : b9 < b10 := nLL hb9.lt hr
 have lo10 := nLT (Bel.size hB) hr
 have lo_hBU_b10 := nLT (Bel.size hBU) hr
 have lo_hBP_b10 := nLT (Bel.size hBP) hr
 replace hB := hB.tr0 hs
 replace hb1 := hb1.tr0 hs
 replace hBU := hBU.tr0 hs
 replace hb15 := hb15.tr0 hs
 replace hb4 := hb4.tr0 hs
 replace hb6 := hb6.tr0 hs
 replace hb7 := hb7.tr0 hs
 replace hBP := hBP.tr0 hs
 replace hb9 := hb9.tr0 hs
 clear hs
 clear hr
 refine wl_stW hb9 rfl rfl sz25 rfl oneA (fun w17 hq hs => ?_)
 replace hB := hB.tr1 hs lo9
 replace hb1 := hb1.tr1 hs om
 replace hBU := hBU.tr1 hs lo_hBU_b9
 replace hb15 := hb15.tr1 hs om
 replace hb4 := hb4.tr1 hs om
 replace hb6 := hb6.tr1 hs om
 replace hb7 := hb7.tr1 hs om
 replace hBP := hBP.tr1 hs lo_hBP_b9
 replace hb10 := hb10.tr1 hs om
 clear hs
 replace hb9 := hq
 refine wl_stW hb10 rfl rfl sz35_GLoose rfl oneA (fun w18 hq hs => ?_)
 replace hB := hB.tr1 hs lo10
 replace hb1 := hb1.tr1 hs om
 replace hBU := hBU.tr1 hs lo_hBU_b10
 replace hb15 := hb15.tr1 hs om
 replace hb4 := hb4.tr1 hs om
 replace hb6 := hb6.tr1 hs om
 replace hb7 := hb7.tr1 hs om
 replace hBP := hBP.tr1 hs lo_hBP_b10
 replace hb9 := hb9.tr1 hs om
 clear hs
 replace hb10 := hq
 refine x_nil (e_S (c_seq (c_region (wl (r_fa U35 sz3_GLoose dE rfl rfl rfl) (wl (r_ld1 (v := .int _ _) U3 rfl rfl (hb6.cell rfl)) ?_)))))
 refine wl (r_eql rfl rfl) (wl (r_mv (v := .bool true) (congrArg Value.bool (decide_eq_true rfl))) (wl_gd 64 rfl rfl (wl (r_mv (v := .string _) rfl) (wl_gd 64 rfl rfl (wl (r_mv (v := .string _) rfl) ?_)))))
 refine wl_gd 64 rfl rfl (wl (r_eqlS rfl rfl) (wl (r_pt (v := .bool _) rfl rfl) (wl (r_mv (v := .bool true) (congrArg Value.bool (decide_eq_true rfl))) (wl_gd 69 rfl rfl (wl (r_fa U35 sz3_GLoose dE rfl rfl rfl) ?_)))))
 refine wl_gd 69 rfl rfl (wl (r_ld1 (v := .int _ _) U3 rfl rfl (hb10.cell rfl)) (wl_gd 69 rfl rfl (wl (r_eql rfl rfl) (wl (r_pt (v := .bool _) rfl rfl) (wl (r_mv (v := .bool true) (congrArg Value.bool (decide_eq_true rfl))) ?_)))))
 refine wl_gd 74 rfl rfl (wl (r_ldS U25 rfl rfl hb9.range0 sz25) (wl_gd 74 rfl rfl (wl (r_ldS U25 rfl rfl hb1.range0 sz25) (wl_gd 74 rfl rfl ?_))))
 refine wl_cl fn18 (hieq_any At Af A B ct cf c d l l fs fs _ (hTp.mono hBP) (hFp.mono hBP) (hT.mono hB) (hF.mono hB)) rfl (fun e' w19 hr => ?_)
 obtain ⟨⟨bE, rfl, hbE⟩, hs⟩ := hr
 replace hs := Same.of_bel hs
 replace hB := hB.tr0 hs
 replace hb1 := hb1.tr0 hs
 replace hBU := hBU.tr0 hs
 replace hb15 := hb15.tr0 hs
 replace hb4 := hb4.tr0 hs
 replace hb6 := hb6.tr0 hs
 replace hb7 := hb7.tr0 hs
 replace hBP := hBP.tr0 hs
 replace hb9 := hb9.tr0 hs
 replace hb10 := hb10.tr0 hs
 clear hs
 obtain rfl := hbE.2 ⟨rfl, rfl⟩
 refine ⟨_, rfl, ?_⟩
 refine wl (r_pt (v := .bool _) rfl rfl) (waB rfl (x_nil (e_S (c_ret (fin1 (.inl rfl) rfl rfl ?_)))))
 exact ⟨rfl, hB⟩
end Go.Proofs.YtegngekpmpdngaaDoor
namespace Go.Proofs.YtegngekpmpdngaaDoor
open Go.RowKit Go.ChangeShapes Go.WideShapes Go.Deep Go.Joins
section
variable {H : Type} {enc : TypeId × Value → H} {P : Program} {w : World} {base : Nat} {spare : Nat → Bool} {held : Bool}
theorem links_open {t e ti : TypeId} {f0 f1 : Field} {fuel : Nat} {v : Value} {x : DataW H × List MemPlace} (ht : P.underlying t = some (.slice e)) (he : P.underlying e = some (.struct #[f0, f1])) (hsz : P.cellsOf e = 2) (o0 : f0.offset = 0) (o1 : f1.offset = 1) (e0 : f0.type = ti) (e1 : f1.type = ti)
    (hi : P.underlying ti = some (.int .i64)) (hc1 : P.cellsOf ti = 1) (h : DataW.trod enc P w base spare held fuel t [v] = some x) :
    ∃ A xs c, v = .slice A (List.length xs) c ∧ xs.length ≤ c ∧ LinksIn w A xs := by
  obtain ⟨A, len, c, rfl, hl, hm, hx⟩ := sl_open ht hsz dE h
  by_cases h0 : len = 0
  · subst h0
    exact ⟨A, [], c, rfl, Nat.zero_le _, Nat.zero_le _, fun h => absurd rfl h⟩
  · obtain ⟨b, o, rfl, hlt, hc⟩ := hx h0
    obtain ⟨xs, hxl, hxs⟩ := choose_list (p := fun i (z : Int × Int) => w.rangeAt b (o + i * 2) [.int .i64 z.1, .int .i64 z.2]) (n := len) (fun i hi' => by
      obtain ⟨cs, k, y, h1, h2, h3⟩ := hc i hi'
      obtain ⟨v0, v1, n, y0, y1, rfl, g0, g1⟩ := two_cells he h1 o0 o1 (by rw [e0]; exact hc1) (by rw [e1]; exact hc1) h3
      rw [e0] at g0
      rw [e1] at g1
      obtain ⟨z1, h5, _, _⟩ := DataW.trod_int hi g0
      obtain ⟨z2, h6, _, _⟩ := DataW.trod_int hi g1
      rw [one_val h5, one_val h6] at h2
      exact ⟨(z1, z2), h2⟩)
    subst hxl
    exact ⟨_, xs, c, rfl, hl, nLT hl hm, fun _ => ⟨b, o, rfl, hlt, hxs⟩⟩
theorem nodes_open {t e ti tl te : TypeId} {f0 f1 g0 g1 : Field} {fuel : Nat} {v : Value} {x : DataW H × List MemPlace} (ht : P.underlying t = some (.slice e)) (he : P.underlying e = some (.struct #[f0, f1])) (hsz : P.cellsOf e = 2) (o0 : f0.offset = 0) (o1 : f1.offset = 1) (e0 : f0.type = ti) (e1 : f1.type = tl)
    (htl : P.underlying tl = some (.slice te)) (hte : P.underlying te = some (.struct #[g0, g1])) (hst : P.cellsOf te = 2) (p0 : g0.offset = 0) (p1 : g1.offset = 1) (d0 : g0.type = ti) (d1 : g1.type = ti) (hcl : P.cellsOf tl = 1)
    (hi : P.underlying ti = some (.int .i64)) (hc1 : P.cellsOf ti = 1) (h : DataW.trod enc P w base spare held fuel t [v] = some x) :
    ∃ A gr c, v = .slice A (List.length gr) c ∧ gr.length ≤ c ∧ NodesIn w A gr := by
  obtain ⟨A, len, c, rfl, hl, hm, hx⟩ := sl_open ht hsz dE h
  by_cases h0 : len = 0
  · subst h0
    exact ⟨A, [], c, rfl, Nat.zero_le _, Nat.zero_le _, fun h => absurd rfl h⟩
  · obtain ⟨b, o, rfl, hlt, hc⟩ := hx h0
    obtain ⟨gr, hxl, hxs⟩ := choose_list (p := fun i (z : Nd) => NdIn w b (o + i * 2) z) (n := len) (fun i hi' => by
      obtain ⟨cs, k, y, h1, h2, h3⟩ := hc i hi'
      obtain ⟨v0, v1, n, y0, y1, rfl, q0, q1⟩ := two_cells he h1 o0 o1 (by rw [e0]; exact hc1) (by rw [e1]; exact hcl) h3
      rw [e0] at q0
      rw [e1] at q1
      obtain ⟨z1, h5, _, _⟩ := DataW.trod_int hi q0
      obtain ⟨A', xs, c', rfl, _, hin⟩ := links_open htl hte hst p0 p1 d0 d1 hi hc1 q1
      rw [one_val h5] at h2
      exact ⟨⟨z1, xs⟩, A', c', h2, hin⟩)
    subst hxl
    exact ⟨_, gr, c, rfl, hl, nLT hl hm, fun _ => ⟨b, o, rfl, hlt, hxs⟩⟩
end
end Go.Proofs.YtegngekpmpdngaaDoor
