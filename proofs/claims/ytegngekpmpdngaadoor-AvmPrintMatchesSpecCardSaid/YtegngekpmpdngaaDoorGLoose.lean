/- What these functions of the program compute, at every world: slices.Index[[]bool,bool], glosswright/graph.fault, glosswright/graph.Loose, glosswright/glosswrightref3.LooseFault. -/
import Derived.Test.YtegngekpmpdngaaDoorU
import Derived.Test.YtegngekpmpdngaaDoorDfs
import Derived.Test.YtegngekpmpdngaaDoorTypes
namespace Go.Proofs.YtegngekpmpdngaaDoor
open Go.RowKit
theorem fn37 : callable Tryd.prog 37 = true := by kernel_rfl
theorem sz22_GLoose : (Tryd.prog.info? 22).map (·.size) = some 1 := by kernel_rfl
theorem sz23_GLoose : (Tryd.prog.info? 23).map (·.size) = some 1 := by kernel_rfl
theorem sz26 : (Tryd.prog.info? 26).map (·.size) = some 1 := by kernel_rfl
theorem sz3_GLoose : (Tryd.prog.info? 3).map (·.size) = some 1 := by kernel_rfl
theorem sz30 : (Tryd.prog.info? 30).map (·.size) = some 2 := by kernel_rfl
theorem sz31 : (Tryd.prog.info? 31).map (·.size) = some 1 := by kernel_rfl
theorem sz33 : (Tryd.prog.info? 33).map (·.size) = some 2 := by kernel_rfl
theorem sz35_GLoose : (Tryd.prog.info? 35).map (·.size) = some 2 := by kernel_rfl
theorem sz4_GLoose : (Tryd.prog.info? 4).map (·.size) = some 1 := by kernel_rfl
theorem ze30 : (Tryd.prog.info? 30).map (·.zero) = some (some (.agg #[.int .i64 0, .int .i64 0])) := by kernel_rfl
theorem ze33 : (Tryd.prog.info? 33).map (·.zero) = some (some (.agg #[.int .i64 0, .slice none 0 0])) := by kernel_rfl
theorem ze35_GLoose : (Tryd.prog.info? 35).map (·.zero) = some (some (.agg #[.int .i64 0, .int .i64 0])) := by kernel_rfl
theorem index_any (b n : Nat) (mk : Nat → Bool) (w : World) (hb : Blk w b 4 (row n (fun x => .bool (mk x)))) (hn : n ≤ 1000) : Calls Tryd.prog 99 #[.slice (some ⟨b, 0, none⟩) n n, .bool false] w fun e w' => (∃ r, e = .returned (.int .i64 r) ∧ ((r = -1 ∧ ∀ i, i < n → mk i = true) ∨ ∃ k : Nat, r = k ∧ k < n ∧ mk k = false ∧ ∀ i, i < k → mk i = true)) ∧ Bel w w' := by
 refine enter Tryd.func99 Tryd.ntmps99 rfl (Nat.le_of_ble_eq_true rfl) ?_
 have hB : Bel w w := Below.refl _ _
 refine c_seq (c_region (waI rfl (x_nil (e_S (c_seq ?_)))))
 refine c_seq (c_region (wmS rfl (wl (r_len U82 rfl) (wmI rfl (x_nil ?_)))))
 refine e_S (c_block ?_)
 refine c_loopS [4, 5, 8, 9, 10, 11, 12, 13, 14, 15, 16, 17, 18] (fun m g w' => ∃ k : Nat, k ≤ n ∧ m = n - k ∧ g 8 = .int .i64 k ∧ Bel w w' ∧ ∀ i, i < k → mk i = true) (n) ?_ (fun m g2 w1 hI => ?_)
 ·
  exact ⟨0, Nat.zero_le _, rfl, rfl, hB, fun i hi => by omega⟩
 obtain ⟨k, hk, hm, h8, hB, hA⟩ := hI
 refine c_know 8 (.int .i64 k) h8 nu (c_seq (c_region (wl (r_lss rfl rfl) (x_nil (e_S ?_)))))
 refine c_seq ?_
 refine c_ifd rfl (fun c9 => ?_) (fun c9 => ?_)
 ·
  have hlt : k < n := by omega
  refine c_skip (e_S (c_seq (c_block (c_seq (c_region ?_)))))
  refine wmI rfl (waI rfl (x_nil (e_S (c_seq (c_region ?_)))))
  refine wmB rfl (wmS rfl (wmI rfl (wl (r_ia (i := k) U82 sz4_GLoose rfl rfl om rfl) (wl (r_ld1 (v := .bool _) U4 rfl rfl ((hb.bel hB).cell (row_get hlt))) (wl (r_eqlB U4 rfl rfl) ?_)))))
  refine x_nil (e_S ?_)
  refine c_if rfl (fun c16 => ?_) (fun c16 => ?_)
  ·
   have hmk : mk k = false := by simpa using c16
   refine c_seq (c_region (wmI rfl (waI rfl (x_nil (e_S ?_)))))
   refine c_ret (e_Br (e_Sr (e_LSr (e_Br (e_Sr ?_)))))
   refine fin1 (.inl rfl) rfl rfl ?_
   exact ⟨⟨_, rfl, .inr ⟨k, rfl, hlt, hmk, hA⟩⟩, hB⟩
  refine c_skip (e_B (e_S (c_region (wl (r_add rfl rfl rfl om) (wmI rfl ?_)))))
  refine x_nil (e_LS (n - (k + 1)) om agA ?_)
  exact ⟨k + 1, by omega, rfl, rfl, hB, fun i hi => by
    by_cases e : i = k
    · subst e; simpa using c16
    · exact hA i om⟩
 have hke : k = n := by omega
 subst hke
 refine c_exit (e_Sx (e_LSx (e_Bx (e_S (c_seq ?_)))))
 refine c_region (waI rfl (x_nil (e_S (c_ret (fin1 (.inl rfl) rfl rfl ?_)))))
 exact ⟨⟨_, rfl, .inl ⟨rfl, hA⟩⟩, hB⟩
theorem gfault_any (a b : Int) (w : World) : Calls Tryd.prog 37 #[.int .i64 a, .int .i64 b] w fun e w' => e = .returned (flV (a, b)) ∧ Bel w w' := by
 refine enter Tryd.func37 Tryd.ntmps37 rfl (Nat.le_of_ble_eq_true rfl) ?_
 have hB : Bel w w := Below.refl _ _
 refine c_seq (c_region ?_)
 refine wl_al (cs := #[.int .i64 0, .int .i64 0]) ze35_GLoose rfl (fun b4 w1 hb4 hs hr => ?_)
 have lo4 := nLT (Bel.size hB) hr
 replace hB := hB.tr0 hs
 clear hs
 clear hr
 refine x_nil (e_S (c_seq (c_region (wmI rfl (wmI rfl ?_)))))
 refine wl (r_bd2 (v0 := .int _ _) (v1 := .int _ _) (fun v0 v1 => #[v0, v1]) rfl rfl kR) ?_
 refine wl_stW hb4 rfl rfl sz35_GLoose rfl oneA (fun w2 hq hs => ?_)
 replace hB := hB.tr1 hs lo4
 clear hs
 replace hb4 := hq
 refine x_nil (e_S (c_ret (fin1 (.inl rfl) rfl (rr_cell U35 rfl rfl hb4.range0 sz35_GLoose) ?_)))
 exact ⟨rfl, hB⟩
theorem loose_any (A B G : Option Addr) (c d cg : Nat) (l : List Ty) (fs : List Ft) (gr : List Nd) (w : World) (hG : NodesIn w G gr) : Calls Tryd.prog 97 #[.agg #[.slice A l.length c, .slice B fs.length d], .agg #[.slice G gr.length cg]] w fun e w' => e = .returned (flV (looseF l.length fs.length gr)) ∧ Bel w w' := by
 refine enter Tryd.func97 Tryd.ntmps97 rfl (Nat.le_of_ble_eq_true rfl) ?_
 have hB : Bel w w := Below.refl _ _
 refine c_seq (c_region ?_)
 refine wl_bx (v := .agg #[_, _]) (cs := #[_, _]) rfl rfl (fun b2 w1 hb2 hs hr => ?_)
 have lo2 := nLT (Bel.size hB) hr
 replace hB := hB.tr0 hs
 clear hs
 clear hr
 refine wl_bx (v := .agg #[_]) (cs := #[_]) rfl rfl (fun b3 w2 hb3 hs hr => ?_)
 have or_b2_b3 : b2 < b3 := nLL hb2.lt hr
 have lo3 := nLT (Bel.size hB) hr
 replace hB := hB.tr0 hs
 replace hb2 := hb2.tr0 hs
 clear hs
 clear hr
 refine wl_al (cs := #[.int .i64 0, .int .i64 0]) ze35_GLoose rfl (fun b4 w3 hb4 hs hr => ?_)
 have or_b2_b4 : b2 < b4 := nLL hb2.lt hr
 have or_b3_b4 : b3 < b4 := nLL hb3.lt hr
 have lo4 := nLT (Bel.size hB) hr
 replace hB := hB.tr0 hs
 replace hb2 := hb2.tr0 hs
 replace hb3 := hb3.tr0 hs
 clear hs
 clear hr
 refine x_nil (e_S (c_seq (c_seq ?_)))
 refine c_cut1 [10, 11, 12, 13, 14, 15, 16, 17, 18, 19] 19 (.bool (decide (gr.length = 0 ∨ 60 < gr.length))) nu ?_ (fun gq => ?_)
 ·
  refine c_region (wl (r_fa U28 sz26 dE rfl rfl rfl) (wl (r_ld1 (v := .slice _ _ _) U26 rfl rfl (hb3.cell rfl)) (wl (r_len U26 rfl) (wl (r_eql rfl rfl) (wmB rfl ?_)))))
  refine wl_casesd 14 rfl (fun g14 => ?_) (fun g14 => ?_)
  ·
   refine wlgn 14 rfl rfl rfl (wlgn 14 rfl rfl rfl (wlgn 14 rfl rfl rfl (wlgn 14 rfl rfl rfl (wl (r_pt (v := .bool _) rfl rfl) ?_))))
   refine x_nil (e_R ⟨rfl, agA, ?_⟩)
   exact clA
  refine wl_gd 14 rfl rfl (wl (r_fa U28 sz26 dE rfl rfl rfl) (wl_gd 14 rfl rfl (wl (r_ld1 (v := .slice _ _ _) U26 rfl rfl (hb3.cell rfl)) (wl_gd 14 rfl rfl (wl (r_len U26 rfl) ?_)))))
  refine wl_gd 14 rfl rfl (wl (r_gtr rfl rfl) (wl (r_pf (v := .bool _) rfl rfl) ?_))
  refine x_nil (e_R ⟨rfl, agA, ?_⟩)
  exact clA
 refine e_S ?_
 refine c_ifd rfl (fun c19 => ?_) (fun c19 => ?_)
 ·
  refine c_seq (c_region ?_)
  refine wl_cl fn37 (gfault_any _ _ _) rfl (fun e' w4 hr => ?_)
  obtain ⟨rfl, hs⟩ := hr
  replace hs := Same.of_bel hs
  replace hB := hB.tr0 hs
  replace hb2 := hb2.tr0 hs
  replace hb3 := hb3.tr0 hs
  replace hb4 := hb4.tr0 hs
  clear hs
  refine ⟨_, rfl, ?_⟩
  refine wl_stW hb4 rfl rfl sz35_GLoose rfl oneA (fun w5 hq hs => ?_)
  replace hB := hB.tr1 hs lo4
  replace hb2 := hb2.tr1 hs om
  replace hb3 := hb3.tr1 hs om
  clear hs
  replace hb4 := hq
  refine x_nil (e_S (c_ret (e_Sr (fin1 (.inl rfl) rfl (rr_cell U35 rfl rfl hb4.range0 sz35_GLoose) ?_))))
  exact ⟨ret_fl (by simp only [looseF, if_pos c19]), hB⟩
 have hR := Lib.hid (show looseF l.length fs.length gr = firstF (looseN l.length fs.length gr) 0 (gr.length - 0) by simp only [looseF, if_neg c19, Nat.sub_zero])
 refine c_skip (e_S (c_seq (c_seq (c_region (wl (r_fa U28 sz26 dE rfl rfl rfl) ?_)))))
 refine wl (r_ld1 (v := .slice _ _ _) U26 rfl rfl (hb3.cell rfl)) (wl (r_len U26 rfl) (wmI rfl (x_nil (e_S (c_block ?_)))))
 refine c_loopS [5, 6, 7, 9, 24, 25, 26, 27, 28, 29, 30, 31, 32, 33, 34, 35, 36, 37, 38, 39, 40, 41, 42, 43, 44, 45, 46, 47, 48, 49, 50, 51, 52, 53, 54, 55, 56, 57, 58, 59, 60, 61, 62, 63, 64, 65, 66, 67, 68, 69, 70, 71, 72, 73, 74, 75, 76, 77, 78, 79, 80, 81, 82, 83, 84] (fun m g w' => ∃ k : Nat, k ≤ gr.length ∧ m = gr.length - k ∧ g 24 = .int .i64 k ∧ Bel w w' ∧ Blk w' b2 25 #[.slice A l.length c, .slice B fs.length d] ∧ Blk w' b3 28 #[.slice G gr.length cg] ∧ Blk w' b4 35 #[.int .i64 0, .int .i64 0] ∧ looseF l.length fs.length gr = firstF (looseN l.length fs.length gr) k (gr.length - k)) (gr.length) ?_ (fun m g4 w6 hI => ?_)
 ·
  exact ⟨0, Nat.zero_le _, rfl, rfl, hB, hb2, hb3, hb4, hR.out⟩
 obtain ⟨k, hk, hm, hk0, hB, hb2, hb3, hb4, hR'⟩ := hI
 refine c_know 24 (.int .i64 k) hk0 nu (c_seq (c_region (wl (r_lss rfl rfl) (x_nil (e_S ?_)))))
 refine c_seq ?_
 refine c_ifd rfl (fun c25 => ?_) (fun c25 => ?_)
 ·
  have hlt : k < gr.length := by omega
  obtain ⟨nb, no, LA, lc, rfl, hnb, hnr, hln⟩ := hG.at_ hB hlt
  have hmx := hln.1
  unfold maxI at hmx
  refine c_skip (e_S (c_seq (c_block (c_seq (c_region ?_)))))
  refine wmI rfl (wl (r_ia (i := k) U26 sz33 rfl rfl om rfl) (wl (r_ldS U33 rfl rfl hnr sz33) ?_))
  refine wl_al (cs := #[.int .i64 0, .slice none 0 0]) ze33 rfl (fun b6 w7 hb6 hs hr => ?_)
  have or_b2_b6 : b2 < b6 := nLL hb2.lt hr
  have or_b3_b6 : b3 < b6 := nLL hb3.lt hr
  have or_b4_b6 : b4 < b6 := nLL hb4.lt hr
  have lo6 := nLT (Bel.size hB) hr
  replace hB := hB.tr0 hs
  replace hb2 := hb2.tr0 hs
  replace hb3 := hb3.tr0 hs
  replace hb4 := hb4.tr0 hs
  clear hs
  clear hr
  refine waI rfl ?_
  refine wl_stW hb6 rfl rfl sz33 rfl oneA (fun w8 hq hs => ?_)
  replace hB := hB.tr1 hs lo6
  replace hb2 := hb2.tr1 hs om
  replace hb3 := hb3.tr1 hs om
  replace hb4 := hb4.tr1 hs om
  clear hs
  replace hb6 := hq
  refine x_nil (e_S (c_seq (c_seq ?_)))
  refine c_cut1 [29, 30, 31, 32, 33, 34, 35, 36, 37, 38, 39] 39 (.bool (decide ((gr[k]'hlt).ty < 0 ∨ (l.length : Int) ≤ (gr[k]'hlt).ty))) nu ?_ (fun gq => ?_)
  ·
   refine c_region (wl (r_fa U33 sz3_GLoose dE rfl rfl rfl) (wl (r_ld1 (v := .int _ _) U3 rfl rfl (hb6.cell rfl)) (wl (r_lss rfl rfl) (wmB rfl ?_))))
   refine wl_casesd 32 rfl (fun g32 => ?_) (fun g32 => ?_)
   ·
    refine wlgn 32 rfl rfl rfl (wlgn 32 rfl rfl rfl (wlgn 32 rfl rfl rfl (wlgn 32 rfl rfl rfl (wlgn 32 rfl rfl rfl (wlgn 32 rfl rfl rfl ?_)))))
    refine wl (r_pt (v := .bool _) rfl rfl) ?_
    refine x_nil (e_R ⟨rfl, agA, ?_⟩)
    exact clA
   refine wl_gd 32 rfl rfl (wl (r_fa U33 sz3_GLoose dE rfl rfl rfl) (wl_gd 32 rfl rfl (wl (r_ld1 (v := .int _ _) U3 rfl rfl (hb6.cell rfl)) (wl_gd 32 rfl rfl (wl (r_fa U25 sz22_GLoose dE rfl rfl rfl) ?_)))))
   refine wl_gd 32 rfl rfl (wl (r_ld1 (v := .slice _ _ _) U22 rfl rfl (hb2.cell rfl)) (wl_gd 32 rfl rfl (wl (r_len U22 rfl) (wl_gd 32 rfl rfl (wl (r_geq rfl rfl) ?_)))))
   refine wl (r_pf (v := .bool _) rfl rfl) ?_
   refine x_nil (e_R ⟨rfl, agA, ?_⟩)
   exact clA
  refine e_S ?_
  refine c_ifd rfl (fun c39 => ?_) (fun c39 => ?_)
  ·
   have hty := looseN_ty (nf := fs.length) hlt c39
   refine c_seq (c_region (wmI rfl ?_))
   refine wl_cl fn37 (gfault_any _ _ _) rfl (fun e' w9 hr => ?_)
   obtain ⟨rfl, hs⟩ := hr
   replace hs := Same.of_bel hs
   replace hB := hB.tr0 hs
   replace hb2 := hb2.tr0 hs
   replace hb3 := hb3.tr0 hs
   replace hb4 := hb4.tr0 hs
   replace hb6 := hb6.tr0 hs
   clear hs
   refine ⟨_, rfl, ?_⟩
   refine wl_stW hb4 rfl rfl sz35_GLoose rfl oneA (fun w10 hq hs => ?_)
   replace hB := hB.tr1 hs lo4
   replace hb2 := hb2.tr1 hs om
   replace hb3 := hb3.tr1 hs om
   replace hb6 := hb6.tr1 hs om
   clear hs
   replace hb4 := hq
   refine x_nil (e_S (c_ret (e_Sr (e_Br (e_Sr ?_)))))
   refine e_LSr (e_Br (e_Sr (fin1 (.inl rfl) rfl (rr_cell U35 rfl rfl hb4.range0 sz35_GLoose) ?_)))
   exact ⟨ret_fl (hR'.trans (firstF_hit (c := 3) om hty dE)), hB⟩
  refine c_skip (e_S (c_seq (c_region (waI rfl (x_nil ?_)))))
  refine e_S (c_seq (c_region (wl (r_fa U33 sz31 dE rfl rfl rfl) (wl (r_ld1 (v := .slice _ _ _) U31 rfl rfl (hb6.cell rfl)) (wl (r_len U31 rfl) ?_)))))
  refine wmI rfl (x_nil (e_S (c_block ?_)))
  refine c_loopS [7, 9, 45, 46, 47, 48, 49, 50, 51, 52, 53, 54, 55, 56, 57, 58, 59, 60, 61, 62, 63, 64, 65, 66, 67, 68, 69, 70, 71, 72, 73, 74, 75, 76, 77, 78, 79, 80, 81, 82, 83] (fun m g w' => ∃ (j : Nat) (last : Int), j ≤ (gr[k]'hlt).ln.length ∧ m = (gr[k]'hlt).ln.length - j ∧ g 45 = .int .i64 j ∧ g 7 = .int .i64 last ∧ Bel w w' ∧ Blk w' b2 25 #[.slice A l.length c, .slice B fs.length d] ∧ Blk w' b3 28 #[.slice (some ⟨nb, no, none⟩) gr.length cg] ∧ Blk w' b4 35 #[.int .i64 0, .int .i64 0] ∧ Blk w' b6 33 #[.int .i64 (gr[k]'hlt).ty, .slice LA (gr[k]'hlt).ln.length lc] ∧ looseN l.length fs.length gr k = lnFault fs.length gr.length last ((gr[k]'hlt).ln.drop j)) ((gr[k]'hlt).ln.length) ?_ (fun m g10 w11 hI => ?_)
  ·
   exact ⟨0, -1, Nat.zero_le _, rfl, rfl, rfl, hB, hb2, hb3, hb4, hb6, looseN_ln hlt c39⟩
  obtain ⟨j, last, hj, hmj, h45, h7, hB, hb2, hb3, hb4, hb6, hP⟩ := hI
  refine c_know 45 (.int .i64 j) h45 nu (c_know 7 (.int .i64 last) h7 nu (c_seq (c_region (wl (r_lss rfl rfl) (x_nil ?_)))))
  refine e_S (c_seq ?_)
  refine c_ifd rfl (fun c46 => ?_) (fun c46 => ?_)
  ·
   have hlj : j < (gr[k]'hlt).ln.length := by omega
   obtain ⟨lb, lof, rfl, hlb, hlr⟩ := hln.at_ hB hlj
   refine c_skip (e_S (c_seq (c_block (c_seq (c_region ?_)))))
   refine wl (r_ia (i := j) U31 sz30 rfl rfl om rfl) (wl (r_ldS U30 rfl rfl hlr sz30) ?_)
   refine wl_al (cs := #[.int .i64 0, .int .i64 0]) ze30 rfl (fun b9 w12 hb9 hs hr => ?_)
   have or_b2_b9 : b2 < b9 := nLL hb2.lt hr
   have or_b3_b9 : b3 < b9 := nLL hb3.lt hr
   have or_b4_b9 : b4 < b9 := nLL hb4.lt hr
   have or_b6_b9 : b6 < b9 := nLL hb6.lt hr
   have lo9 := nLT (Bel.size hB) hr
   replace hB := hB.tr0 hs
   replace hb2 := hb2.tr0 hs
   replace hb3 := hb3.tr0 hs
   replace hb4 := hb4.tr0 hs
   replace hb6 := hb6.tr0 hs
   clear hs
   clear hr
   refine wl_stW hb9 rfl rfl sz30 rfl oneA (fun w13 hq hs => ?_)
   replace hB := hB.tr1 hs lo9
   replace hb2 := hb2.tr1 hs om
   replace hb3 := hb3.tr1 hs om
   replace hb4 := hb4.tr1 hs om
   replace hb6 := hb6.tr1 hs om
   clear hs
   replace hb9 := hq
   refine x_nil (e_S (c_seq (c_seq ?_)))
   refine c_cut1 [49, 50, 51, 52, 53, 54, 55, 56, 57, 58, 59, 60, 61, 62, 63, 64, 65, 66, 67, 68, 69, 70, 71, 72] 72 (.bool (decide (((gr[k]'hlt).ln[j]'hlj).1 < 0 ∨ (fs.length : Int) ≤ ((gr[k]'hlt).ln[j]'hlj).1 ∨ ((gr[k]'hlt).ln[j]'hlj).2 < 0 ∨ (gr.length : Int) ≤ ((gr[k]'hlt).ln[j]'hlj).2))) nu ?_ (fun gq => ?_)
   ·
    refine c_region (wl (r_fa U30 sz3_GLoose dE rfl rfl rfl) (wl (r_ld1 (v := .int _ _) U3 rfl rfl (hb9.cell rfl)) (wl (r_lss rfl rfl) (wmB rfl ?_))))
    refine wl_casesd 52 rfl (fun g52 => ?_) (fun g52 => ?_)
    ·
     refine wlgn 52 rfl rfl rfl (wlgn 52 rfl rfl rfl (wlgn 52 rfl rfl rfl (wlgn 52 rfl rfl rfl (wlgn 52 rfl rfl rfl (wlgn 52 rfl rfl rfl ?_)))))
     refine wl (r_pt (v := .bool _) rfl rfl) (wmB rfl (wlgn 60 rfl rfl rfl (wlgn 60 rfl rfl rfl (wlgn 60 rfl rfl rfl (wl (r_pt (v := .bool _) rfl rfl) ?_)))))
     refine wmB rfl (wlgn 65 rfl rfl rfl (wlgn 65 rfl rfl rfl (wlgn 65 rfl rfl rfl (wlgn 65 rfl rfl rfl (wlgn 65 rfl rfl rfl ?_)))))
     refine wlgn 65 rfl rfl rfl (wl (r_pt (v := .bool _) rfl rfl) ?_)
     refine x_nil (e_R ⟨rfl, agA, ?_⟩)
     exact clA
    refine wl_gd 52 rfl rfl (wl (r_fa U30 sz3_GLoose dE rfl rfl rfl) (wl_gd 52 rfl rfl (wl (r_ld1 (v := .int _ _) U3 rfl rfl (hb9.cell rfl)) (wl_gd 52 rfl rfl (wl (r_fa U25 sz23_GLoose dE rfl rfl rfl) ?_)))))
    refine wl_gd 52 rfl rfl (wl (r_ld1 (v := .slice _ _ _) U23 rfl rfl (hb2.cell rfl)) (wl_gd 52 rfl rfl (wl (r_len U23 rfl) (wl_gd 52 rfl rfl (wl (r_geq rfl rfl) ?_)))))
    refine wl (r_pf (v := .bool _) rfl rfl) (wmB rfl ?_)
    refine wl_casesd 60 rfl (fun g60 => ?_) (fun g60 => ?_)
    ·
     refine wlgn 60 rfl rfl rfl (wlgn 60 rfl rfl rfl (wlgn 60 rfl rfl rfl (wl (r_pt (v := .bool _) rfl rfl) (wmB rfl (wlgn 65 rfl rfl rfl ?_)))))
     refine wlgn 65 rfl rfl rfl (wlgn 65 rfl rfl rfl (wlgn 65 rfl rfl rfl (wlgn 65 rfl rfl rfl (wlgn 65 rfl rfl rfl (wl (r_pt (v := .bool _) rfl rfl) ?_)))))
     refine x_nil (e_R ⟨rfl, agA, ?_⟩)
     exact clA
    refine wl_gd 60 rfl rfl (wl (r_fa U30 sz3_GLoose dE rfl rfl rfl) (wl_gd 60 rfl rfl (wl (r_ld1 (v := .int _ _) U3 rfl rfl (hb9.cell rfl)) (wl_gd 60 rfl rfl (wl (r_lss rfl rfl) ?_)))))
    refine wl (r_pf (v := .bool _) rfl rfl) (wmB rfl ?_)
    refine wl_casesd 65 rfl (fun g65 => ?_) (fun g65 => ?_)
    ·
     refine wlgn 65 rfl rfl rfl (wlgn 65 rfl rfl rfl (wlgn 65 rfl rfl rfl (wlgn 65 rfl rfl rfl (wlgn 65 rfl rfl rfl (wlgn 65 rfl rfl rfl ?_)))))
     refine wl (r_pt (v := .bool _) rfl rfl) ?_
     refine x_nil (e_R ⟨rfl, agA, ?_⟩)
     exact clA
    refine wl_gd 65 rfl rfl (wl (r_fa U30 sz3_GLoose dE rfl rfl rfl) (wl_gd 65 rfl rfl (wl (r_ld1 (v := .int _ _) U3 rfl rfl (hb9.cell rfl)) (wl_gd 65 rfl rfl (wl (r_fa U28 sz26 dE rfl rfl rfl) ?_)))))
    refine wl_gd 65 rfl rfl (wl (r_ld1 (v := .slice _ _ _) U26 rfl rfl (hb3.cell rfl)) (wl_gd 65 rfl rfl (wl (r_len U26 rfl) (wl_gd 65 rfl rfl (wl (r_geq rfl rfl) ?_)))))
    refine wl (r_pf (v := .bool _) rfl rfl) ?_
    refine x_nil (e_R ⟨rfl, agA, ?_⟩)
    exact clA
   refine e_S ?_
   refine c_ifd rfl (fun c72 => ?_) (fun c72 => ?_)
   ·
    have hty := hP.trans (ln_bad hlj (show lnBad _ _ _ from c72))
    refine c_seq (c_region (wmI rfl ?_))
    refine wl_cl fn37 (gfault_any _ _ _) rfl (fun e' w14 hr => ?_)
    obtain ⟨rfl, hs⟩ := hr
    replace hs := Same.of_bel hs
    replace hB := hB.tr0 hs
    replace hb2 := hb2.tr0 hs
    replace hb3 := hb3.tr0 hs
    replace hb4 := hb4.tr0 hs
    replace hb6 := hb6.tr0 hs
    replace hb9 := hb9.tr0 hs
    clear hs
    refine ⟨_, rfl, ?_⟩
    refine wl_stW hb4 rfl rfl sz35_GLoose rfl oneA (fun w15 hq hs => ?_)
    replace hB := hB.tr1 hs lo4
    replace hb2 := hb2.tr1 hs om
    replace hb3 := hb3.tr1 hs om
    replace hb6 := hb6.tr1 hs om
    replace hb9 := hb9.tr1 hs om
    clear hs
    replace hb4 := hq
    refine x_nil (e_S (c_ret (e_Sr (e_Br (e_Sr ?_)))))
    refine e_LSr (e_Br (e_Br (e_Sr (e_LSr (e_Br ?_)))))
    refine e_Sr (fin1 (.inl rfl) rfl (rr_cell U35 rfl rfl hb4.range0 sz35_GLoose) ?_)
    exact ⟨ret_fl (hR'.trans (firstF_hit (c := 3) om hty dE)), hB⟩
   refine c_skip (e_S (c_seq (c_seq (c_region (wl (r_fa U30 sz3_GLoose dE rfl rfl rfl) ?_)))))
   refine wl (r_ld1 (v := .int _ _) U3 rfl rfl (hb9.cell rfl)) (wmI rfl (wl (r_leq rfl rfl) (x_nil (e_S ?_))))
   refine c_ifd rfl (fun c78 => ?_) (fun c78 => ?_)
   ·
    have hty := hP.trans (ln_ord hlj (show ¬ lnBad _ _ _ from c72) c78)
    refine c_seq (c_region (wmI rfl ?_))
    refine wl_cl fn37 (gfault_any _ _ _) rfl (fun e' w16 hr => ?_)
    obtain ⟨rfl, hs⟩ := hr
    replace hs := Same.of_bel hs
    replace hB := hB.tr0 hs
    replace hb2 := hb2.tr0 hs
    replace hb3 := hb3.tr0 hs
    replace hb4 := hb4.tr0 hs
    replace hb6 := hb6.tr0 hs
    replace hb9 := hb9.tr0 hs
    clear hs
    refine ⟨_, rfl, ?_⟩
    refine wl_stW hb4 rfl rfl sz35_GLoose rfl oneA (fun w17 hq hs => ?_)
    replace hB := hB.tr1 hs lo4
    replace hb2 := hb2.tr1 hs om
    replace hb3 := hb3.tr1 hs om
    replace hb6 := hb6.tr1 hs om
    replace hb9 := hb9.tr1 hs om
    clear hs
    replace hb4 := hq
    refine x_nil (e_S (c_ret (e_Sr (e_Br (e_Sr ?_)))))
    refine e_LSr (e_Br (e_Br (e_Sr (e_LSr (e_Br ?_)))))
    refine e_Sr (fin1 (.inl rfl) rfl (rr_cell U35 rfl rfl hb4.range0 sz35_GLoose) ?_)
    exact ⟨ret_fl (hR'.trans (firstF_hit (c := 13) om hty dE)), hB⟩
   have hP' := hP.trans (ln_next hlj (show ¬ lnBad _ _ _ from c72) c78)
   refine c_skip (e_S (c_region (wl (r_fa U30 sz3_GLoose dE rfl rfl rfl) (wl (r_ld1 (v := .int _ _) U3 rfl rfl (hb9.cell rfl)) (waI rfl ?_)))))
   refine x_nil (e_B (e_S (c_region (wl (r_add rfl rfl rfl om) (wmI rfl ?_)))))
   refine x_nil (e_LS ((gr[k]'hlt).ln.length - (j + 1)) om agA ?_)
   exact ⟨j + 1, _, by omega, rfl, rfl, rfl, hB, hb2, hb3, hb4, hb6, hP'⟩
  have hty0 := hP.trans (ln_end om)
  refine c_exit (e_Sx (e_LSx (e_Bx (e_B (e_S ?_)))))
  refine c_region (wl (r_add rfl rfl rfl om) (wmI rfl (x_nil (e_LS (gr.length - (k + 1)) om agA ?_))))
  exact ⟨k + 1, by omega, rfl, rfl, hB, hb2, hb3, hb4, hR'.trans (firstF_miss hlt hty0)⟩
 refine c_exit (e_Sx (e_LSx (e_Bx (e_S (c_seq ?_)))))
 refine c_region (wl (r_bd (vs := #[]) (cs := #[.int .i64 0, .int .i64 0]) (by simp) kR) ?_)
 refine wl_stW hb4 rfl rfl sz35_GLoose rfl oneA (fun w18 hq hs => ?_)
 replace hB := hB.tr1 hs lo4
 replace hb2 := hb2.tr1 hs om
 replace hb3 := hb3.tr1 hs om
 clear hs
 replace hb4 := hq
 refine x_nil (e_S (c_ret (fin1 (.inl rfl) rfl (rr_cell U35 rfl rfl hb4.range0 sz35_GLoose) ?_)))
 exact ⟨ret_fl (hR'.trans (firstF_end om)), hB⟩
theorem rloose_any (A B G : Option Addr) (c d cg : Nat) (l : List Ty) (fs : List Ft) (gr : List Nd) (w : World) (hG : NodesIn w G gr) : Calls Tryd.prog 72 #[.agg #[.slice A l.length c, .slice B fs.length d], .agg #[.slice G gr.length cg]] w fun e w' => e = .returned (flV (looseF l.length fs.length gr)) ∧ Bel w w' := by
 refine enter Tryd.func72 Tryd.ntmps72 rfl (Nat.le_of_ble_eq_true rfl) ?_
 have hB : Bel w w := Below.refl _ _
 refine c_seq (c_region ?_)
 refine wl_bx (v := .agg #[_, _]) (cs := #[_, _]) rfl rfl (fun b2 w1 hb2 hs hr => ?_)
 have lo2 := nLT (Bel.size hB) hr
 replace hB := hB.tr0 hs
 clear hs
 clear hr
 refine wl_bx (v := .agg #[_]) (cs := #[_]) rfl rfl (fun b3 w2 hb3 hs hr => ?_)
 have or_b2_b3 : b2 < b3 := nLL hb2.lt hr
 have lo3 := nLT (Bel.size hB) hr
 replace hB := hB.tr0 hs
 replace hb2 := hb2.tr0 hs
 clear hs
 clear hr
 refine wl_al (cs := #[.int .i64 0, .int .i64 0]) ze35_GLoose rfl (fun b4 w3 hb4 hs hr => ?_)
 have or_b2_b4 : b2 < b4 := nLL hb2.lt hr
 have or_b3_b4 : b3 < b4 := nLL hb3.lt hr
 have lo4 := nLT (Bel.size hB) hr
 replace hB := hB.tr0 hs
 replace hb2 := hb2.tr0 hs
 replace hb3 := hb3.tr0 hs
 clear hs
 clear hr
 refine x_nil (e_S (c_seq (c_seq ?_)))
 refine c_cut1 [9, 10, 11, 12, 13, 14, 15, 16, 17, 18] 18 (.bool (decide (gr.length = 0 ∨ 60 < gr.length))) nu ?_ (fun gq => ?_)
 ·
  refine c_region (wl (r_fa U28 sz26 dE rfl rfl rfl) (wl (r_ld1 (v := .slice _ _ _) U26 rfl rfl (hb3.cell rfl)) (wl (r_len U26 rfl) (wl (r_eql rfl rfl) (wmB rfl ?_)))))
  refine wl_casesd 13 rfl (fun g13 => ?_) (fun g13 => ?_)
  ·
   refine wlgn 13 rfl rfl rfl (wlgn 13 rfl rfl rfl (wlgn 13 rfl rfl rfl (wlgn 13 rfl rfl rfl (wl (r_pt (v := .bool _) rfl rfl) ?_))))
   refine x_nil (e_R ⟨rfl, agA, ?_⟩)
   exact clA
  refine wl_gd 13 rfl rfl (wl (r_fa U28 sz26 dE rfl rfl rfl) (wl_gd 13 rfl rfl (wl (r_ld1 (v := .slice _ _ _) U26 rfl rfl (hb3.cell rfl)) (wl_gd 13 rfl rfl (wl (r_len U26 rfl) ?_)))))
  refine wl_gd 13 rfl rfl (wl (r_gtr rfl rfl) (wl (r_pf (v := .bool _) rfl rfl) ?_))
  refine x_nil (e_R ⟨rfl, agA, ?_⟩)
  exact clA
 refine e_S ?_
 refine c_ifd rfl (fun c18 => ?_) (fun c18 => ?_)
 ·
  refine c_seq (c_region (wl (r_bd2 (v0 := .int _ _) (v1 := .int _ _) (fun v0 v1 => #[v0, v1]) rfl rfl kR) ?_))
  refine wl_stW hb4 rfl rfl sz35_GLoose rfl oneA (fun w4 hq hs => ?_)
  replace hB := hB.tr1 hs lo4
  replace hb2 := hb2.tr1 hs om
  replace hb3 := hb3.tr1 hs om
  clear hs
  replace hb4 := hq
  refine x_nil (e_S (c_ret (e_Sr (fin1 (.inl rfl) rfl (rr_cell U35 rfl rfl hb4.range0 sz35_GLoose) ?_))))
  exact ⟨ret_fl (by simp only [looseF, if_pos c18]), hB⟩
 have hR := Lib.hid (show looseF l.length fs.length gr = firstF (looseN l.length fs.length gr) 0 (gr.length - 0) by simp only [looseF, if_neg c18, Nat.sub_zero])
 refine c_skip (e_S (c_seq (c_seq (c_region (wl (r_fa U28 sz26 dE rfl rfl rfl) ?_)))))
 refine wl (r_ld1 (v := .slice _ _ _) U26 rfl rfl (hb3.cell rfl)) (wl (r_len U26 rfl) (wmI rfl (x_nil (e_S (c_block ?_)))))
 refine c_loopS [5, 6, 7, 8, 23, 24, 25, 26, 27, 28, 29, 30, 31, 32, 33, 34, 35, 36, 37, 38, 39, 40, 41, 42, 43, 44, 45, 46, 47, 48, 49, 50, 51, 52, 53, 54, 55, 56, 57, 58, 59, 60, 61, 62, 63, 64, 65, 66, 67, 68, 69, 70, 71, 72, 73, 74, 75, 76, 77, 78, 79, 80, 81, 82, 83, 84, 85, 86, 87, 88, 89, 90, 91, 92] (fun m g w' => ∃ k : Nat, k ≤ gr.length ∧ m = gr.length - k ∧ g 23 = .int .i64 k ∧ Bel w w' ∧ Blk w' b2 25 #[.slice A l.length c, .slice B fs.length d] ∧ Blk w' b3 28 #[.slice G gr.length cg] ∧ Blk w' b4 35 #[.int .i64 0, .int .i64 0] ∧ looseF l.length fs.length gr = firstF (looseN l.length fs.length gr) k (gr.length - k)) (gr.length) ?_ (fun m g4 w5 hI => ?_)
 ·
  exact ⟨0, Nat.zero_le _, rfl, rfl, hB, hb2, hb3, hb4, hR.out⟩
 obtain ⟨k, hk, hm, hk0, hB, hb2, hb3, hb4, hR'⟩ := hI
 refine c_know 23 (.int .i64 k) hk0 nu (c_seq (c_region (wl (r_lss rfl rfl) (x_nil (e_S ?_)))))
 refine c_seq ?_
 refine c_ifd rfl (fun c24 => ?_) (fun c24 => ?_)
 ·
  have hlt : k < gr.length := by omega
  obtain ⟨nb, no, LA, lc, rfl, hnb, hnr, hln⟩ := hG.at_ hB hlt
  have hmx := hln.1
  unfold maxI at hmx
  refine c_skip (e_S (c_seq (c_block (c_seq (c_region ?_)))))
  refine wmI rfl (wl (r_ia (i := k) U26 sz33 rfl rfl om rfl) (wl (r_ldS U33 rfl rfl hnr sz33) ?_))
  refine wl_al (cs := #[.int .i64 0, .slice none 0 0]) ze33 rfl (fun b6 w6 hb6 hs hr => ?_)
  have or_b2_b6 : b2 < b6 := nLL hb2.lt hr
  have or_b3_b6 : b3 < b6 := nLL hb3.lt hr
  have or_b4_b6 : b4 < b6 := nLL hb4.lt hr
  have lo6 := nLT (Bel.size hB) hr
  replace hB := hB.tr0 hs
  replace hb2 := hb2.tr0 hs
  replace hb3 := hb3.tr0 hs
  replace hb4 := hb4.tr0 hs
  clear hs
  clear hr
  refine waI rfl ?_
  refine wl_stW hb6 rfl rfl sz33 rfl oneA (fun w7 hq hs => ?_)
  replace hB := hB.tr1 hs lo6
  replace hb2 := hb2.tr1 hs om
  replace hb3 := hb3.tr1 hs om
  replace hb4 := hb4.tr1 hs om
  clear hs
  replace hb6 := hq
  refine x_nil (e_S (c_seq (c_seq ?_)))
  refine c_cut1 [28, 29, 30, 31, 32, 33, 34, 35, 36, 37, 38] 38 (.bool (decide ((gr[k]'hlt).ty < 0 ∨ (l.length : Int) ≤ (gr[k]'hlt).ty))) nu ?_ (fun gq => ?_)
  ·
   refine c_region (wl (r_fa U33 sz3_GLoose dE rfl rfl rfl) (wl (r_ld1 (v := .int _ _) U3 rfl rfl (hb6.cell rfl)) (wl (r_lss rfl rfl) (wmB rfl ?_))))
   refine wl_casesd 31 rfl (fun g31 => ?_) (fun g31 => ?_)
   ·
    refine wlgn 31 rfl rfl rfl (wlgn 31 rfl rfl rfl (wlgn 31 rfl rfl rfl (wlgn 31 rfl rfl rfl (wlgn 31 rfl rfl rfl (wlgn 31 rfl rfl rfl ?_)))))
    refine wl (r_pt (v := .bool _) rfl rfl) ?_
    refine x_nil (e_R ⟨rfl, agA, ?_⟩)
    exact clA
   refine wl_gd 31 rfl rfl (wl (r_fa U33 sz3_GLoose dE rfl rfl rfl) (wl_gd 31 rfl rfl (wl (r_ld1 (v := .int _ _) U3 rfl rfl (hb6.cell rfl)) (wl_gd 31 rfl rfl (wl (r_fa U25 sz22_GLoose dE rfl rfl rfl) ?_)))))
   refine wl_gd 31 rfl rfl (wl (r_ld1 (v := .slice _ _ _) U22 rfl rfl (hb2.cell rfl)) (wl_gd 31 rfl rfl (wl (r_len U22 rfl) (wl_gd 31 rfl rfl (wl (r_geq rfl rfl) ?_)))))
   refine wl (r_pf (v := .bool _) rfl rfl) ?_
   refine x_nil (e_R ⟨rfl, agA, ?_⟩)
   exact clA
  refine e_S ?_
  refine c_ifd rfl (fun c38 => ?_) (fun c38 => ?_)
  ·
   have hty := looseN_ty (nf := fs.length) hlt c38
   refine c_seq (c_region (wmI rfl (wl (r_bd2 (v0 := .int _ _) (v1 := .int _ _) (fun v0 v1 => #[v0, v1]) rfl rfl kR) ?_)))
   refine wl_stW hb4 rfl rfl sz35_GLoose rfl oneA (fun w8 hq hs => ?_)
   replace hB := hB.tr1 hs lo4
   replace hb2 := hb2.tr1 hs om
   replace hb3 := hb3.tr1 hs om
   replace hb6 := hb6.tr1 hs om
   clear hs
   replace hb4 := hq
   refine x_nil (e_S (c_ret (e_Sr (e_Br (e_Sr ?_)))))
   refine e_LSr (e_Br (e_Sr (fin1 (.inl rfl) rfl (rr_cell U35 rfl rfl hb4.range0 sz35_GLoose) ?_)))
   exact ⟨ret_fl (hR'.trans (firstF_hit (c := 3) om hty dE)), hB⟩
  refine c_skip (e_S (c_seq (c_region (wl (r_fa U33 sz31 dE rfl rfl rfl) (wl (r_ld1 (v := .slice _ _ _) U31 rfl rfl (hb6.cell rfl)) ?_)))))
  refine wl (r_len U31 rfl) (wmI rfl (x_nil (e_S (c_block ?_))))
  refine c_loopS [7, 8, 44, 45, 46, 47, 48, 49, 50, 51, 52, 53, 54, 55, 56, 57, 58, 59, 60, 61, 62, 63, 64, 65, 66, 67, 68, 69, 70, 71, 72, 73, 74, 75, 76, 77, 78, 79, 80, 81, 82, 83, 84, 85, 86, 87, 88, 89, 90, 91] (fun m g w' => ∃ (j : Nat) (last : Int), j ≤ (gr[k]'hlt).ln.length ∧ m = (gr[k]'hlt).ln.length - j ∧ g 44 = .int .i64 j ∧ Bel w w' ∧ Blk w' b2 25 #[.slice A l.length c, .slice B fs.length d] ∧ Blk w' b3 28 #[.slice (some ⟨nb, no, none⟩) gr.length cg] ∧ Blk w' b4 35 #[.int .i64 0, .int .i64 0] ∧ Blk w' b6 33 #[.int .i64 (gr[k]'hlt).ty, .slice LA (gr[k]'hlt).ln.length lc] ∧ (j = 0 → last = -1) ∧ (∀ h : 0 < j ∧ j - 1 < (gr[k]'hlt).ln.length, last = ((gr[k]'hlt).ln[j - 1]'h.2).1) ∧ looseN l.length fs.length gr k = lnFault fs.length gr.length last ((gr[k]'hlt).ln.drop j)) ((gr[k]'hlt).ln.length) ?_ (fun m g9 w9 hI => ?_)
  ·
   exact ⟨0, -1, Nat.zero_le _, rfl, rfl, hB, hb2, hb3, hb4, hb6, fun _ => rfl, fun h => by omega, looseN_ln hlt c38⟩
  obtain ⟨j, last, hj, hmj, h44, hB, hb2, hb3, hb4, hb6, hl0, hl1, hP⟩ := hI
  refine c_know 44 (.int .i64 j) h44 nu (c_seq (c_region (wl (r_lss rfl rfl) (x_nil (e_S ?_)))))
  refine c_seq ?_
  refine c_ifd rfl (fun c45 => ?_) (fun c45 => ?_)
  ·
   have hlj : j < (gr[k]'hlt).ln.length := by omega
   have hln' := hln
   obtain ⟨lb, lof, rfl, hlb, hlr⟩ := hln.at_ hB hlj
   have hpd : ∀ h : j - 1 < (gr[k]'hlt).ln.length, w.rangeAt lb (lof + (j - 1) * 2) [.int .i64 ((gr[k]'hlt).ln[j - 1]'h).1, .int .i64 ((gr[k]'hlt).ln[j - 1]'h).2] := fun h => by
     obtain ⟨pb, po, he, hpb, hpr⟩ := hln'.at_ (Below.refl _ _ : Bel w w) h
     cases he
     exact hpr
   refine c_skip (e_S (c_seq (c_block (c_seq (c_region ?_)))))
   refine wmI rfl (wl (r_ia (i := j) U31 sz30 rfl rfl om rfl) (wl (r_ldS U30 rfl rfl hlr sz30) ?_))
   refine wl_al (cs := #[.int .i64 0, .int .i64 0]) ze30 rfl (fun b8 w10 hb8 hs hr => ?_)
   have or_b2_b8 : b2 < b8 := nLL hb2.lt hr
   have or_b3_b8 : b3 < b8 := nLL hb3.lt hr
   have or_b4_b8 : b4 < b8 := nLL hb4.lt hr
   have or_b6_b8 : b6 < b8 := nLL hb6.lt hr
   have lo8 := nLT (Bel.size hB) hr
   replace hB := hB.tr0 hs
   replace hb2 := hb2.tr0 hs
   replace hb3 := hb3.tr0 hs
   replace hb4 := hb4.tr0 hs
   replace hb6 := hb6.tr0 hs
   clear hs
   clear hr
   refine waI rfl ?_
   refine wl_stW hb8 rfl rfl sz30 rfl oneA (fun w11 hq hs => ?_)
   replace hB := hB.tr1 hs lo8
   replace hb2 := hb2.tr1 hs om
   replace hb3 := hb3.tr1 hs om
   replace hb4 := hb4.tr1 hs om
   replace hb6 := hb6.tr1 hs om
   clear hs
   replace hb8 := hq
   refine x_nil (e_S (c_seq (c_seq ?_)))
   refine c_cut1 [49, 50, 51, 52, 53, 54, 55, 56, 57, 58, 59, 60, 61, 62, 63, 64, 65, 66, 67, 68, 69, 70, 71, 72] 72 (.bool (decide (((gr[k]'hlt).ln[j]'hlj).1 < 0 ∨ (fs.length : Int) ≤ ((gr[k]'hlt).ln[j]'hlj).1 ∨ ((gr[k]'hlt).ln[j]'hlj).2 < 0 ∨ (gr.length : Int) ≤ ((gr[k]'hlt).ln[j]'hlj).2))) nu ?_ (fun gq => ?_)
   ·
    refine c_region (wl (r_fa U30 sz3_GLoose dE rfl rfl rfl) (wl (r_ld1 (v := .int _ _) U3 rfl rfl (hb8.cell rfl)) (wl (r_lss rfl rfl) (wmB rfl ?_))))
    refine wl_casesd 52 rfl (fun g52 => ?_) (fun g52 => ?_)
    ·
     refine wlgn 52 rfl rfl rfl (wlgn 52 rfl rfl rfl (wlgn 52 rfl rfl rfl (wlgn 52 rfl rfl rfl (wlgn 52 rfl rfl rfl (wlgn 52 rfl rfl rfl ?_)))))
     refine wl (r_pt (v := .bool _) rfl rfl) (wmB rfl (wlgn 60 rfl rfl rfl (wlgn 60 rfl rfl rfl (wlgn 60 rfl rfl rfl (wl (r_pt (v := .bool _) rfl rfl) ?_)))))
     refine wmB rfl (wlgn 65 rfl rfl rfl (wlgn 65 rfl rfl rfl (wlgn 65 rfl rfl rfl (wlgn 65 rfl rfl rfl (wlgn 65 rfl rfl rfl ?_)))))
     refine wlgn 65 rfl rfl rfl (wl (r_pt (v := .bool _) rfl rfl) ?_)
     refine x_nil (e_R ⟨rfl, agA, ?_⟩)
     exact clA
    refine wl_gd 52 rfl rfl (wl (r_fa U30 sz3_GLoose dE rfl rfl rfl) (wl_gd 52 rfl rfl (wl (r_ld1 (v := .int _ _) U3 rfl rfl (hb8.cell rfl)) (wl_gd 52 rfl rfl (wl (r_fa U25 sz23_GLoose dE rfl rfl rfl) ?_)))))
    refine wl_gd 52 rfl rfl (wl (r_ld1 (v := .slice _ _ _) U23 rfl rfl (hb2.cell rfl)) (wl_gd 52 rfl rfl (wl (r_len U23 rfl) (wl_gd 52 rfl rfl (wl (r_geq rfl rfl) ?_)))))
    refine wl (r_pf (v := .bool _) rfl rfl) (wmB rfl ?_)
    refine wl_casesd 60 rfl (fun g60 => ?_) (fun g60 => ?_)
    ·
     refine wlgn 60 rfl rfl rfl (wlgn 60 rfl rfl rfl (wlgn 60 rfl rfl rfl (wl (r_pt (v := .bool _) rfl rfl) (wmB rfl (wlgn 65 rfl rfl rfl ?_)))))
     refine wlgn 65 rfl rfl rfl (wlgn 65 rfl rfl rfl (wlgn 65 rfl rfl rfl (wlgn 65 rfl rfl rfl (wlgn 65 rfl rfl rfl (wl (r_pt (v := .bool _) rfl rfl) ?_)))))
     refine x_nil (e_R ⟨rfl, agA, ?_⟩)
     exact clA
    refine wl_gd 60 rfl rfl (wl (r_fa U30 sz3_GLoose dE rfl rfl rfl) (wl_gd 60 rfl rfl (wl (r_ld1 (v := .int _ _) U3 rfl rfl (hb8.cell rfl)) (wl_gd 60 rfl rfl (wl (r_lss rfl rfl) ?_)))))
    refine wl (r_pf (v := .bool _) rfl rfl) (wmB rfl ?_)
    refine wl_casesd 65 rfl (fun g65 => ?_) (fun g65 => ?_)
    ·
     refine wlgn 65 rfl rfl rfl (wlgn 65 rfl rfl rfl (wlgn 65 rfl rfl rfl (wlgn 65 rfl rfl rfl (wlgn 65 rfl rfl rfl (wlgn 65 rfl rfl rfl ?_)))))
     refine wl (r_pt (v := .bool _) rfl rfl) ?_
     refine x_nil (e_R ⟨rfl, agA, ?_⟩)
     exact clA
    refine wl_gd 65 rfl rfl (wl (r_fa U30 sz3_GLoose dE rfl rfl rfl) (wl_gd 65 rfl rfl (wl (r_ld1 (v := .int _ _) U3 rfl rfl (hb8.cell rfl)) (wl_gd 65 rfl rfl (wl (r_fa U28 sz26 dE rfl rfl rfl) ?_)))))
    refine wl_gd 65 rfl rfl (wl (r_ld1 (v := .slice _ _ _) U26 rfl rfl (hb3.cell rfl)) (wl_gd 65 rfl rfl (wl (r_len U26 rfl) (wl_gd 65 rfl rfl (wl (r_geq rfl rfl) ?_)))))
    refine wl (r_pf (v := .bool _) rfl rfl) ?_
    refine x_nil (e_R ⟨rfl, agA, ?_⟩)
    exact clA
   refine e_S ?_
   refine c_ifd rfl (fun c72 => ?_) (fun c72 => ?_)
   ·
    have hty := hP.trans (ln_bad hlj (show lnBad _ _ _ from c72))
    refine c_seq (c_region (wmI rfl (wl (r_bd2 (v0 := .int _ _) (v1 := .int _ _) (fun v0 v1 => #[v0, v1]) rfl rfl kR) ?_)))
    refine wl_stW hb4 rfl rfl sz35_GLoose rfl oneA (fun w12 hq hs => ?_)
    replace hB := hB.tr1 hs lo4
    replace hb2 := hb2.tr1 hs om
    replace hb3 := hb3.tr1 hs om
    replace hb6 := hb6.tr1 hs om
    replace hb8 := hb8.tr1 hs om
    clear hs
    replace hb4 := hq
    refine x_nil (e_S (c_ret (e_Sr (e_Br (e_Sr ?_)))))
    refine e_LSr (e_Br (e_Br (e_Sr (e_LSr (e_Br ?_)))))
    refine e_Sr (fin1 (.inl rfl) rfl (rr_cell U35 rfl rfl hb4.range0 sz35_GLoose) ?_)
    exact ⟨ret_fl (hR'.trans (firstF_hit (c := 3) om hty dE)), hB⟩
   refine c_skip (e_S (c_seq ?_))
   refine c_still kR kR (fun w13 hs => ?_)
   replace hB := hB.tr0 hs
   replace hb2 := hb2.tr0 hs
   replace hb3 := hb3.tr0 hs
   replace hb4 := hb4.tr0 hs
   replace hb6 := hb6.tr0 hs
   replace hb8 := hb8.tr0 hs
   clear hs
   refine ws (r_mv (v := .int _ _) rfl) (ws (r_gtr rfl rfl) (ws (r_mv (v := .bool _) rfl) ?_))
   refine ws_cases 77 rfl (fun g77 => ?_) (fun g77 => ?_)
   ·
    refine wsgy 77 rfl rfl (r_fa U30 sz3_GLoose dE rfl rfl rfl) (wsgy 77 rfl rfl (r_ld1 (v := .int _ _) U3 rfl rfl (hb8.cell rfl)) (wsgy 77 rfl rfl (r_fa U33 sz31 dE rfl rfl rfl) (wsgy 77 rfl rfl (r_ld1 (v := .slice _ _ _) U31 rfl rfl (hb6.cell rfl)) (wsgy 77 rfl rfl (r_mv (v := .int _ _) rfl) (wsgy 77 rfl rfl (r_sub (c := ((j - 1 : Nat) : Int)) rfl rfl om om) ?_)))))
    refine wsgy 77 rfl rfl (r_ia (i := j - 1) U31 sz30 rfl rfl om rfl) (wsgy 77 rfl rfl (r_fa U30 sz3_GLoose dE rfl rfl rfl) (wsgy 77 rfl rfl (r_ld1 (v := .int _ _) U3 rfl rfl (hB.cell hlb (hpd om 0 _ rfl))) (wsgy 77 rfl rfl (r_leq rfl rfl) (ws (r_pt (v := .bool _) rfl rfl) (s_nil ?_)))))
    refine e_S ?_
    refine c_ifd rfl (fun c88 => ?_) (fun c88 => ?_)
    ·
     have hty := hP.trans (ln_ord hlj (show ¬ lnBad _ _ _ from c72) (by have := hl1 ⟨by omega, by omega⟩; omega))
     refine c_seq (c_region (wmI rfl (wl (r_bd2 (v0 := .int _ _) (v1 := .int _ _) (fun v0 v1 => #[v0, v1]) rfl rfl kR) ?_)))
     refine wl_stW hb4 rfl rfl sz35_GLoose rfl oneA (fun w14 hq hs => ?_)
     replace hB := hB.tr1 hs lo4
     replace hb2 := hb2.tr1 hs om
     replace hb3 := hb3.tr1 hs om
     replace hb6 := hb6.tr1 hs om
     replace hb8 := hb8.tr1 hs om
     clear hs
     replace hb4 := hq
     refine x_nil (e_S (c_ret (e_Br (e_Sr (e_LSr ?_)))))
     refine e_Br (e_Br (e_Sr (e_LSr (e_Br (e_Sr ?_)))))
     refine fin1 (.inl rfl) rfl (rr_cell U35 rfl rfl hb4.range0 sz35_GLoose) ?_
     exact ⟨ret_fl (hR'.trans (firstF_hit (c := 13) om hty dE)), hB⟩
    refine c_skip (e_B (e_S (c_region (wl (r_add rfl rfl rfl om) (wmI rfl ?_)))))
    refine x_nil (e_LS ((gr[k]'hlt).ln.length - (j + 1)) om agA ?_)
    have hnl : ¬ ((gr[k]'hlt).ln[j]'hlj).1 ≤ last := fun h => by
      by_cases e : j = 0
      · have := hl0 e; omega
      · have := hl1 ⟨by omega, by omega⟩
        omega
    exact ⟨j + 1, ((gr[k]'hlt).ln[j]'hlj).1, by omega, rfl, rfl, hB, hb2, hb3, hb4, hb6, fun h => by omega, fun h => rfl, hP.trans (ln_next hlj (show ¬ lnBad _ _ _ from c72) hnl)⟩
   refine wsgn 77 rfl rfl rfl (wsgn 77 rfl rfl rfl (wsgn 77 rfl rfl rfl (wsgn 77 rfl rfl rfl (wsgn 77 rfl rfl rfl (wsgn 77 rfl rfl rfl ?_)))))
   refine wsgn 77 rfl rfl rfl (wsgn 77 rfl rfl rfl (wsgn 77 rfl rfl rfl (wsgn 77 rfl rfl rfl (ws (r_pf (v := .bool _) rfl rfl) (s_nil ?_)))))
   refine e_S (c_no rfl (c_skip (e_B (e_S (c_region ?_)))))
   refine wl (r_add rfl rfl rfl om) (wmI rfl (x_nil (e_LS ((gr[k]'hlt).ln.length - (j + 1)) om agA ?_)))
   have hnl : ¬ ((gr[k]'hlt).ln[j]'hlj).1 ≤ last := fun h => by
     by_cases e : j = 0
     · have := hl0 e; omega
     · have := hl1 ⟨by omega, by omega⟩
       omega
   exact ⟨j + 1, ((gr[k]'hlt).ln[j]'hlj).1, by omega, rfl, rfl, hB, hb2, hb3, hb4, hb6, fun h => by omega, fun h => rfl, hP.trans (ln_next hlj (show ¬ lnBad _ _ _ from c72) hnl)⟩
  have hty0 := hP.trans (ln_end om)
  refine c_exit (e_Sx (e_LSx (e_Bx (e_B (e_S ?_)))))
  refine c_region (wl (r_add rfl rfl rfl om) (wmI rfl (x_nil (e_LS (gr.length - (k + 1)) om agA ?_))))
  exact ⟨k + 1, by omega, rfl, rfl, hB, hb2, hb3, hb4, hR'.trans (firstF_miss hlt hty0)⟩
 refine c_exit (e_Sx (e_LSx (e_Bx (e_S (c_seq ?_)))))
 refine c_region (wl (r_bd (vs := #[]) (cs := #[.int .i64 0, .int .i64 0]) (by simp) kR) ?_)
 refine wl_stW hb4 rfl rfl sz35_GLoose rfl oneA (fun w15 hq hs => ?_)
 replace hB := hB.tr1 hs lo4
 replace hb2 := hb2.tr1 hs om
 replace hb3 := hb3.tr1 hs om
 clear hs
 replace hb4 := hq
 refine x_nil (e_S (c_ret (fin1 (.inl rfl) rfl (rr_cell U35 rfl rfl hb4.range0 sz35_GLoose) ?_)))
 exact ⟨ret_fl (hR'.trans (firstF_end om)), hB⟩
end Go.Proofs.YtegngekpmpdngaaDoor
