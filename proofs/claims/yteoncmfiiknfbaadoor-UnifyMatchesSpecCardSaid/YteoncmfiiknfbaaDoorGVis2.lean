/- What these functions of the program compute, at every world: slices.Clone[[]int,int], glosswright/glosswrightref3.visit. -/
import Derived.Test.YteoncmfiiknfbaaDoorGNodes
namespace Go.Proofs.YteoncmfiiknfbaaDoor
open Go.RowKit

theorem fn64 : callable Tryd.prog 64 = true := by kernel_rfl
theorem fn73 : callable Tryd.prog 73 = true := by kernel_rfl
theorem clone_any (A : Option Addr) (c bn bd : Nat) (o : List Nat) (w : World) (hO : OrdF w bn bd A o) (hl : o.length ≤ 1000000) : Calls Tryd.prog 73 #[.slice A o.length c] w fun e w' => (∃ A' cap', e = .returned (.slice A' o.length cap') ∧ Own w' w.heap.size 3 1 A' o.length cap' (oV o)) ∧ Bel w w' := by
 refine enter Tryd.func73 Tryd.ntmps73 rfl (Nat.le_of_ble_eq_true rfl) ?_
 have hB : Bel w w := Below.refl _ _
 refine c_seq (c_region (wl (r_as (v := .slice _ _ _) rfl) (x_nil (e_S (c_seq ?_)))))
 refine c_seq (c_region (wl (r_mv (v := .slice _ _ _) rfl) (wl (r_eqlNil Tryd.underlying51 rfl rfl) (x_nil (e_S ?_)))))
 refine c_if rfl (fun c4 => ?_) (fun c4 => ?_)
 ·
  have hn : o = [] := by
    rcases hO with h | ⟨_, b, h, _⟩
    · exact h.1
    · rw [h] at c4; cases c4
  subst hn
  refine c_seq (c_region (wl (r_as (v := .slice _ _ _) rfl) (x_nil (e_S (c_ret ?_)))))
  refine e_Sr (fin1 (.inl rfl) rfl rfl ?_)
  exact ⟨⟨none, 0, rfl, Own.nil _ _ _ _⟩, hB⟩
 obtain ⟨hne, b, rfl, hbn, hbd, hbl, hc⟩ : o ≠ [] ∧ ∃ b, A = some ⟨b, 0, none⟩ ∧ b ≠ bn ∧ b < bd ∧ b < w.heap.size ∧ ∀ k (hk : k < o.length), w.cell? ⟨b, 0 + k, none⟩ = some (.int .i64 (o[k] : Nat)) := by
   rcases hO with h | h
   · rw [h.2] at c4; cases c4
   · exact h
 have hpos := List.length_pos_iff.2 hne
 refine c_skip (e_S (c_seq (c_region ?_)))
 refine wl_bs0 Tryd.underlying51 sz3_GLoose (fun b5 w1 hb5 hs hr => ?_)
 have lo5 := Nat.le_trans (Bel.size hB) hr
 replace hB := hB.tr0 hs
 clear hs
 clear hr
 refine wl (r_mv (v := .slice _ _ _) rfl) ?_
 have hown := own_blk (sz := 1) (m := 0) hb5 (Nat.le_refl b5) rfl (by decide)
 refine wl_appC (b := b) (o' := 0) (news := oV o) Tryd.underlying51 in3 rfl (by decide) hown rfl rfl (fun j u hj => ?_) (by simp [oV]) (by simp [oV, List.all_eq_true]; intros; rfl) hpos (by omega) (by omega) (Nat.le_of_lt hb5.lt) (fun g7 cap7 w9 ho7 hs hg => ?_)
 · simp only [oV, List.getElem?_map, Option.map_eq_some_iff] at hj
   obtain ⟨x, hx, rfl⟩ := hj
   obtain ⟨hk, rfl⟩ := List.getElem?_eq_some_iff.1 hx
   exact hB.cell hbl (hc j hk)
 have hB9 : Bel w w9 := hB.tr hs (fun g hg => by cases List.mem_singleton.1 hg; exact lo5)
 refine wl (r_as (v := .slice _ _ _) rfl) (x_nil (e_S (c_ret (fin1 (.inl rfl) rfl rfl ?_))))
 refine ⟨⟨some ⟨g7, 0, none⟩, cap7, ?_, ?_⟩, hB9⟩
 · show Ending.returned (.slice _ (0 + o.length) _) = _
   rw [Nat.zero_add]
 · have h := ho7.low lo5
   rw [Nat.zero_add] at h
   exact h

set_option maxHeartbeats 2000000 in
theorem visit2_step {w0 : World} {G : Option Addr} {cg nf bn : Nat} {gr : List Nd} (hG : NodesIn w0 G gr) (hk : GOk2 nf gr) (l0n : w0.heap.size ≤ bn) {o : List Nat} {A : Option Addr} {cap : Nat} {w : World} (hB : Bel w0 w) (hok : OOk gr.length o) (hbn : Blk w bn 3 (row gr.length (fun x => .int .i64 (numO o x)))) (hO : OrdF w bn w.heap.size A o) {i : Nat} (hin : i < gr.length) (IH : ∀ (t : Nat) (o2 : List Nat) (A2 : Option Addr) (cap2 : Nat) (w2 : World), lackN gr.length (memB o2) < lackN gr.length (memB o) → t < gr.length → Bel w0 w2 → OOk gr.length o2 → Blk w2 bn 3 (row gr.length (fun x => .int .i64 (numO o2 x))) → OrdF w2 bn w2.heap.size A2 o2 → Calls Tryd.prog 64 #[.agg #[.slice G gr.length cg], .int .i64 (t : Nat), .slice (some ⟨bn, 0, none⟩) gr.length gr.length, .slice A2 (o2).length cap2] w2 fun e w' => ∃ o' A' cap', DL gr [t] o2 o' ∧ e = .returned (.slice A' o'.length cap') ∧ Blk w' bn 3 (row gr.length (fun x => .int .i64 (numO o' x))) ∧ OrdF w' bn w'.heap.size A' o' ∧ Same [bn] w2 w') : Calls Tryd.prog 64 #[.agg #[.slice G gr.length cg], .int .i64 (i : Nat), .slice (some ⟨bn, 0, none⟩) gr.length gr.length, .slice A (o).length cap] w fun e w' => ∃ o' A' cap', DL gr [i] o o' ∧ e = .returned (.slice A' o'.length cap') ∧ Blk w' bn 3 (row gr.length (fun x => .int .i64 (numO o' x))) ∧ OrdF w' bn w'.heap.size A' o' ∧ Same [bn] w w' := by
 have hSm : Same [bn] w w ∧ w.heap.size ≤ w.heap.size := ⟨Same.refl _ _, Nat.le_refl _⟩
 obtain ⟨bd, hbde⟩ : ∃ b, b = w.heap.size := ⟨_, rfl⟩
 rw [← hbde] at hO
 have hbd : bd ≤ w.heap.size := Nat.le_of_eq hbde
 have hn6 := hk.le
 have hrg := succ_rng2 hk
 have hol := hok.cnt
 have hnl := hbn.lt
 refine enter Tryd.func64 Tryd.ntmps64 rfl (Nat.le_of_ble_eq_true rfl) (c_seq (c_region ?_))
 refine wl_bx (v := .agg #[_]) (cs := #[_]) rfl rfl (fun b4 w1 hb4 hs hr => ?_)
 have or_bn_b4 : bn < b4 := Nat.lt_of_lt_of_le hbn.lt hr
 have or_hSm_b4 := (Nat.le_trans hSm.2 hr)
 have or_hbd_b4 := (Nat.le_trans hbd hr)
 have lo4 := Nat.le_trans (Bel.size hB) hr
 replace hB := hB.tr0 hs
 replace hbn := hbn.tr0 hs
 replace hO := hO.tr hs (by simp)
 replace hSm := And.intro (hSm.1.freshL hs (by simp)) (Nat.le_trans hSm.2 (Same.size hs))
 replace hbd := Nat.le_trans hbd (Same.size hs)
 clear hs
 clear hr
 refine wl (r_as (v := .slice _ _ _) rfl) (x_nil (e_S (c_seq (c_seq (c_region ?_)))))
 refine wl (r_mv (v := .slice _ _ _) rfl) (wl (r_mv (v := .int _ _) rfl) (wl (r_ia (i := i) Tryd.underlying51 sz3_GLoose rfl rfl hin rfl) (wl (r_ld1 (v := .int _ _) Tryd.underlying3 rfl rfl (hbn.cell (row_get hin))) (wl (r_geq rfl rfl) (x_nil ?_)))))
 refine e_S ?_
 refine c_ifd rfl (fun c15 => ?_) (fun c15 => ?_)
 ·
  refine c_seq (c_region (wl (r_mv (v := .slice _ _ _) rfl) (wl (r_as (v := .slice _ _ _) rfl) (x_nil (e_S ?_)))))
  refine c_ret (e_Sr (fin1 (.inl rfl) rfl rfl ?_))
  exact ⟨o, A, cap, .old (numO_pos c15) .nil, rfl, hbn, hO.up hbd, hSm.1⟩
 have hni := numO_neg c15
 have hok2 := hok.snoc hin hni
 have hol2 := hok2.cnt
 refine c_skip (e_S (c_seq (c_region (wl (r_mv (v := .slice _ _ _) rfl) (wl (r_mv (v := .int _ _) rfl) ?_)))))
 refine wl (r_mv (v := .slice _ _ _) rfl) (wl (r_len Tryd.underlying51 rfl) (wl (r_ia (i := i) Tryd.underlying51 sz3_GLoose rfl rfl hin rfl) ?_))
 refine wl_st1 (v := .int _ _) hbn rfl rfl sz3_GLoose (by rw [row_size]; omega) rfl row_set (fun w2 hq hs => ?_)
 replace hB := hB.tr1 hs l0n
 replace hO := hO.tr hs (fun g hg => by have h1 := List.mem_singleton.1 hg; omega)
 replace hSm := And.intro (hSm.1.freshL hs (fun g hg => by have h1 := List.mem_singleton.1 hg; first | (left; rw [h1]; simp; done) | (right; omega))) (Nat.le_trans hSm.2 (Same.size hs))
 replace hbd := Nat.le_trans hbd (Same.size hs)
 replace hb4 := hb4.tr1 hs (by omega)
 clear hs
 replace hbn := hq
 rw [row_num hni] at hbn
 refine x_nil (e_S (c_seq ?_))
 obtain ⟨bq, hbq⟩ : ∃ b, b = w2.heap.size := ⟨_, rfl⟩
 have hqz : bq ≤ w2.heap.size := Nat.le_of_eq hbq
 have lq4 : b4 < bq := by rw [hbq]; exact hb4.lt
 have lqn : bn < bq := by rw [hbq]; exact hbn.lt
 have hbd0 : bd ≤ bq := by rw [hbq]; exact hbd
 have hSz : w.heap.size ≤ bq := by rw [hbq]; exact hSm.2
 have hB0 : w0.heap.size ≤ bq := by rw [hbq]; exact Bel.size hB
 refine c_region (wl (r_mv (v := .slice _ _ _) rfl) ?_)
 refine wl_cl fn73 (clone_any _ _ _ _ o _ hO (by omega)) rfl (fun e' w3 hr => ?_)
 obtain ⟨⟨AC, capC, rfl, hoC⟩, hs⟩ := hr
 replace hs := Same.of_bel hs
 replace hB := hB.tr0 hs
 replace hbn := hbn.tr0 hs
 replace hO := hO.tr hs (by simp)
 replace hSm := And.intro (hSm.1.freshL hs (by simp)) (Nat.le_trans hSm.2 (Same.size hs))
 replace hbd := Nat.le_trans hbd (Same.size hs)
 replace hb4 := hb4.tr0 hs
 replace hqz := Nat.le_trans hqz (Same.size hs)
 clear hs
 rw [← hbq] at hoC
 refine ⟨_, rfl, ?_⟩
 refine wl (r_mv (v := .int _ _) rfl) ?_
 refine wl_bs (cs := #[_]) [(0, .int _ _)] rfl Tryd.underlying51 sz3_GLoose ze3_GUnr (by decide) (by decide) (by kernel_rfl) rfl (fun b25 w4 hb25 hs hr => ?_)
 have or_bn_b25 : bn < b25 := Nat.lt_of_lt_of_le hbn.lt hr
 have or_hSm_b25 := (Nat.le_trans hSm.2 hr)
 have or_hbd_b25 := (Nat.le_trans hbd hr)
 have or_b4_b25 : b4 < b25 := Nat.lt_of_lt_of_le hb4.lt hr
 have or_hoC_b25 := fun g hg => Nat.lt_of_lt_of_le (hoC.lt g hg).2 hr
 have lo25 := Nat.le_trans (Bel.size hB) hr
 replace hB := hB.tr0 hs
 replace hbn := hbn.tr0 hs
 replace hO := hO.tr hs (by simp)
 replace hSm := And.intro (hSm.1.freshL hs (by simp)) (Nat.le_trans hSm.2 (Same.size hs))
 replace hbd := Nat.le_trans hbd (Same.size hs)
 replace hb4 := hb4.tr0 hs
 replace hqz := Nat.le_trans hqz (Same.size hs)
 replace hoC := hoC.tr0 hs
 clear hs
 clear hr
 refine wl_app Tryd.underlying51 in3 rfl (by decide) hoC hb25 rfl rfl rfl oneA (by decide) (by omega) (by omega) hqz (fun g26 cap26 w5 ho26 hs hg => ?_)
 have ne_ho26_bn : g26 ≠ bn := fun e => by
  have hl := hbn.lt
  rcases hg with hg | hg
  · have h1 := hoC.lt g26 (by rw [hg]; exact List.mem_singleton.2 rfl)
    (try have := or_hoC_bn g26 (by rw [hg]; exact List.mem_singleton.2 rfl)); omega
  · omega
 have ne_ho26_b4 : g26 ≠ b4 := fun e => by
  have hl := hb4.lt
  rcases hg with hg | hg
  · have h1 := hoC.lt g26 (by rw [hg]; exact List.mem_singleton.2 rfl)
    (try have := or_hoC_b4 g26 (by rw [hg]; exact List.mem_singleton.2 rfl)); omega
  · omega
 replace hB := hB.tr hs (fun g hg => Nat.le_trans hB0 (hoC.lt g hg).1)
 replace hbn := hbn.tr hs (fun hx => by have := (hoC.lt _ hx).1; (try have := or_hoC_bn _ hx); omega)
 replace hSm := And.intro (hSm.1.freshL hs (fun g hg => .inr (by have := ((hoC).lt g hg).1; omega))) (Nat.le_trans hSm.2 (Same.size hs))
 replace hb4 := hb4.tr hs (fun hx => by have := (hoC.lt _ hx).1; (try have := or_hoC_b4 _ hx); omega)
 have hO2 := ord_own ho26 lqn
 obtain ⟨be, hbe⟩ : ∃ b, b = w5.heap.size := ⟨_, rfl⟩
 rw [← hbe] at hO2
 have hbe2 : be ≤ w5.heap.size := Nat.le_of_eq hbe
 refine wl (r_as (v := .slice _ _ _) rfl) (x_nil (e_S (c_seq (c_seq ?_))))
 obtain ⟨nb, no, LA, lc, rfl, hnb, hnr, hln⟩ := hG.at_ hB hin
 have hmx := hln.1
 unfold maxI at hmx
 refine c_region (wl (r_fa Tryd.underlying28 sz26 (by decide) rfl rfl rfl) (wl (r_ld1 (v := .slice _ _ _) Tryd.underlying26 rfl rfl (hb4.cell rfl)) (wl (r_mv (v := .int _ _) rfl) (wl (r_ia (i := i) Tryd.underlying26 sz55 rfl rfl hin rfl) (wl (r_fa Tryd.underlying55 sz53 (by decide) rfl rfl rfl) ?_)))))
 refine wl (r_ld1 (v := .slice _ _ _) Tryd.underlying53 rfl rfl (hnr 1 _ rfl)) (wl (r_len Tryd.underlying53 rfl) (wl (r_mv (v := .int _ _) rfl) (x_nil (e_S (c_block ?_)))))
 refine c_loopS [3, 10, 34, 35, 36, 37, 38, 39, 40, 41, 42, 43, 44] (fun m g w' => ∃ (j : Nat) (o2 : List Nat) (A2 : Option Addr) (cap2 : Nat), j ≤ (gr[i]'hin).ln.length ∧ m = (gr[i]'hin).ln.length - j ∧ g 34 = .int .i64 j ∧ g 3 = .slice A2 o2.length cap2 ∧ DL gr ((succN gr i).take j) (o ++ [i]) o2 ∧ Bel w0 w' ∧ Blk w' b4 28 #[.slice (some ⟨nb, no, none⟩) gr.length cg] ∧ Blk w' bn 3 (row gr.length (fun x => .int .i64 (numO o2 x))) ∧ OrdF w' bn w'.heap.size A2 o2 ∧ (Same [bn] w w' ∧ w.heap.size ≤ w'.heap.size)) ((gr[i]'hin).ln.length) ?_ (fun m g6 w6 hI => ?_)
 ·
  exact ⟨0, _, _, _, Nat.zero_le _, rfl, rfl, sl_oV _ _ _ _, .nil, hB, hb4, hbn, hO2.up hbe2, hSm⟩
 obtain ⟨j, o2, A2, cap2, hj, hm, h34, h3, hD, hB, hb4, hbn, hO, hSm⟩ := hI
 obtain ⟨bd, hbde⟩ : ∃ b, b = w6.heap.size := ⟨_, rfl⟩
 rw [← hbde] at hO
 have hbd : bd ≤ w6.heap.size := Nat.le_of_eq hbde
 have hnl := hbn.lt
 refine c_know 34 (.int .i64 j) h34 (by simp [undef]) (c_know 3 (.slice A2 o2.length cap2) h3 (by simp [undef]) (c_seq (c_region (wl (r_lss rfl rfl) (x_nil ?_)))))
 refine e_S (c_seq ?_)
 refine c_ifd rfl (fun c35 => ?_) (fun c35 => ?_)
 ·
  have hjl : j < (gr[i]'hin).ln.length := by omega
  obtain ⟨lb, lof, rfl, hlb, hlr⟩ := hln.at_ hB hjl
  obtain ⟨t, ht, htl⟩ : ∃ t : Nat, ((gr[i]'hin).ln[j]'hjl).2 = (t : Int) ∧ t < gr.length := by
    have h1 := hk.ln i hin _ (List.getElem_mem hjl)
    exact ⟨(((gr[i]'hin).ln[j]'hjl).2).toNat, by omega, by omega⟩
  obtain ⟨hok3, s3, hs3⟩ := hD.ok hrg (fun x hx => hrg i hin x (List.mem_of_mem_take hx)) hok2
  have hlk : lackN gr.length (memB o2) < lackN gr.length (memB o) := by
    rw [hs3]; exact Nat.lt_of_le_of_lt (lack_more _ _ _) (lack_snoc hin hni)
  refine c_skip (e_S (c_seq (c_block (c_seq (c_region ?_)))))
  refine wl (r_ia (i := j) Tryd.underlying53 sz74 rfl rfl (by omega) rfl) (wl (r_ldS Tryd.underlying74 rfl rfl hlr sz74) ?_)
  refine wl_al (cs := #[.int .i64 0, .int .i64 0]) ze74 rfl (fun b10 w7 hb10 hs hr => ?_)
  have or_bn_b10 : bn < b10 := Nat.lt_of_lt_of_le hbn.lt hr
  have or_hSm_b10 := (Nat.le_trans hSm.2 hr)
  have or_b4_b10 : b4 < b10 := Nat.lt_of_lt_of_le hb4.lt hr
  have or_hbd_b10 := (Nat.le_trans hbd hr)
  have lo10 := Nat.le_trans (Bel.size hB) hr
  replace hB := hB.tr0 hs
  replace hbn := hbn.tr0 hs
  replace hSm := And.intro (hSm.1.freshL hs (by simp)) (Nat.le_trans hSm.2 (Same.size hs))
  replace hb4 := hb4.tr0 hs
  replace hO := hO.tr hs (by simp)
  replace hbd := Nat.le_trans hbd (Same.size hs)
  clear hs
  clear hr
  refine wl_stW hb10 rfl rfl sz74 rfl oneA (fun w8 hq hs => ?_)
  replace hB := hB.tr1 hs lo10
  replace hbn := hbn.tr1 hs (by omega)
  replace hSm := And.intro (hSm.1.freshL hs (fun g hg => by have h1 := List.mem_singleton.1 hg; first | (left; rw [h1]; simp; done) | (right; omega))) (Nat.le_trans hSm.2 (Same.size hs))
  replace hb4 := hb4.tr1 hs (by omega)
  replace hO := hO.tr hs (fun g hg => by have h1 := List.mem_singleton.1 hg; omega)
  replace hbd := Nat.le_trans hbd (Same.size hs)
  clear hs
  replace hb10 := hq
  refine x_nil (e_S ?_)
  rw [ht] at hb10
  refine c_region (wl (r_ldS Tryd.underlying28 rfl rfl hb4.range0 sz28) (wl (r_fa Tryd.underlying74 sz3_GLoose (by decide) rfl rfl rfl) (wl (r_ld1 (v := .int _ _) Tryd.underlying3 rfl rfl (hb10.cell rfl)) (wl (r_mv (v := .slice _ _ _) rfl) (wl (r_mv (v := .slice _ _ _) rfl) ?_)))))
  have lb4 := hb4.lt
  have hO4 := hO.up hbd
  have or_b4 : b4 ≠ bn := fun e => absurd (blk_type (e ▸ hb4) hbn) (by decide)
  refine wl_cl fn64 (IH t o2 A2 cap2 _ hlk htl hB hok3 hbn hO4) rfl (fun e' w9 hr => ?_)
  obtain ⟨o3, A3, cap3, hD3, rfl, hbn3, hO3, hS3⟩ := hr
  replace hB := hB.tr hS3 (by simpa using l0n)
  replace hb4 := hb4.tr hS3 (by simpa using or_b4)
  replace hbn := hbn3
  replace hO := hO3
  replace hSm := And.intro (hSm.1.trans hS3) (Nat.le_trans hSm.2 hS3.size)
  refine ⟨_, rfl, ?_⟩
  refine wl (r_as (v := .slice _ _ _) rfl) (x_nil (e_B (e_S (c_region (wl (r_add rfl rfl rfl (by omega)) ?_)))))
  refine wl (r_mv (v := .int _ _) rfl) (x_nil (e_LS ((gr[i]'hin).ln.length - (j + 1)) (by omega) agA ?_))
  exact ⟨j + 1, o3, A3, cap3, by omega, rfl, rfl, rfl, by rw [take_succN hin hjl ht]; exact hD.append hD3, hB, hb4, hbn, hO, hSm⟩
 have hjx : j = (gr[i]'hin).ln.length := by omega
 have hfin : DL gr (succN gr i) (o ++ [i]) o2 := by
   have e : (succN gr i).take j = succN gr i := List.take_of_length_le (by simp [succN, nd_eq hin, hjx])
   rw [e] at hD; exact hD
 refine c_exit (e_Sx (e_LSx (e_Bx (e_S (c_seq ?_)))))
 refine c_region (wl (r_mv (v := .slice _ _ _) rfl) (wl (r_as (v := .slice _ _ _) rfl) (x_nil (e_S (c_ret ?_)))))
 refine fin1 (.inl rfl) rfl rfl ?_
 exact ⟨o2, A2, cap2, .new hni hfin .nil, rfl, hbn, hO.up hbd, hSm.1⟩
theorem visit2_any {w0 : World} {G : Option Addr} {cg nf bn : Nat} {gr : List Nd} (hG : NodesIn w0 G gr) (hk : GOk2 nf gr) (l0n : w0.heap.size ≤ bn) : ∀ (m : Nat) (o : List Nat) (A : Option Addr) (cap : Nat) (w : World) (i : Nat), lackN gr.length (memB o) ≤ m → i < gr.length → Bel w0 w → OOk gr.length o → Blk w bn 3 (row gr.length (fun x => .int .i64 (numO o x))) → OrdF w bn w.heap.size A o → Calls Tryd.prog 64 #[.agg #[.slice G gr.length cg], .int .i64 (i : Nat), .slice (some ⟨bn, 0, none⟩) gr.length gr.length, .slice A (o).length cap] w fun e w' => ∃ o' A' cap', DL gr [i] o o' ∧ e = .returned (.slice A' o'.length cap') ∧ Blk w' bn 3 (row gr.length (fun x => .int .i64 (numO o' x))) ∧ OrdF w' bn w'.heap.size A' o' ∧ Same [bn] w w' := by
  intro m
  induction m with
  | zero => intro o A cap w i hm hin hB hok h1 h2; exact visit2_step hG hk l0n hB hok h1 h2 hin (fun t o2 A2 cap2 w2 hl => by omega)
  | succ m ih => intro o A cap w i hm hin hB hok h1 h2; exact visit2_step hG hk l0n hB hok h1 h2 hin (fun t o2 A2 cap2 w2 hl => ih o2 A2 cap2 w2 t (by omega))

end Go.Proofs.YteoncmfiiknfbaaDoor
