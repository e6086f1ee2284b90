/- What these functions of the program compute, at every world: slices.Clone[[]int,int], glosswright/glosswrightref3.visit. What these functions of the program compute, at every world: glosswright/glosswrightref3.From. -/
import Derived.Test.YtegngekpmpdngaaDoorU
import Derived.Test.YtegngekpmpdngaaDoorGNodes
import Derived.Test.YtegngekpmpdngaaDoorGro
namespace Go.Proofs.YtegngekpmpdngaaDoor
open Go.RowKit
theorem fn105 : callable Tryd.prog 105 = true := by kernel_rfl
theorem fn39 : callable Tryd.prog 39 = true := by kernel_rfl
theorem clone_any (A : Option Addr) (c bn bd : Nat) (o : List Nat) (w : World) (hO : OrdF w bn bd A o) (hl : o.length ≤ 1000000) : Calls Tryd.prog 39 #[.slice A o.length c] w fun e w' => (∃ A' cap', e = .returned (.slice A' o.length cap') ∧ Own w' w.heap.size 3 1 A' o.length cap' (oV o)) ∧ Bel w w' := by
 refine enter Tryd.func39 Tryd.ntmps39 rfl (Nat.le_of_ble_eq_true rfl) ?_
 have hB : Bel w w := Below.refl _ _
 refine c_seq (c_region (waS rfl (x_nil (e_S (c_seq ?_)))))
 refine c_seq (c_region (wmS rfl (wl (r_eqlNil U43 rfl rfl) (x_nil (e_S ?_)))))
 refine c_if rfl (fun c4 => ?_) (fun c4 => ?_)
 ·
  have hn : o = [] := by
    rcases hO with h | ⟨_, b, h, _⟩
    · exact h.1
    · rw [h] at c4; cases c4
  subst hn
  refine c_seq (c_region (waS rfl (x_nil (e_S (c_ret ?_)))))
  refine e_Sr (fin1 (.inl rfl) rfl rfl ?_)
  exact ⟨⟨none, 0, rfl, Own.nil _ _ _ _⟩, hB⟩
 obtain ⟨hne, b, rfl, hbn, hbd, hbl, hc⟩ : o ≠ [] ∧ ∃ b, A = some ⟨b, 0, none⟩ ∧ b ≠ bn ∧ b < bd ∧ b < w.heap.size ∧ ∀ k (hk : k < o.length), w.cell? ⟨b, 0 + k, none⟩ = some (.int .i64 (o[k] : Nat)) := by
   rcases hO with h | h
   · rw [h.2] at c4; cases c4
   · exact h
 have hpos := List.length_pos_iff.2 hne
 refine c_skip (e_S (c_seq (c_region ?_)))
 refine wl_bs0 U43 sz3_GLoose (fun b5 w1 hb5 hs hr => ?_)
 have lo5 := nLT (Bel.size hB) hr
 replace hB := hB.tr0 hs
 clear hs
 clear hr
 refine wmS rfl ?_
 have hown := own_blk (sz := 1) (m := 0) hb5 (Nat.le_refl b5) rfl dE
 refine wl_appC (b := b) (o' := 0) (news := oV o) U43 in3 rfl dE hown rfl rfl (fun j u hj => ?_) (by simp [oV]) (by simp [oV, List.all_eq_true]; intros; rfl) hpos om om (Nat.le_of_lt hb5.lt) (fun g7 cap7 w9 ho7 hs hg => ?_)
 · simp only [oV, List.getElem?_map, Option.map_eq_some_iff] at hj
   obtain ⟨x, hx, rfl⟩ := hj
   obtain ⟨hk, rfl⟩ := List.getElem?_eq_some_iff.1 hx
   exact hB.cell hbl (hc j hk)
 have hB9 : Bel w w9 := hB.tr hs (fun g hg => by cases List.mem_singleton.1 hg; exact lo5)
 refine waS rfl (x_nil (e_S (c_ret (fin1 (.inl rfl) rfl rfl ?_))))
 refine ⟨⟨some ⟨g7, 0, none⟩, cap7, ?_, ?_⟩, hB9⟩
 · show Ending.returned (.slice _ (0 + o.length) _) = _
   rw [Nat.zero_add]
 · have h := ho7.low lo5
   rw [Nat.zero_add] at h
   exact h
set_option maxHeartbeats 2000000 in
theorem visit2_step {w0 : World} {G : Option Addr} {cg nf bn : Nat} {gr : List Nd} (hG : NodesIn w0 G gr) (hk : GOk2 nf gr) (l0n : w0.heap.size ≤ bn) {o : List Nat} {A : Option Addr} {cap : Nat} {w : World} (hB : Bel w0 w) (hok : OOk gr.length o) (hbn : Blk w bn 3 (row gr.length (fun x => .int .i64 (numO o x)))) (hO : OrdF w bn w.heap.size A o) {i : Nat} (hin : i < gr.length) (IH : ∀ (t : Nat) (o2 : List Nat) (A2 : Option Addr) (cap2 : Nat) (w2 : World), lackN gr.length (memB o2) < lackN gr.length (memB o) → t < gr.length → Bel w0 w2 → OOk gr.length o2 → Blk w2 bn 3 (row gr.length (fun x => .int .i64 (numO o2 x))) → OrdF w2 bn w2.heap.size A2 o2 → Calls Tryd.prog 105 #[.agg #[.slice G gr.length cg], .int .i64 (t : Nat), .slice (some ⟨bn, 0, none⟩) gr.length gr.length, .slice A2 (o2).length cap2] w2 fun e w' => ∃ o' A' cap', DL gr [t] o2 o' ∧ e = .returned (.slice A' o'.length cap') ∧ Blk w' bn 3 (row gr.length (fun x => .int .i64 (numO o' x))) ∧ OrdF w' bn w'.heap.size A' o' ∧ Same [bn] w2 w') : Calls Tryd.prog 105 #[.agg #[.slice G gr.length cg], .int .i64 (i : Nat), .slice (some ⟨bn, 0, none⟩) gr.length gr.length, .slice A (o).length cap] w fun e w' => ∃ o' A' cap', DL gr [i] o o' ∧ e = .returned (.slice A' o'.length cap') ∧ Blk w' bn 3 (row gr.length (fun x => .int .i64 (numO o' x))) ∧ OrdF w' bn w'.heap.size A' o' ∧ Same [bn] w w' := by
 have hSm : Same [bn] w w ∧ w.heap.size ≤ w.heap.size := ⟨Same.refl _ _, Nat.le_refl _⟩
 obtain ⟨bd, hbde⟩ : ∃ b, b = w.heap.size := ⟨_, rfl⟩
 rw [← hbde] at hO
 have hbd : bd ≤ w.heap.size := Nat.le_of_eq hbde
 have hn6 := hk.le
 have hrg := succ_rng2 hk
 have hol := hok.cnt
 have hnl := hbn.lt
 refine enter Tryd.func105 Tryd.ntmps105 rfl (Nat.le_of_ble_eq_true rfl) (c_seq (c_region ?_))
 refine wl_bx (v := .agg #[_]) (cs := #[_]) rfl rfl (fun b4 w1 hb4 hs hr => ?_)
 have or_bn_b4 : bn < b4 := nLL hbn.lt hr
 have or_hSm_b4 := (nLT hSm.2 hr)
 have or_hbd_b4 := (nLT hbd hr)
 have lo4 := nLT (Bel.size hB) hr
 replace hB := hB.tr0 hs
 replace hbn := hbn.tr0 hs
 replace hO := hO.tr hs (by simp)
 replace hSm := And.intro (hSm.1.freshL hs (by simp)) (nLT hSm.2 (Same.size hs))
 replace hbd := nLT hbd (Same.size hs)
 clear hs
 clear hr
 refine waS rfl (x_nil (e_S (c_seq (c_seq (c_region ?_)))))
 refine wmS rfl (wmI rfl (wl (r_ia (i := i) U43 sz3_GLoose rfl rfl hin rfl) (wl (r_ld1 (v := .int _ _) U3 rfl rfl (hbn.cell (row_get hin))) (wl (r_geq rfl rfl) (x_nil ?_)))))
 refine e_S ?_
 refine c_ifd rfl (fun c15 => ?_) (fun c15 => ?_)
 ·
  refine c_seq (c_region (wmS rfl (waS rfl (x_nil (e_S ?_)))))
  refine c_ret (e_Sr (fin1 (.inl rfl) rfl rfl ?_))
  exact ⟨o, A, cap, .old (numO_pos c15) .nil, rfl, hbn, hO.up hbd, hSm.1⟩
 have hni := numO_neg c15
 have hok2 := hok.snoc hin hni
 have hol2 := hok2.cnt
 refine c_skip (e_S (c_seq (c_region (wmS rfl (wmI rfl ?_)))))
 refine wmS rfl (wl (r_len U43 rfl) (wl (r_ia (i := i) U43 sz3_GLoose rfl rfl hin rfl) ?_))
 refine wl_st1 (v := .int _ _) hbn rfl rfl sz3_GLoose (by rw [row_size]; omega) rfl row_set (fun w2 hq hs => ?_)
 replace hB := hB.tr1 hs l0n
 replace hO := hO.tr hs (fun g hg => by have h1 := List.mem_singleton.1 hg; omega)
 replace hSm := And.intro (hSm.1.freshL hs (fun g hg => by have h1 := List.mem_singleton.1 hg; first | (left; rw [h1]; simp; done) | (right; omega))) (nLT hSm.2 (Same.size hs))
 replace hbd := nLT hbd (Same.size hs)
 replace hb4 := hb4.tr1 hs om
 clear hs
 replace hbn := hq
 rw [row_num hni] at hbn
 refine x_nil (e_S (c_seq ?_))
 obtain ⟨bq, hbq⟩ : ∃ b, b = w2.heap.size := ⟨_, rfl⟩
 have hqz : bq ≤ w2.heap.size := Nat.le_of_eq hbq
 have lq4 : b4 < bq := by rw [hbq]; exact hb4.lt
 have lqn : bn < bq := by rw [hbq]; exact hbn.lt
 have hbd0 : bd ≤ bq := by rw [hbq]; exact hbd
 have hSz : w.heap.size ≤ bq := by rw [hbq]; exact hSm.2
 have hB0 : w0.heap.size ≤ bq := by rw [hbq]; exact Bel.size hB
 refine c_region (wmS rfl ?_)
 refine wl_cl fn39 (clone_any _ _ _ _ o _ hO om) rfl (fun e' w3 hr => ?_)
 obtain ⟨⟨AC, capC, rfl, hoC⟩, hs⟩ := hr
 replace hs := Same.of_bel hs
 replace hB := hB.tr0 hs
 replace hbn := hbn.tr0 hs
 replace hO := hO.tr hs (by simp)
 replace hSm := And.intro (hSm.1.freshL hs (by simp)) (nLT hSm.2 (Same.size hs))
 replace hbd := nLT hbd (Same.size hs)
 replace hb4 := hb4.tr0 hs
 replace hqz := nLT hqz (Same.size hs)
 clear hs
 rw [← hbq] at hoC
 refine ⟨_, rfl, ?_⟩
 refine wmI rfl ?_
 refine wl_bs (cs := #[_]) [(0, .int _ _)] rfl U43 sz3_GLoose ze3_GUnr dE dE kR rfl (fun b25 w4 hb25 hs hr => ?_)
 have or_bn_b25 : bn < b25 := nLL hbn.lt hr
 have or_hSm_b25 := (nLT hSm.2 hr)
 have or_hbd_b25 := (nLT hbd hr)
 have or_b4_b25 : b4 < b25 := nLL hb4.lt hr
 have or_hoC_b25 := fun g hg => nLL (hoC.lt g hg).2 hr
 have lo25 := nLT (Bel.size hB) hr
 replace hB := hB.tr0 hs
 replace hbn := hbn.tr0 hs
 replace hO := hO.tr hs (by simp)
 replace hSm := And.intro (hSm.1.freshL hs (by simp)) (nLT hSm.2 (Same.size hs))
 replace hbd := nLT hbd (Same.size hs)
 replace hb4 := hb4.tr0 hs
 replace hqz := nLT hqz (Same.size hs)
 replace hoC := hoC.tr0 hs
 clear hs
 clear hr
 refine wl_app U43 in3 rfl dE hoC hb25 rfl rfl rfl oneA dE om om hqz (fun g26 cap26 w5 ho26 hs hg => ?_)
 have ne_ho26_bn : g26 ≠ bn := fun e => by
  have hl := hbn.lt
  rcases hg with hg | hg
  · have h1 := hoC.lt g26 (by rw [hg]; exact List.mem_singleton.2 rfl)
    (try have := or_hoC_bn g26 (by rw [hg]; exact List.mem_singleton.2 rfl)); omega
  · omega
 have ne_ho26_b4 : g26 ≠ b4 := fun e => by
  have hl := hb4.lt
  rcases hg with hg | hg
  · have h1 := hoC.lt g26 (by rw [hg]; exact List.mem_singleton.2 rfl)
    (try have := or_hoC_b4 g26 (by rw [hg]; exact List.mem_singleton.2 rfl)); omega
  · omega
 replace hB := hB.tr hs (fun g hg => nLT hB0 (hoC.lt g hg).1)
 replace hbn := hbn.tr hs (fun hx => by have := (hoC.lt _ hx).1; (try have := or_hoC_bn _ hx); omega)
 replace hSm := And.intro (hSm.1.freshL hs (fun g hg => .inr (by have := ((hoC).lt g hg).1; omega))) (nLT hSm.2 (Same.size hs))
 replace hb4 := hb4.tr hs (fun hx => by have := (hoC.lt _ hx).1; (try have := or_hoC_b4 _ hx); omega)
 have hO2 := ord_own ho26 lqn
 obtain ⟨be, hbe⟩ : ∃ b, b = w5.heap.size := ⟨_, rfl⟩
 rw [← hbe] at hO2
 have hbe2 : be ≤ w5.heap.size := Nat.le_of_eq hbe
 refine waS rfl (x_nil (e_S (c_seq (c_seq ?_))))
 obtain ⟨nb, no, LA, lc, rfl, hnb, hnr, hln⟩ := hG.at_ hB hin
 have hmx := hln.1
 unfold maxI at hmx
 refine c_region (wl (r_fa U28 sz26 dE rfl rfl rfl) (wl (r_ld1 (v := .slice _ _ _) U26 rfl rfl (hb4.cell rfl)) (wmI rfl (wl (r_ia (i := i) U26 sz33 rfl rfl hin rfl) (wl (r_fa U33 sz31 dE rfl rfl rfl) ?_)))))
 refine wl (r_ld1 (v := .slice _ _ _) U31 rfl rfl (hnr 1 _ rfl)) (wl (r_len U31 rfl) (wmI rfl (x_nil (e_S (c_block ?_)))))
 refine c_loopS [3, 10, 34, 35, 36, 37, 38, 39, 40, 41, 42, 43, 44] (fun m g w' => ∃ (j : Nat) (o2 : List Nat) (A2 : Option Addr) (cap2 : Nat), j ≤ (gr[i]'hin).ln.length ∧ m = (gr[i]'hin).ln.length - j ∧ g 34 = .int .i64 j ∧ g 3 = .slice A2 o2.length cap2 ∧ DL gr ((succN gr i).take j) (o ++ [i]) o2 ∧ Bel w0 w' ∧ Blk w' b4 28 #[.slice (some ⟨nb, no, none⟩) gr.length cg] ∧ Blk w' bn 3 (row gr.length (fun x => .int .i64 (numO o2 x))) ∧ OrdF w' bn w'.heap.size A2 o2 ∧ (Same [bn] w w' ∧ w.heap.size ≤ w'.heap.size)) ((gr[i]'hin).ln.length) ?_ (fun m g6 w6 hI => ?_)
 ·
  exact ⟨0, _, _, _, Nat.zero_le _, rfl, rfl, sl_oV _ _ _ _, .nil, hB, hb4, hbn, hO2.up hbe2, hSm⟩
 obtain ⟨j, o2, A2, cap2, hj, hm, h34, h3, hD, hB, hb4, hbn, hO, hSm⟩ := hI
 obtain ⟨bd, hbde⟩ : ∃ b, b = w6.heap.size := ⟨_, rfl⟩
 rw [← hbde] at hO
 have hbd : bd ≤ w6.heap.size := Nat.le_of_eq hbde
 have hnl := hbn.lt
 refine c_know 34 (.int .i64 j) h34 nu (c_know 3 (.slice A2 o2.length cap2) h3 nu (c_seq (c_region (wl (r_lss rfl rfl) (x_nil ?_)))))
 refine e_S (c_seq ?_)
 refine c_ifd rfl (fun c35 => ?_) (fun c35 => ?_)
 ·
  have hjl : j < (gr[i]'hin).ln.length := by omega
  obtain ⟨lb, lof, rfl, hlb, hlr⟩ := hln.at_ hB hjl
  obtain ⟨t, ht, htl⟩ : ∃ t : Nat, ((gr[i]'hin).ln[j]'hjl).2 = (t : Int) ∧ t < gr.length := by
    have h1 := hk.ln i hin _ (List.getElem_mem hjl)
    exact ⟨(((gr[i]'hin).ln[j]'hjl).2).toNat, by omega, by omega⟩
  obtain ⟨hok3, s3, hs3⟩ := hD.ok hrg (fun x hx => hrg i hin x (List.mem_of_mem_take hx)) hok2
  have hlk : lackN gr.length (memB o2) < lackN gr.length (memB o) := by
    rw [hs3]; exact Nat.lt_of_le_of_lt (lack_more _ _ _) (lack_snoc hin hni)
  refine c_skip (e_S (c_seq (c_block (c_seq (c_region ?_)))))
  refine wl (r_ia (i := j) U31 sz30 rfl rfl om rfl) (wl (r_ldS U30 rfl rfl hlr sz30) ?_)
  refine wl_al (cs := #[.int .i64 0, .int .i64 0]) ze30 rfl (fun b10 w7 hb10 hs hr => ?_)
  have or_bn_b10 : bn < b10 := nLL hbn.lt hr
  have or_hSm_b10 := (nLT hSm.2 hr)
  have or_b4_b10 : b4 < b10 := nLL hb4.lt hr
  have or_hbd_b10 := (nLT hbd hr)
  have lo10 := nLT (Bel.size hB) hr
  replace hB := hB.tr0 hs
  replace hbn := hbn.tr0 hs
  replace hSm := And.intro (hSm.1.freshL hs (by simp)) (nLT hSm.2 (Same.size hs))
  replace hb4 := hb4.tr0 hs
  replace hO := hO.tr hs (by simp)
  replace hbd := nLT hbd (Same.size hs)
  clear hs
  clear hr
  refine wl_stW hb10 rfl rfl sz30 rfl oneA (fun w8 hq hs => ?_)
  replace hB := hB.tr1 hs lo10
  replace hbn := hbn.tr1 hs om
  replace hSm := And.intro (hSm.1.freshL hs (fun g hg => by have h1 := List.mem_singleton.1 hg; first | (left; rw [h1]; simp; done) | (right; omega))) (nLT hSm.2 (Same.size hs))
  replace hb4 := hb4.tr1 hs om
  replace hO := hO.tr hs (fun g hg => by have h1 := List.mem_singleton.1 hg; omega)
  replace hbd := nLT hbd (Same.size hs)
  clear hs
  replace hb10 := hq
  refine x_nil (e_S ?_)
  rw [ht] at hb10
  refine c_region (wl (r_ldS U28 rfl rfl hb4.range0 sz28) (wl (r_fa U30 sz3_GLoose dE rfl rfl rfl) (wl (r_ld1 (v := .int _ _) U3 rfl rfl (hb10.cell rfl)) (wmS rfl (wmS rfl ?_)))))
  have lb4 := hb4.lt
  have hO4 := hO.up hbd
  have or_b4 : b4 ≠ bn := fun e => absurd (blk_type (e ▸ hb4) hbn) dE
  refine wl_cl fn105 (IH t o2 A2 cap2 _ hlk htl hB hok3 hbn hO4) rfl (fun e' w9 hr => ?_)
  obtain ⟨o3, A3, cap3, hD3, rfl, hbn3, hO3, hS3⟩ := hr
  replace hB := hB.tr hS3 (by simpa using l0n)
  replace hb4 := hb4.tr hS3 (by simpa using or_b4)
  replace hbn := hbn3
  replace hO := hO3
  replace hSm := And.intro (hSm.1.trans hS3) (nLT hSm.2 hS3.size)
  refine ⟨_, rfl, ?_⟩
  refine waS rfl (x_nil (e_B (e_S (c_region (wl (r_add rfl rfl rfl om) ?_)))))
  refine wmI rfl (x_nil (e_LS ((gr[i]'hin).ln.length - (j + 1)) om agA ?_))
  exact ⟨j + 1, o3, A3, cap3, by omega, rfl, rfl, rfl, by rw [take_succN hin hjl ht]; exact hD.append hD3, hB, hb4, hbn, hO, hSm⟩
 have hjx : j = (gr[i]'hin).ln.length := by omega
 have hfin : DL gr (succN gr i) (o ++ [i]) o2 := by
   have e : (succN gr i).take j = succN gr i := List.take_of_length_le (by simp [succN, nd_eq hin, hjx])
   rw [e] at hD; exact hD
 refine c_exit (e_Sx (e_LSx (e_Bx (e_S (c_seq ?_)))))
 refine c_region (wmS rfl (waS rfl (x_nil (e_S (c_ret ?_)))))
 refine fin1 (.inl rfl) rfl rfl ?_
 exact ⟨o2, A2, cap2, .new hni hfin .nil, rfl, hbn, hO.up hbd, hSm.1⟩
theorem visit2_any {w0 : World} {G : Option Addr} {cg nf bn : Nat} {gr : List Nd} (hG : NodesIn w0 G gr) (hk : GOk2 nf gr) (l0n : w0.heap.size ≤ bn) : ∀ (m : Nat) (o : List Nat) (A : Option Addr) (cap : Nat) (w : World) (i : Nat), lackN gr.length (memB o) ≤ m → i < gr.length → Bel w0 w → OOk gr.length o → Blk w bn 3 (row gr.length (fun x => .int .i64 (numO o x))) → OrdF w bn w.heap.size A o → Calls Tryd.prog 105 #[.agg #[.slice G gr.length cg], .int .i64 (i : Nat), .slice (some ⟨bn, 0, none⟩) gr.length gr.length, .slice A (o).length cap] w fun e w' => ∃ o' A' cap', DL gr [i] o o' ∧ e = .returned (.slice A' o'.length cap') ∧ Blk w' bn 3 (row gr.length (fun x => .int .i64 (numO o' x))) ∧ OrdF w' bn w'.heap.size A' o' ∧ Same [bn] w w' := by
  intro m
  induction m with
  | zero => intro o A cap w i hm hin hB hok h1 h2; exact visit2_step hG hk l0n hB hok h1 h2 hin (fun t o2 A2 cap2 w2 hl => by omega)
  | succ m ih => intro o A cap w i hm hin hB hok h1 h2; exact visit2_step hG hk l0n hB hok h1 h2 hin (fun t o2 A2 cap2 w2 hl => ih o2 A2 cap2 w2 t om)
end Go.Proofs.YtegngekpmpdngaaDoor
namespace Go.Proofs.YtegngekpmpdngaaDoor
open Go.RowKit
set_option maxHeartbeats 4000000 in
theorem rfrom3_any (G : Option Addr) (cg nf : Nat) (gr : List Nd) (r : Nat) (w : World) (hG : NodesIn w G gr) (hk : GOk2 nf gr) (hnf : nf ≤ 1000) (hr : r < gr.length) : Calls Tryd.prog 88 #[.agg #[.slice G gr.length cg], .int .i64 r] w fun e w' => (∃ o A c, DL gr [r] [] o ∧ OOk gr.length o ∧ e = .returned (.agg #[.slice A o.length c]) ∧ GrT w' w.heap.size w'.heap.size A c (canG gr o) (fun x => (nd (canG gr o) x).ty)) ∧ Bel w w' := by
 have hn6 := hk.le
 have hrg := succ_rng2 hk
 refine enter Tryd.func88 Tryd.ntmps88 rfl (Nat.le_of_ble_eq_true rfl) ?_
 have hB : Bel w w := Below.refl _ _
 refine c_seq (c_region ?_)
 refine wl_bx (v := .agg #[_]) (cs := #[_]) rfl rfl (fun b2 w1 hb2 hs hr => ?_)
 have lo2 := nLT (Bel.size hB) hr
 replace hB := hB.tr0 hs
 clear hs
 clear hr
 refine wl_al (cs := #[.slice none 0 0]) ze28 rfl (fun b4 w2 hb4 hs hr => ?_)
 have or_b2_b4 : b2 < b4 := nLL hb2.lt hr
 have lo4 := nLT (Bel.size hB) hr
 replace hB := hB.tr0 hs
 replace hb2 := hb2.tr0 hs
 clear hs
 clear hr
 refine x_nil (e_S (c_seq (c_region (wl (r_fa U28 sz26 dE rfl rfl rfl) (wl (r_ld1 (v := .slice _ _ _) U26 rfl rfl (hb2.cell rfl)) ?_)))))
 refine wl (r_len U26 rfl) ?_
 refine wl_mkR (m := gr.length) U43 in3 rfl rfl rfl om om (fun b17 w3 hb17 hs hr => ?_)
 have or_b2_b17 : b2 < b17 := nLL hb2.lt hr
 have or_b4_b17 : b4 < b17 := nLL hb4.lt hr
 have lo17 := nLT (Bel.size hB) hr
 replace hB := hB.tr0 hs
 replace hb2 := hb2.tr0 hs
 replace hb4 := hb4.tr0 hs
 clear hs
 clear hr
 refine waS rfl (x_nil (e_S (c_seq (c_seq (c_region ?_)))))
 refine wmS rfl (wl (r_len U43 rfl) (wmI rfl (x_nil (e_S (c_block ?_)))))
 refine c_loopS [6, 20, 21, 22, 23, 24, 25, 26] (fun m g w' => ∃ k : Nat, k ≤ gr.length ∧ m = gr.length - k ∧ g 20 = .int .i64 k ∧ Bel w w' ∧ Blk w' b2 28 #[.slice G gr.length cg] ∧ Blk w' b4 28 #[.slice none 0 0] ∧ Blk w' b17 3 (row gr.length (fun x => .int .i64 (if x < k then -1 else 0)))) (gr.length) ?_ (fun m g3 w4 hI => ?_)
 ·
  refine ⟨0, Nat.zero_le _, rfl, rfl, hB, hb2, hb4, ?_⟩
  rw [row_congr (g' := fun _ => .int .i64 0) (fun x _ => by simp)]; exact hb17
 obtain ⟨k, hkk, hm, h20, hB, hb2, hb4, hb17⟩ := hI
 refine c_know 20 (.int .i64 k) h20 nu (c_seq (c_region (wl (r_lss rfl rfl) (x_nil (e_S ?_)))))
 refine c_seq ?_
 refine c_ifd rfl (fun c21 => ?_) (fun c21 => ?_)
 ·
  have hlt : k < gr.length := by omega
  refine c_skip (e_S (c_seq (c_block (c_seq (c_region ?_)))))
  refine wmI rfl (waI rfl (x_nil (e_S (c_region (wmS rfl ?_)))))
  refine wmI rfl (wl (r_ia (i := k) U43 sz3_GLoose rfl rfl om rfl) ?_)
  refine wl_st1 (v := .int _ _) hb17 rfl rfl sz3_GLoose (by rw [row_size]; omega) rfl row_set (fun w5 hq hs => ?_)
  replace hB := hB.tr1 hs lo17
  replace hb2 := hb2.tr1 hs om
  replace hb4 := hb4.tr1 hs om
  clear hs
  replace hb17 := hq
  rw [row_congr (g' := fun x => .int .i64 (if x < k + 1 then -1 else 0)) (fun x _ => by
    by_cases e : x = k
    · subst e; simp
    · have e1 : (x < k + 1) ↔ (x < k) := by omega
      simp [e, e1])] at hb17
  refine x_nil (e_B (e_S (c_region (wl (r_add rfl rfl rfl om) (wmI rfl ?_)))))
  refine x_nil (e_LS (gr.length - (k + 1)) om agA ?_)
  exact ⟨k + 1, by omega, rfl, rfl, hB, hb2, hb4, hb17⟩
 have hke : k = gr.length := by omega
 rw [hke, row_congr (g' := fun x => .int .i64 (numO [] x)) (fun x hx => by simp [hx, numO_nil])] at hb17
 refine c_exit (e_Sx (e_LSx (e_Bx (e_S (c_seq ?_)))))
 refine c_region (waS rfl (x_nil (e_S (c_seq (c_region ?_)))))
 refine wl (r_ldS U28 rfl rfl hb2.range0 sz28) (wmI rfl (wmS rfl (wmS rfl ?_)))
 have ne2 : b2 ≠ b17 := by omega
 have ne4 : b4 ≠ b17 := by omega
 refine wl_cl fn105 (visit2_any (w0 := w) (G := G) (cg := cg) (bn := b17) hG hk lo17 gr.length [] none 0 _ r (lack_le _ _) hr hB (OOk.nil _) hb17 (OrdF.nil _ _ _)) rfl (fun e' w6 hr => ?_)
 obtain ⟨o, AO, capO, hD, rfl, hb17n, hO, hS3⟩ := hr
 replace hB := hB.tr hS3 (by simpa using lo17)
 replace hb2 := hb2.tr hS3 (by simpa using ne2)
 replace hb4 := hb4.tr hS3 (by simpa using ne4)
 replace hb17 := hb17n
 obtain ⟨hok, _, _⟩ := hD.ok hrg (fun i hi => by rw [List.mem_singleton.1 hi]; exact hr) (OOk.nil _)
 have hol := hok.cnt
 obtain ⟨bd, hbde⟩ : ∃ b, b = w6.heap.size := ⟨_, rfl⟩
 rw [← hbde] at hO
 have hbd : bd ≤ w6.heap.size := Nat.le_of_eq hbde
 refine ⟨_, rfl, ?_⟩
 refine waS rfl (x_nil (e_S (c_seq (c_region ?_))))
 refine wl_al (cs := #[.slice none 0 0]) ze28 rfl (fun b8 w7 hb8 hs hr => ?_)
 have or_b2_b8 : b2 < b8 := nLL hb2.lt hr
 have or_b4_b8 : b4 < b8 := nLL hb4.lt hr
 have or_b17_b8 : b17 < b8 := nLL hb17.lt hr
 have or_hbd_b8 := (nLT hbd hr)
 have lo8 := nLT (Bel.size hB) hr
 replace hB := hB.tr0 hs
 replace hb2 := hb2.tr0 hs
 replace hb4 := hb4.tr0 hs
 replace hb17 := hb17.tr0 hs
 replace hO := hO.tr hs (by simp)
 replace hbd := nLT hbd (Same.size hs)
 clear hs
 clear hr
 refine x_nil (e_S (c_seq (c_seq ?_)))
 replace hO := hO.up or_hbd_b8
 have hlo8 : w.heap.size ≤ b8 + 1 := Nat.le_succ_of_le lo8
 refine c_region (wmS rfl (wl (r_len U43 rfl) (wmI rfl (x_nil (e_S ?_)))))
 refine c_block ?_
 refine c_loopS [10, 11, 13, 34, 35, 36, 37, 38, 39, 40, 41, 42, 43, 44, 45, 46, 47, 48, 49, 50, 51, 52, 53, 54, 55, 56, 57, 58, 59, 60, 61, 62, 63, 64, 65, 66, 67, 68, 69, 70, 71, 72, 73, 74, 75, 76] (fun m g w' => ∃ (k : Nat) (AN : Option Addr) (capN : Nat) (V : Nat → Value), k ≤ o.length ∧ m = o.length - k ∧ g 34 = .int .i64 k ∧ Bel w w' ∧ Blk w' b2 28 #[.slice G gr.length cg] ∧ Blk w' b4 28 #[.slice none 0 0] ∧ Blk w' b17 3 (row gr.length (fun x => .int .i64 (numO o x))) ∧ Blk w' b8 28 #[.slice AN k capN] ∧ OrdF w' b17 b8 AO o ∧ Own w' (b8 + 1) 33 2 AN k capN (ndV (fun x => .int .i64 (nd gr (o.getD x 0)).ty) V k) ∧ (∀ x, x < k → RowO w' w.heap.size w'.heap.size (V x) ((nd gr (o.getD x 0)).ln.map (canL o)))) (o.length) ?_ (fun m g11 w8 hI => ?_)
 ·
  exact ⟨0, none, 0, fun _ => .slice none 0 0, Nat.zero_le _, rfl, rfl, hB, hb2, hb4, hb17, hb8, hO, Own.nil _ _ _ _, fun x hx => by omega⟩
 obtain ⟨k, AN, capN, V, hkk, hm, h34, hB, hb2, hb4, hb17, hb8, hO, hoN, hrows⟩ := hI
 obtain ⟨bs, hbsz⟩ : ∃ b, b = w8.heap.size := ⟨_, rfl⟩
 rw [← hbsz] at hrows
 have hbz : bs ≤ w8.heap.size := Nat.le_of_eq hbsz
 have lu8 : b8 < bs := by rw [hbsz]; exact hb8.lt
 have luN : ∀ g ∈ aL AN, g < bs := fun g hg => by rw [hbsz]; exact (hoN.lt g hg).2
 refine c_know 34 (.int .i64 k) h34 nu (c_seq (c_region (wl (r_lss rfl rfl) (x_nil (e_S ?_)))))
 refine c_seq ?_
 refine c_ifd rfl (fun c35 => ?_) (fun c35 => ?_)
 ·
  have hlt : k < o.length := by omega
  obtain ⟨i, hoi, hin⟩ : ∃ i : Nat, o[k]'hlt = i ∧ i < gr.length := ⟨_, rfl, hok.lt _ (List.getElem_mem hlt)⟩
  have hgd : o.getD k 0 = i := by simp [List.getD, hlt, hoi]
  have hnd := nd_eq hin
  obtain ⟨q, rfl, hqn, hqd, hql, hqc⟩ : ∃ q, AO = some ⟨q, 0, none⟩ ∧ q ≠ b17 ∧ q < b8 ∧ q < w8.heap.size ∧ ∀ k (hk : k < o.length), w8.cell? ⟨q, 0 + k, none⟩ = some (.int .i64 (o[k] : Nat)) := by
    rcases hO with h | ⟨_, h⟩
    · rw [h.1] at hlt; simp at hlt
    · exact h
  have hz : w8.cell? ⟨q, 0 + k * 1, none⟩ = some (.int .i64 (i : Int)) := by
    have := hqc k hlt
    rw [hoi] at this
    simpa using this
  obtain ⟨nb, no, LA, lc, rfl, hnb, hnr, hln⟩ := hG.at_ (Below.refl _ _ : Bel w w) hin
  have hmx := hln.1
  unfold maxI at hmx
  have hfw := hk.few i hin
  refine c_skip (e_S (c_seq (c_block (c_seq (c_region ?_)))))
  refine wl (r_ia (i := k) U43 sz3_GLoose rfl rfl om rfl) (wl (r_ld1 (v := .int _ _) U3 rfl rfl hz) (waI rfl (x_nil (e_S (c_seq ?_)))))
  refine c_region (wl (r_fa U28 sz26 dE rfl rfl rfl) (wl (r_ld1 (v := .slice _ _ _) U26 rfl rfl (hb2.cell rfl)) (wmI rfl (wl (r_ia (i := i) U26 sz33 rfl rfl hin rfl) (wl (r_fa U33 sz3_GLoose dE rfl rfl rfl) ?_)))))
  refine wl (r_ld1 (v := .int _ _) U3 rfl rfl (hB.cell hnb (hnr 0 _ rfl))) (wl (r_bd1 (v0 := .int _ _) (fun v0 => #[v0, .slice none 0 0]) rfl kR) ?_)
  refine wl_al (cs := #[.int .i64 0, .slice none 0 0]) ze33 rfl (fun b11 w9 hb11 hs hr => ?_)
  have or_b2_b11 : b2 < b11 := nLL hb2.lt hr
  have or_b4_b11 : b4 < b11 := nLL hb4.lt hr
  have or_b17_b11 : b17 < b11 := nLL hb17.lt hr
  have or_b8_b11 : b8 < b11 := nLL hb8.lt hr
  have or_hoN_b11 := fun g hg => nLL (hoN.lt g hg).2 hr
  have or_hbz_b11 := (nLT hbz hr)
  have lo11 := nLT (Bel.size hB) hr
  replace hB := hB.tr0 hs
  replace hb2 := hb2.tr0 hs
  replace hb4 := hb4.tr0 hs
  replace hb17 := hb17.tr0 hs
  replace hO := hO.tr hs (by simp)
  replace hb8 := hb8.tr0 hs
  replace hoN := hoN.tr0 hs
  replace hrows := fun x hx => (hrows x hx).tr hs (by simp)
  replace hbz := nLT hbz (Same.size hs)
  clear hs
  clear hr
  refine wl_stW hb11 rfl rfl sz33 rfl oneA (fun w10 hq hs => ?_)
  replace hB := hB.tr1 hs lo11
  replace hb2 := hb2.tr1 hs om
  replace hb4 := hb4.tr1 hs om
  replace hb17 := hb17.tr1 hs om
  replace hO := hO.tr hs (fun g hg => by have h1 := List.mem_singleton.1 hg; omega)
  replace hb8 := hb8.tr1 hs om
  replace hoN := hoN.tr1 hs (fun g hg => by have := (hoN.lt g hg).1; (try have := or_hoN_b11 g hg); (try simp only [aL] at hg); (try simp only [List.mem_singleton] at hg); omega)
  replace hrows := fun x hx => (hrows x hx).tr hs (fun g hg => by rw [List.mem_singleton.1 hg]; first | exact .inr ⟨_, _, hb11, by decide⟩ | exact .inl om)
  replace hbz := nLT hbz (Same.size hs)
  clear hs
  replace hb11 := hq
  refine x_nil (e_S (c_seq (c_seq ?_)))
  have lb11 : bs ≤ b11 := or_hbz_b11
  have hlb5 : w.heap.size ≤ b11 + 1 := Nat.le_succ_of_le lo11
  refine c_region (wl (r_fa U28 sz26 dE rfl rfl rfl) (wl (r_ld1 (v := .slice _ _ _) U26 rfl rfl (hb2.cell rfl)) (wmI rfl (wl (r_ia (i := i) U26 sz33 rfl rfl hin rfl) (wl (r_fa U33 sz31 dE rfl rfl rfl) ?_)))))
  refine wl (r_ld1 (v := .slice _ _ _) U31 rfl rfl (hB.cell hnb (hnr 1 _ rfl))) (wl (r_len U31 rfl) (wmI rfl (x_nil (e_S (c_block ?_)))))
  refine c_loopS [13, 52, 53, 54, 55, 56, 57, 58, 59, 60, 61, 62, 63, 64, 65, 66, 67, 68, 69] (fun m g w' => ∃ (j : Nat) (A5 : Option Addr) (cap5 : Nat), j ≤ (gr[i]'hin).ln.length ∧ m = (gr[i]'hin).ln.length - j ∧ g 52 = .int .i64 j ∧ Bel w w' ∧ Blk w' b2 28 #[.slice (some ⟨nb, no, none⟩) gr.length cg] ∧ Blk w' b4 28 #[.slice none 0 0] ∧ Blk w' b17 3 (row gr.length (fun x => .int .i64 (numO o x))) ∧ Blk w' b8 28 #[.slice AN k capN] ∧ Blk w' b11 33 #[.int .i64 (gr[i]'hin).ty, .slice A5 j cap5] ∧ OrdF w' b17 b8 (some ⟨q, 0, none⟩) o ∧ Own w' (b8 + 1) 33 2 AN k capN (ndV (fun x => .int .i64 (nd gr (o.getD x 0)).ty) V k) ∧ (∀ x, x < k → RowO w' w.heap.size bs (V x) ((nd gr (o.getD x 0)).ln.map (canL o))) ∧ bs ≤ w'.heap.size ∧ Own w' (b11 + 1) 30 2 A5 j cap5 (lnV (((gr[i]'hin).ln.take j).map (canL o)))) ((gr[i]'hin).ln.length) ?_ (fun m g15 w11 hI => ?_)
  ·
   exact ⟨0, none, 0, Nat.zero_le _, rfl, rfl, hB, hb2, hb4, hb17, hb8, hb11, hO, hoN, hrows, hbz, Own.nil _ _ _ _⟩
  obtain ⟨j, A5, cap5, hj, hmj, h52, hB, hb2, hb4, hb17, hb8, hb11, hO, hoN, hrows, hbz, ho5⟩ := hI
  refine c_know 52 (.int .i64 j) h52 nu (c_seq (c_region (wl (r_lss rfl rfl) (x_nil (e_S ?_)))))
  refine c_seq ?_
  refine c_ifd rfl (fun c53 => ?_) (fun c53 => ?_)
  ·
   have hjl : j < (gr[i]'hin).ln.length := by omega
   obtain ⟨lb, lof, rfl, hlb, hlr⟩ := hln.at_ hB hjl
   obtain ⟨t, ht, htl⟩ : ∃ t : Nat, ((gr[i]'hin).ln[j]'hjl).2 = (t : Int) ∧ t < gr.length := by
     have h1 := hk.ln i hin _ (List.getElem_mem hjl)
     exact ⟨(((gr[i]'hin).ln[j]'hjl).2).toNat, by omega, by omega⟩
   refine c_skip (e_S (c_seq (c_block (c_seq (c_region ?_)))))
   refine wl (r_ia (i := j) U31 sz30 rfl rfl om rfl) (wl (r_ldS U30 rfl rfl hlr sz30) ?_)
   refine wl_al (cs := #[.int .i64 0, .int .i64 0]) ze30 rfl (fun b13 w12 hb13 hs hr => ?_)
   have or_b2_b13 : b2 < b13 := nLL hb2.lt hr
   have or_b4_b13 : b4 < b13 := nLL hb4.lt hr
   have or_b17_b13 : b17 < b13 := nLL hb17.lt hr
   have or_b8_b13 : b8 < b13 := nLL hb8.lt hr
   have or_hbz_b13 := (nLT hbz hr)
   have or_b11_b13 : b11 < b13 := nLL hb11.lt hr
   have or_hoN_b13 := fun g hg => nLL (hoN.lt g hg).2 hr
   have or_ho5_b13 := fun g hg => nLL (ho5.lt g hg).2 hr
   have lo13 := nLT (Bel.size hB) hr
   replace hB := hB.tr0 hs
   replace hb2 := hb2.tr0 hs
   replace hb4 := hb4.tr0 hs
   replace hb17 := hb17.tr0 hs
   replace hO := hO.tr hs (by simp)
   replace hb8 := hb8.tr0 hs
   replace hrows := fun x hx => (hrows x hx).tr hs (by simp)
   replace hbz := nLT hbz (Same.size hs)
   replace hb11 := hb11.tr0 hs
   replace hoN := hoN.tr0 hs
   replace ho5 := ho5.tr0 hs
   clear hs
   clear hr
   refine wl_stW hb13 rfl rfl sz30 rfl oneA (fun w13 hq hs => ?_)
   replace hB := hB.tr1 hs lo13
   replace hb2 := hb2.tr1 hs om
   replace hb4 := hb4.tr1 hs om
   replace hb17 := hb17.tr1 hs om
   replace hO := hO.tr hs (fun g hg => by have h1 := List.mem_singleton.1 hg; omega)
   replace hb8 := hb8.tr1 hs om
   replace hrows := fun x hx => (hrows x hx).tr hs (fun g hg => by rw [List.mem_singleton.1 hg]; first | exact .inr ⟨_, _, hb13, by decide⟩ | exact .inl om)
   replace hbz := nLT hbz (Same.size hs)
   replace hb11 := hb11.tr1 hs om
   replace hoN := hoN.tr1 hs (fun g hg => by have := (hoN.lt g hg).1; (try have := or_hoN_b13 g hg); (try simp only [aL] at hg); (try simp only [List.mem_singleton] at hg); omega)
   replace ho5 := ho5.tr1 hs (fun g hg => by have := (ho5.lt g hg).1; (try have := or_ho5_b13 g hg); (try simp only [aL] at hg); (try simp only [List.mem_singleton] at hg); omega)
   clear hs
   replace hb13 := hq
   refine x_nil (e_S ?_)
   rw [ht] at hb13
   have zo := fun g hg => (ho5.lt g hg).2
   have hsz := Bel.size hB
   refine c_monoSO 13 [56, 57, 58, 59, 60, 61, 62, 63, 64, 65, 66, 67, 68] (aL A5) 11 (fun ix v wv => match ix with | 0 => v = .pointer (some ⟨b11, 1, none⟩) | 1 => v = .slice A5 j cap5 | 2 => v = .pointer (some ⟨b13, 0, none⟩) | 3 => v = .int .i64 ((gr[i]'hin).ln[j]'hjl).1 | 4 => v = .slice (some ⟨b17, 0, none⟩) gr.length gr.length | 5 => v = .pointer (some ⟨b13, 1, none⟩) | 6 => v = .int .i64 (t : Nat) | 7 => v = .pointer (some ⟨b17, 0 + t * 1, none⟩) | 8 => v = .int .i64 (numO o t) | 9 => v = .agg #[.int .i64 ((gr[i]'hin).ln[j]'hjl).1, .int .i64 (numO o t)] | 10 => ∃ b, v = .slice (some ⟨b, 0, none⟩) 1 1 ∧ w13.heap.size ≤ b ∧ Blk wv b 30 #[.int .i64 ((gr[i]'hin).ln[j]'hjl).1, .int .i64 (numO o t)] | 11 => ∃ g cap, v = .slice (some ⟨g, 0, none⟩) (j + 1) cap ∧ Own wv (b11 + 1) 30 2 (some ⟨g, 0, none⟩) (j + 1) cap (lnV (((gr[i]'hin).ln.take j).map (canL o)) ++ [.int .i64 ((gr[i]'hin).ln[j]'hjl).1, .int .i64 (numO o t)]) | 12 => v = .pointer (some ⟨b11, 1, none⟩) | _ => True) (fun _ => True) kR kR ?_ (fun _ _ _ _ => trivial) ?_ ?_ dE ?_
   ·
    intro ix v wv wv2 h hs
    match ix, h with
    | 0, h => exact h
    | 1, h => exact h
    | 2, h => exact h
    | 3, h => exact h
    | 4, h => exact h
    | 5, h => exact h
    | 6, h => exact h
    | 7, h => exact h
    | 8, h => exact h
    | 9, h => exact h
    | 10, h =>
     obtain ⟨b66, e66, lo66, hb66⟩ := (show ∃ b, v = .slice (some ⟨b, 0, none⟩) 1 1 ∧ w13.heap.size ≤ b ∧ Blk wv b 30 #[.int .i64 ((gr[i]'hin).ln[j]'hjl).1, .int .i64 (numO o t)] from h)
     exact ⟨b66, e66, lo66, hb66.tr0 hs⟩
    | 11, h =>
     obtain ⟨g67, cap67, e67, ho67⟩ := (show ∃ g cap, v = .slice (some ⟨g, 0, none⟩) (j + 1) cap ∧ Own wv (b11 + 1) 30 2 (some ⟨g, 0, none⟩) (j + 1) cap (lnV (((gr[i]'hin).ln.take j).map (canL o)) ++ [.int .i64 ((gr[i]'hin).ln[j]'hjl).1, .int .i64 (numO o t)]) from h)
     exact ⟨g67, cap67, e67, ho67.tr0 hs⟩
    | 12, h => exact h
    | _ + 13, h => exact trivial
   ·
    intro ix o hix hne hoq gg wx hs hd
    match ix, hix, hne, hoq with
    | 0, _, _, hoq =>
     obtain rfl := sI hoq
     have hs0 := hs
     replace hb11 := hb11.tr hs (fun hx => by have := (ho5.lt _ hx).1; (try have := or_ho5_b11 _ hx); omega)
     refine os_rv (r_fa U33 sz31 dE rfl rfl rfl) ⟨Same.refl _ _, ?_⟩
     exact rfl
    | 1, _, _, hoq =>
     obtain rfl := sI hoq
     have hs0 := hs
     replace hb11 := hb11.tr hs (fun hx => by have := (ho5.lt _ hx).1; (try have := or_ho5_b11 _ hx); omega)
     have d0 : gg 56 = .pointer (some ⟨b11, 1, none⟩) := hd 0 (dep_of kR)
     have e56 := d0
     refine os_know 56 (.pointer (some ⟨b11, 1, none⟩)) e56 nu ?_
     refine os_rv (r_ld1 (v := .slice _ _ _) U31 rfl rfl (hb11.cell rfl)) ⟨Same.refl _ _, ?_⟩
     exact rfl
    | 2, _, _, hoq =>
     obtain rfl := sI hoq
     have hs0 := hs
     replace hb13 := hb13.tr hs (fun hx => by have := (ho5.lt _ hx).1; (try have := or_ho5_b13 _ hx); omega)
     refine os_rv (r_fa U30 sz3_GLoose dE rfl rfl rfl) ⟨Same.refl _ _, ?_⟩
     exact rfl
    | 3, _, _, hoq =>
     obtain rfl := sI hoq
     have hs0 := hs
     replace hb13 := hb13.tr hs (fun hx => by have := (ho5.lt _ hx).1; (try have := or_ho5_b13 _ hx); omega)
     have d2 : gg 58 = .pointer (some ⟨b13, 0, none⟩) := hd 2 (dep_of kR)
     have e58 := d2
     refine os_know 58 (.pointer (some ⟨b13, 0, none⟩)) e58 nu ?_
     refine os_rv (r_ld1 (v := .int _ _) U3 rfl rfl (hb13.cell rfl)) ⟨Same.refl _ _, ?_⟩
     exact rfl
    | 4, _, _, hoq =>
     obtain rfl := sI hoq
     have hs0 := hs
     replace hb17 := hb17.tr hs (fun hx => by have := (ho5.lt _ hx).1; (try have := or_ho5_b17 _ hx); omega)
     refine os_rv (r_mv (v := .slice _ _ _) rfl) ⟨Same.refl _ _, ?_⟩
     exact rfl
    | 5, _, _, hoq =>
     obtain rfl := sI hoq
     have hs0 := hs
     replace hb13 := hb13.tr hs (fun hx => by have := (ho5.lt _ hx).1; (try have := or_ho5_b13 _ hx); omega)
     refine os_rv (r_fa U30 sz3_GLoose dE rfl rfl rfl) ⟨Same.refl _ _, ?_⟩
     exact rfl
    | 6, _, _, hoq =>
     obtain rfl := sI hoq
     have hs0 := hs
     replace hb13 := hb13.tr hs (fun hx => by have := (ho5.lt _ hx).1; (try have := or_ho5_b13 _ hx); omega)
     have d5 : gg 61 = .pointer (some ⟨b13, 1, none⟩) := hd 5 (dep_of kR)
     have e61 := d5
     refine os_know 61 (.pointer (some ⟨b13, 1, none⟩)) e61 nu ?_
     refine os_rv (r_ld1 (v := .int _ _) U3 rfl rfl (hb13.cell rfl)) ⟨Same.refl _ _, ?_⟩
     exact rfl
    | 7, _, _, hoq =>
     obtain rfl := sI hoq
     have hs0 := hs
     have d4 : gg 60 = .slice (some ⟨b17, 0, none⟩) gr.length gr.length := hd 4 (dep_of kR)
     have e60 := d4
     have d6 : gg 62 = .int .i64 (t : Nat) := hd 6 (dep_of kR)
     have e62 := d6
     refine os_know 60 (.slice (some ⟨b17, 0, none⟩) gr.length gr.length) e60 nu (os_know 62 (.int .i64 (t : Nat)) e62 nu ?_)
     refine os_rv (r_ia (i := t) U43 sz3_GLoose rfl rfl htl rfl) ⟨Same.refl _ _, ?_⟩
     exact rfl
    | 8, _, _, hoq =>
     obtain rfl := sI hoq
     have hs0 := hs
     replace hb17 := hb17.tr hs (fun hx => by have := (ho5.lt _ hx).1; (try have := or_ho5_b17 _ hx); omega)
     have d7 : gg 63 = .pointer (some ⟨b17, 0 + t * 1, none⟩) := hd 7 (dep_of kR)
     have e63 := d7
     refine os_know 63 (.pointer (some ⟨b17, 0 + t * 1, none⟩)) e63 nu ?_
     refine os_rv (r_ld1 (v := .int _ _) U3 rfl rfl (hb17.cell (row_get htl))) ⟨Same.refl _ _, ?_⟩
     exact rfl
    | 9, _, _, hoq =>
     obtain rfl := sI hoq
     have hs0 := hs
     have d3 : gg 59 = .int .i64 ((gr[i]'hin).ln[j]'hjl).1 := hd 3 (dep_of kR)
     have e59 := d3
     have d8 : gg 64 = .int .i64 (numO o t) := hd 8 (dep_of kR)
     have e64 := d8
     refine os_know 59 (.int .i64 ((gr[i]'hin).ln[j]'hjl).1) e59 nu (os_know 64 (.int .i64 (numO o t)) e64 nu ?_)
     refine os_rv (r_bd2 (v0 := .int _ _) (v1 := .int _ _) (fun v0 v1 => #[v0, v1]) rfl rfl kR) ⟨Same.refl _ _, ?_⟩
     exact rfl
    | 10, _, _, hoq =>
     obtain rfl := sI hoq
     have hs0 := hs
     have d9 : gg 65 = .agg #[.int .i64 ((gr[i]'hin).ln[j]'hjl).1, .int .i64 (numO o t)] := hd 9 (dep_of kR)
     have e65 := d9
     refine os_know 65 (.agg #[.int .i64 ((gr[i]'hin).ln[j]'hjl).1, .int .i64 (numO o t)]) e65 nu ?_
     refine os_wl (fun ops Q K => ?_)
     refine wl_bs (cs := #[_, _]) [(0, .agg _)] rfl U31 sz30 ze30 dE dE kR rfl (fun b66 w14 hb66 hs hr => ?_)
     exact K _ _ ⟨hs, ⟨_, rfl, nLT hs0.size hr, hb66⟩⟩
    | 11, _, hne, _ => exact absurd rfl hne
    | 12, _, _, hoq =>
     obtain rfl := sI hoq
     have hs0 := hs
     replace hb11 := hb11.tr hs (fun hx => by have := (ho5.lt _ hx).1; (try have := or_ho5_b11 _ hx); omega)
     refine os_rv (r_fa U33 sz31 dE rfl rfl rfl) ⟨Same.refl _ _, ?_⟩
     exact rfl
    | _ + 13, hix, _, _ => exact absurd hix om
   ·
    intro o hoq gg wx hs hd
    obtain rfl := sI hoq
    have hs0 := hs
    replace hB := hB.tr0 hs
    replace hb2 := hb2.tr0 hs
    replace hb4 := hb4.tr0 hs
    replace hb17 := hb17.tr0 hs
    replace hO := hO.tr hs (by simp)
    replace hb8 := hb8.tr0 hs
    replace hrows := fun x hx => (hrows x hx).tr hs (by simp)
    replace hbz := nLT hbz (Same.size hs)
    replace hb11 := hb11.tr0 hs
    replace hoN := hoN.tr0 hs
    replace ho5 := ho5.tr0 hs
    replace hb13 := hb13.tr0 hs
    clear hs
    have d1 : gg 57 = .slice A5 j cap5 := hd 1 (dep_of kR)
    have e57 := d1
    have d10 : ∃ b, gg 66 = .slice (some ⟨b, 0, none⟩) 1 1 ∧ w13.heap.size ≤ b ∧ Blk wx b 30 #[.int .i64 ((gr[i]'hin).ln[j]'hjl).1, .int .i64 (numO o t)] := hd 10 (dep_of kR)
    obtain ⟨b66, e66, lo66, hb66⟩ := d10
    refine os_know 57 (.slice A5 j cap5) e57 nu (os_know 66 (.slice (some ⟨b66, 0, none⟩) 1 1) e66 nu ?_)
    refine os_wl (fun ops Q K => ?_)
    refine wl_app U31 in30 rfl dE ho5 hb66 rfl rfl rfl oneA dE om om hb11.lt (fun g67 cap67 w2 ho67 hs2 hg67 => ?_)
    refine K _ _ ⟨hs2, ⟨_, _, rfl, ho67⟩, trivial, fun kx v hne h => ?_⟩
    match kx, hne, h with
    | 0, _, h => exact h
    | 1, _, h => exact h
    | 2, _, h => exact h
    | 3, _, h => exact h
    | 4, _, h => exact h
    | 5, _, h => exact h
    | 6, _, h => exact h
    | 7, _, h => exact h
    | 8, _, h => exact h
    | 9, _, h => exact h
    | 10, _, h =>
     obtain ⟨b66, e66, lo66, hb66⟩ := (show ∃ b, v = .slice (some ⟨b, 0, none⟩) 1 1 ∧ w13.heap.size ≤ b ∧ Blk wx b 30 #[.int .i64 ((gr[i]'hin).ln[j]'hjl).1, .int .i64 (numO o t)] from h)
     exact ⟨b66, e66, lo66, hb66.tr hs2 (fun hx => by have := zo _ hx; omega)⟩
    | 11, hne, _ => exact absurd rfl hne
    | 12, _, h => exact h
    | _ + 13, _, _ => exact trivial
   intro gg w15 hs _ hR
   have hs0 := hs
   replace hB := hB.tr hs (fun g hg => nLT hlb5 (ho5.lt g hg).1)
   replace hb2 := hb2.tr hs (fun hx => by have := (ho5.lt _ hx).1; (try have := or_ho5_b2 _ hx); omega)
   replace hb4 := hb4.tr hs (fun hx => by have := (ho5.lt _ hx).1; (try have := or_ho5_b4 _ hx); omega)
   replace hb17 := hb17.tr hs (fun hx => by have := (ho5.lt _ hx).1; (try have := or_ho5_b17 _ hx); omega)
   replace hO := hO.tr hs (fun g hg => .inr (by have := ((ho5).lt g hg).1; omega))
   replace hb8 := hb8.tr hs (fun hx => by have := (ho5.lt _ hx).1; (try have := or_ho5_b8 _ hx); omega)
   replace hrows := fun x hx => (hrows x hx).tr hs (fun g hg => by first | exact .inl (by have := ((ho5).lt g hg).1; omega) | (obtain ⟨cs, h⟩ := (ho5).typ g hg; exact .inr ⟨_, _, h, by decide⟩))
   replace hbz := nLT hbz (Same.size hs)
   replace hb11 := hb11.tr hs (fun hx => by have := (ho5.lt _ hx).1; (try have := or_ho5_b11 _ hx); omega)
   replace hoN := hoN.tr hs (fun g hg hx => by have := (ho5.lt _ hx).1; (try have := luN g hg); omega)
   replace hb13 := hb13.tr hs (fun hx => by have := (ho5.lt _ hx).1; (try have := or_ho5_b13 _ hx); omega)
   have d11 : ∃ g cap, gg 67 = .slice (some ⟨g, 0, none⟩) (j + 1) cap ∧ Own w15 (b11 + 1) 30 2 (some ⟨g, 0, none⟩) (j + 1) cap (lnV (((gr[i]'hin).ln.take j).map (canL o)) ++ [.int .i64 ((gr[i]'hin).ln[j]'hjl).1, .int .i64 (numO o t)]) := hR 11 dE
   obtain ⟨g67, cap67, e67, ho67⟩ := d11
   have d12 : gg 68 = .pointer (some ⟨b11, 1, none⟩) := hR 12 dE
   have e68 := d12
   replace ho67 : Own w15 (b11 + 1) 30 2 (some ⟨g67, 0, none⟩) (j + 1) cap67 (lnV (((gr[i]'hin).ln.take (j + 1)).map (canL o))) := by
     rw [List.take_succ_eq_append_getElem hjl, List.map_append, List.map_cons, List.map_nil, ← lnV_snoc]
     have e : canL o ((gr[i]'hin).ln[j]'hjl) = (((gr[i]'hin).ln[j]'hjl).1, numO o t) := by simp [canL, ht]
     rw [e]; exact ho67
   have ho5 := ho67
   refine wl_know 67 (.slice (some ⟨g67, 0, none⟩) (j + 1) cap67) e67 nu (wl_know 68 (.pointer (some ⟨b11, 1, none⟩)) e68 nu ?_)
   refine wl_st1 (v := .slice _ _ _) hb11 rfl rfl sz31 (by first | decide | simp) rfl rfl (fun w16 hq hs => ?_)
   replace hB := hB.tr1 hs lo11
   replace hb2 := hb2.tr1 hs om
   replace hb4 := hb4.tr1 hs om
   replace hb17 := hb17.tr1 hs om
   replace hO := hO.tr hs (fun g hg => by have h1 := List.mem_singleton.1 hg; omega)
   replace hb8 := hb8.tr1 hs om
   replace hrows := fun x hx => (hrows x hx).tr hs (fun g hg => by rw [List.mem_singleton.1 hg]; first | exact .inr ⟨_, _, hb11, by decide⟩ | exact .inl om)
   replace hbz := nLT hbz (Same.size hs)
   replace hoN := hoN.tr1 hs (fun g hg => by have := (hoN.lt g hg).1; (try have := or_hoN_b11 g hg); (try simp only [aL] at hg); (try simp only [List.mem_singleton] at hg); omega)
   replace hb13 := hb13.tr1 hs om
   replace ho5 := ho5.tr1 hs (fun g hg => by have := (ho5.lt g hg).1; (try have := or_ho5_b11 g hg); (try simp only [aL] at hg); (try simp only [List.mem_singleton] at hg); omega)
   clear hs
   replace hb11 := hq
   refine x_nil (e_B (e_S (c_region (wl (r_add rfl rfl rfl om) (wmI rfl ?_)))))
   refine x_nil (e_LS ((gr[i]'hin).ln.length - (j + 1)) om agA ?_)
   exact ⟨j + 1, _, _, by omega, rfl, rfl, hB, hb2, hb4, hb17, hb8, hb11, hO, hoN, hrows, hbz, ho5⟩
  have hjx : j = (gr[i]'hin).ln.length := by omega
  subst hjx
  refine c_exit (e_Sx (e_LSx (e_Bx (e_S ?_))))
  have hrow5 := RowO.of (lo := w.heap.size) (xs := (gr[i]'hin).ln.map (canL o)) hlb5 (by
    rw [List.take_length] at ho5
    rw [List.length_map]; exact ho5)
  rw [List.length_map] at hrow5
  obtain ⟨s5, hs5⟩ : ∃ b, b = w11.heap.size := ⟨_, rfl⟩
  rw [← hs5] at hrow5
  have hz5 : s5 ≤ w11.heap.size := Nat.le_of_eq hs5
  refine c_region (wl (r_fa U28 sz26 dE rfl rfl rfl) (wl (r_ld1 (v := .slice _ _ _) U26 rfl rfl (hb8.cell rfl)) (wl (r_ldS U33 rfl rfl hb11.range0 sz33) ?_)))
  refine wl_bs (cs := #[_, _]) [(0, .agg _)] rfl U26 sz33 ze33 dE dE kR rfl (fun b73 w17 hb73 hs hr => ?_)
  have or_b2_b73 : b2 < b73 := nLL hb2.lt hr
  have or_b4_b73 : b4 < b73 := nLL hb4.lt hr
  have or_b17_b73 : b17 < b73 := nLL hb17.lt hr
  have or_b8_b73 : b8 < b73 := nLL hb8.lt hr
  have or_hbz_b73 := (nLT hbz hr)
  have or_b11_b73 : b11 < b73 := nLL hb11.lt hr
  have or_hoN_b73 := fun g hg => nLL (hoN.lt g hg).2 hr
  have or_ho5_b73 := fun g hg => nLL (ho5.lt g hg).2 hr
  have or_hz5_b73 := (nLT hz5 hr)
  have lo73 := nLT (Bel.size hB) hr
  replace hB := hB.tr0 hs
  replace hb2 := hb2.tr0 hs
  replace hb4 := hb4.tr0 hs
  replace hb17 := hb17.tr0 hs
  replace hO := hO.tr hs (by simp)
  replace hb8 := hb8.tr0 hs
  replace hrows := fun x hx => (hrows x hx).tr hs (by simp)
  replace hbz := nLT hbz (Same.size hs)
  replace hb11 := hb11.tr0 hs
  replace hoN := hoN.tr0 hs
  replace ho5 := ho5.tr0 hs
  replace hrow5 := hrow5.tr hs (by simp)
  replace hz5 := nLT hz5 (Same.size hs)
  clear hs
  clear hr
  refine wl_app U26 in33 rfl dE hoN hb73 rfl rfl rfl oneA dE om om hb8.lt (fun g74 cap74 w18 ho74 hs hg => ?_)
  have ne_ho74_b2 : g74 ≠ b2 := fun e => by
   have hl := hb2.lt
   rcases hg with hg | hg
   · have h1 := hoN.lt g74 (by rw [hg]; exact List.mem_singleton.2 rfl)
     (try have := or_hoN_b2 g74 (by rw [hg]; exact List.mem_singleton.2 rfl)); omega
   · omega
  have ne_ho74_b4 : g74 ≠ b4 := fun e => by
   have hl := hb4.lt
   rcases hg with hg | hg
   · have h1 := hoN.lt g74 (by rw [hg]; exact List.mem_singleton.2 rfl)
     (try have := or_hoN_b4 g74 (by rw [hg]; exact List.mem_singleton.2 rfl)); omega
   · omega
  have ne_ho74_b17 : g74 ≠ b17 := fun e => by
   have hl := hb17.lt
   rcases hg with hg | hg
   · have h1 := hoN.lt g74 (by rw [hg]; exact List.mem_singleton.2 rfl)
     (try have := or_hoN_b17 g74 (by rw [hg]; exact List.mem_singleton.2 rfl)); omega
   · omega
  have ne_ho74_b8 : g74 ≠ b8 := fun e => by
   have hl := hb8.lt
   rcases hg with hg | hg
   · have h1 := hoN.lt g74 (by rw [hg]; exact List.mem_singleton.2 rfl)
     (try have := or_hoN_b8 g74 (by rw [hg]; exact List.mem_singleton.2 rfl)); omega
   · omega
  have ne_ho74_b11 : g74 ≠ b11 := fun e => by
   have hl := hb11.lt
   rcases hg with hg | hg
   · have h1 := hoN.lt g74 (by rw [hg]; exact List.mem_singleton.2 rfl)
     (try have := or_hoN_b11 g74 (by rw [hg]; exact List.mem_singleton.2 rfl)); omega
   · omega
  replace hB := hB.tr hs (fun g hg => nLT hlo8 (hoN.lt g hg).1)
  replace hb2 := hb2.tr hs (fun hx => by have := (hoN.lt _ hx).1; (try have := or_hoN_b2 _ hx); omega)
  replace hb4 := hb4.tr hs (fun hx => by have := (hoN.lt _ hx).1; (try have := or_hoN_b4 _ hx); omega)
  replace hb17 := hb17.tr hs (fun hx => by have := (hoN.lt _ hx).1; (try have := or_hoN_b17 _ hx); omega)
  replace hO := hO.tr hs (fun g hg => .inr (by have := ((hoN).lt g hg).1; omega))
  replace hb8 := hb8.tr hs (fun hx => by have := (hoN.lt _ hx).1; (try have := or_hoN_b8 _ hx); omega)
  replace hrows := fun x hx => (hrows x hx).tr hs (fun g hg => by first | exact .inl (by have := ((hoN).lt g hg).1; omega) | (obtain ⟨cs, h⟩ := (hoN).typ g hg; exact .inr ⟨_, _, h, by decide⟩))
  replace hbz := nLT hbz (Same.size hs)
  replace hb11 := hb11.tr hs (fun hx => by have := (hoN.lt _ hx).1; (try have := or_hoN_b11 _ hx); omega)
  replace hrow5 := hrow5.tr hs (fun g hg => by first | exact .inl (by have := ((hoN).lt g hg).1; omega) | (obtain ⟨cs, h⟩ := (hoN).typ g hg; exact .inr ⟨_, _, h, by decide⟩))
  replace hz5 := nLT hz5 (Same.size hs)
  have hoN2 : Own w18 (b8 + 1) 33 2 (some ⟨g74, 0, none⟩) (k + 1) cap74 (ndV (fun x => .int .i64 (nd gr (o.getD x 0)).ty) (fun x => if x = k then .slice A5 (gr[i]'hin).ln.length cap5 else V x) (k + 1)) := by
    rw [ndV_snoc, ndV_congr (f' := (fun x => .int .i64 (nd gr (o.getD x 0)).ty)) (h' := V) (fun x _ => rfl) (fun x hx => by rw [if_neg (show ¬ x = k from by omega)])]
    simp only [if_true]
    rw [hgd, hnd]; exact ho74
  refine wl (r_fa U28 sz26 dE rfl rfl rfl) ?_
  refine wl_st1 (v := .slice _ _ _) hb8 rfl rfl sz26 (by first | decide | simp) rfl rfl (fun w19 hq hs => ?_)
  replace hB := hB.tr1 hs lo8
  replace hb2 := hb2.tr1 hs om
  replace hb4 := hb4.tr1 hs om
  replace hb17 := hb17.tr1 hs om
  replace hO := hO.tr hs (fun g hg => by have h1 := List.mem_singleton.1 hg; omega)
  replace hrows := fun x hx => (hrows x hx).tr hs (fun g hg => by rw [List.mem_singleton.1 hg]; first | exact .inr ⟨_, _, hb8, by decide⟩ | exact .inl om)
  replace hbz := nLT hbz (Same.size hs)
  replace hb11 := hb11.tr1 hs om
  replace hrow5 := hrow5.tr hs (fun g hg => by rw [List.mem_singleton.1 hg]; first | exact .inr ⟨_, _, hb8, by decide⟩ | exact .inl om)
  replace hz5 := nLT hz5 (Same.size hs)
  replace ho74 := ho74.tr1 hs (fun g hg => by have := (ho74.lt g hg).1; (try have := or_ho74_b8 g hg); (try simp only [aL] at hg); (try simp only [List.mem_singleton] at hg); omega)
  replace hoN2 := hoN2.tr1 hs (fun g hg => by have := (hoN2.lt g hg).1; (try have := or_hoN2_b8 g hg); (try simp only [aL] at hg); (try simp only [List.mem_singleton] at hg); omega)
  clear hs
  replace hb8 := hq
  refine x_nil (e_B (e_S (c_region (wl (r_add rfl rfl rfl om) (wmI rfl ?_)))))
  refine x_nil (e_LS (o.length - (k + 1)) om agA ?_)
  exact ⟨k + 1, _, _, fun x => if x = k then .slice A5 (gr[i]'hin).ln.length cap5 else V x, by omega, rfl, rfl, hB, hb2, hb4, hb17, hb8, hO, hoN2, fun x hx => by
    by_cases e : x = k
    · subst e
      simp only [if_true]
      rw [hgd, hnd]; exact hrow5.up hz5
    · simp only [if_neg e]
      exact (hrows x om).up hbz⟩
 have hke : k = o.length := by omega
 subst hke
 refine c_exit (e_Sx (e_LSx (e_Bx (e_S (c_seq ?_)))))
 refine c_region (wl (r_ldS U28 rfl rfl hb8.range0 sz28) ?_)
 refine wl_stW hb4 rfl rfl sz28 rfl oneA (fun w20 hq hs => ?_)
 replace hB := hB.tr1 hs lo4
 replace hb2 := hb2.tr1 hs om
 replace hb17 := hb17.tr1 hs om
 replace hb8 := hb8.tr1 hs om
 replace hoN := hoN.tr1 hs (fun g hg => by have := (hoN.lt g hg).1; (try have := or_hoN_b4 g hg); (try simp only [aL] at hg); (try simp only [List.mem_singleton] at hg); omega)
 replace hrows := fun x hx => (hrows x hx).tr hs (fun g hg => by rw [List.mem_singleton.1 hg]; first | exact .inr ⟨_, _, hb4, by decide⟩ | exact .inl om)
 replace hbz := nLT hbz (Same.size hs)
 clear hs
 replace hb4 := hq
 refine x_nil (e_S (c_ret (fin1 (.inl rfl) rfl (rr_cell U28 rfl rfl hb4.range0 sz28) ?_)))
 have hcl : (canG gr o).length = o.length := by simp [canG]
 refine ⟨⟨o, _, _, hD, hok, rfl, GrT.mk hoN hcl hlo8 (fun x hx => ?_) (fun g hg => (hoN.lt g hg).2) hbz (fun x hx => ?_)⟩, hB⟩
 · rw [nd_canG hx]
 · rw [nd_canG hx]
   exact hrows x hx
theorem rfrom2_any (G : Option Addr) (cg nf : Nat) (gr : List Nd) (r : Nat) (w : World) (hG : NodesIn w G gr) (hk : GOk2 nf gr) (hnf : nf ≤ 1000) (hr : r < gr.length) : Calls Tryd.prog 88 #[.agg #[.slice G gr.length cg], .int .i64 r] w fun e w' => (∃ o A c, DL gr [r] [] o ∧ OOk gr.length o ∧ e = .returned (.agg #[.slice A o.length c]) ∧ (∀ w2, FrSame w.heap.size w' w2 → NodesIn w2 A (canG gr o))) ∧ Bel w w' := (rfrom3_any G cg nf gr r w hG hk hnf hr).mono fun e w' h => by
  obtain ⟨⟨o, A, c, h1, h2, h3, h4⟩, hs⟩ := h
  exact ⟨⟨o, A, c, h1, h2, h3, fun w2 hf => by have := (h4.fr hf).nodes; rwa [rtG_self] at this⟩, hs⟩
end Go.Proofs.YtegngekpmpdngaaDoor
