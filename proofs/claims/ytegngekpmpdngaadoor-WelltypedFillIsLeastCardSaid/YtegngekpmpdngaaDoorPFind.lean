/- What these functions of the program compute, at every world: (*glosswright/unify.pool).find, slices.Grow[[]glosswright/api.Link,glosswright/api.Link], slices.Concat[[]glosswright/api.Link,glosswright/api.Link]. -/
import Derived.Test.YtegngekpmpdngaaDoorU
import Derived.Test.YtegngekpmpdngaaDoorSFind
import Derived.Test.YtegngekpmpdngaaDoorPool
namespace Go.Proofs.YtegngekpmpdngaaDoor
open Go.RowKit
theorem fn116 : callable Tryd.prog 116 = true := by kernel_rfl
theorem sz43_PFind : (Tryd.prog.info? 43).map (·.size) = some 1 := by kernel_rfl
set_option maxHeartbeats 1000000 in
theorem pfind_any {ob bp n cp ct cl i : Nat} {PA TA LA : Option Addr} {c0 c1 : Value} {P rep ρ : Nat → Nat} (w : World) (hbp : Blk w bp 143 #[c0, c1, .slice PA n cp, .slice TA n ct, .slice LA n cl]) (hpa : Own w ob 3 1 PA n cp (rowL n (vN P))) (hbo : bp < ob) (hu : UF n P rep ρ) (hi : i < n) : Calls Tryd.prog 108 #[.pointer (some ⟨bp, 0, none⟩), .int .i64 (i : Nat)] w fun e w' => ∃ P', e = .returned (.int .i64 ((rep i : Nat) : Int)) ∧ Own w' ob 3 1 PA n cp (rowL n (vN P')) ∧ UF n P' rep ρ ∧ Same (aL PA) w w' := by
 obtain ⟨q, rfl, hqb, hql, _⟩ := hpa.rowc hi
 have hS : SameQ [q] w w := Same.refl _ _
 have hnm := hpa.max
 refine enter Tryd.func108 Tryd.ntmps108 rfl (Nat.le_of_ble_eq_true rfl) (c_seq (c_region (waI rfl (x_nil (e_S ?_)))))
 refine c_seq (c_block ?_)
 refine c_loopS [1, 5, 6, 7, 8, 9, 10, 11, 12, 13, 14, 15, 16, 17, 18, 19, 20, 21, 22, 23, 24, 25, 26, 27, 28, 29, 30, 31, 32, 33, 34, 35, 36, 37, 38, 39] (fun m g w' => ∃ (j : Nat) (Q : Nat → Nat), j < n ∧ m = ρ j ∧ g 1 = .int .i64 (j : Nat) ∧ Blk w' bp 143 #[c0, c1, .slice (some ⟨q, 0, none⟩) n cp, .slice TA n ct, .slice LA n cl] ∧ Own w' ob 3 1 (some ⟨q, 0, none⟩) n cp (rowL n (vN Q)) ∧ SameQ [q] w w' ∧ UF n Q rep ρ ∧ rep j = rep i) (ρ i) ?_ (fun m g1 w1 hI => ?_)
 ·
  exact ⟨i, P, hi, rfl, rfl, hbp, hpa, hS, hu, rfl⟩
 obtain ⟨j, Q, hj, hm, h1, hbp, hpa, hS, hu, hrj⟩ := hI
 refine c_know 1 (.int .i64 (j : Nat)) h1 nu (c_seq (c_seq (c_region (wl (r_mv (v := .pointer (some _)) rfl) (wl (r_nc rfl) ?_)))))
 refine wl (r_fa U143 sz43_PFind dE rfl rfl rfl) (wl (r_ld1 (v := .slice _ _ _) U43 rfl rfl (hbp.cell rfl)) (wmI rfl (wl (r_ia (i := j) U43 sz3_GSearch rfl rfl hj rfl) (wl (r_ld1 (v := .int _ _) U3 rfl rfl (hpa.rowq hj)) (wmI rfl ?_)))))
 refine wl (r_neq rfl rfl) (x_nil (e_S ?_))
 refine c_ifd rfl (fun c13 => ?_) (fun c13 => ?_)
 ·
  have hne : Q j ≠ j := fun e => c13 (by rw [e])
  have hu2 := hu.half hj hne
  have hlt : ρ (Q (Q j)) < ρ j := by
    have h1 := hu.ex j hj hne
    by_cases e : Q (Q j) = Q j
    · rw [e]; exact h1
    · exact Nat.lt_trans (hu.ex _ (hu.lt j hj) e) h1
  have hq1 := hu.lt j hj
  obtain ⟨g0, cur, hA0, _, hbA, hszA, hrdA, hclA⟩ := hpa.open_ om
  cases hA0
  refine c_skip (e_S (c_block (c_seq ?_)))
  refine c_tail 19 kR kR (fun w2 hs => ?_)
  replace hbp := hbp.tr0 hs
  replace hpa := hpa.tr0 hs
  replace hS := SameQ.trans hS hs (by simp)
  replace hbA := hbA.tr0 hs
  clear hs
  refine ws (r_mv (v := .pointer (some _)) rfl) (ws (r_nc rfl) (ws (r_fa U143 sz43_PFind dE rfl rfl rfl) (ws (r_ld1 (v := .slice _ _ _) U43 rfl rfl (hbp.cell rfl)) (ws (r_mv (v := .int _ _) rfl) (ws (r_mv (v := .pointer (some _)) rfl) ?_)))))
  refine ws (r_nc rfl) (ws (r_fa U143 sz43_PFind dE rfl rfl rfl) (ws (r_ld1 (v := .slice _ _ _) U43 rfl rfl (hbp.cell rfl)) (ws (r_mv (v := .pointer (some _)) rfl) (ws (r_nc rfl) (ws (r_fa U143 sz43_PFind dE rfl rfl rfl) ?_)))))
  refine ws (r_ld1 (v := .slice _ _ _) U43 rfl rfl (hbp.cell rfl)) (ws (r_mv (v := .int _ _) rfl) (ws (r_ia (i := j) U43 sz3_GSearch rfl rfl hj rfl) (ws (r_ld1 (v := .int _ _) U3 rfl rfl (hpa.rowq hj)) (ws (r_ia (i := (Q j)) U43 sz3_GSearch rfl rfl hq1 rfl) (ws (r_ld1 (v := .int _ _) U3 rfl rfl (hpa.rowq hq1)) ?_)))))
  refine ws (r_ia (i := j) U43 sz3_GSearch rfl rfl hj rfl) (s_tail ?_)
  refine wl_st1 (v := .int _ _) hbA rfl rfl sz3_GSearch om rfl rfl (fun w3 hq hs => ?_)
  replace hbp := hbp.tr1 hs om
  replace hS := SameQ.trans hS hs (by simp)
  clear hs
  replace hbA := hq
  have hpa : Own w3 ob 3 1 (some ⟨q, 0, none⟩) n cp (rowL n (vN (setN Q j (Q (Q j))))) := by
    have h := hclA _ _ _ hbA
    rw [show 0 + j * 1 = j by omega, rowL_set, rowL_congr (g' := vN (setN Q j (Q (Q j)))) (fun x _ => by by_cases e : x = j <;> simp [vN, setN, e])] at h
    exact h
  refine x_nil (e_S (c_region (wl (r_mv (v := .pointer (some _)) rfl) (wl (r_nc rfl) (wl (r_fa U143 sz43_PFind dE rfl rfl rfl) ?_)))))
  refine wl (r_ld1 (v := .slice _ _ _) U43 rfl rfl (hbp.cell rfl)) (wmI rfl (wl (r_ia (i := j) U43 sz3_GSearch rfl rfl hj rfl) (wl (r_ld1 (v := .int _ _) U3 rfl rfl (by have h := hpa.rowq hj; unfold vN at h; rw [setN_self] at h; exact h)) (waI rfl (x_nil ?_)))))
  refine e_B (e_LS (ρ (Q (Q j))) om agA ?_)
  exact ⟨Q (Q j), setN Q j (Q (Q j)), hu.lt _ (hu.lt j hj), rfl, rfl, hbp, hpa, hS, hu2, by rw [hu.rp _ (hu.lt j hj), hu.rp j hj]; exact hrj⟩
 have heq : Q j = j := by omega
 have hfx := hu.fx j hj heq
 refine c_exit (e_Sx (e_LSx (e_Bx (e_S (c_seq ?_)))))
 refine c_region (wmI rfl (waI rfl (x_nil (e_S (c_ret ?_)))))
 refine fin1 (.inl rfl) rfl rfl ?_
 exact ⟨Q, ret_int (by rw [← hrj, hfx]), hpa, hu, by simpa [aL, SameQ] using hS⟩
theorem growl_any (k : Nat) (w : World) (hk : k ≤ 8796093022208) : Calls Tryd.prog 116 #[.slice none 0 0, .int .i64 k] w fun e w' => (∃ A cap, e = .returned (.slice A 0 cap) ∧ Own w' w.heap.size 30 2 A 0 cap []) ∧ Bel w w' := by
 refine enter Tryd.func116 Tryd.ntmps116 rfl (Nat.le_of_ble_eq_true rfl) ?_
 have hB : Bel w w := Below.refl _ _
 refine c_seq (c_region (waS rfl (x_nil (e_S (c_seq ?_)))))
 refine c_seq (c_region (wmI rfl (wl (r_lss rfl rfl) (x_nil (e_S ?_)))))
 refine c_ifd rfl (fun c6 => ?_) (fun c6 => ?_)
 ·
  exact absurd c6 om
 refine c_skip (e_S (c_seq (c_seq (c_region (wmI rfl ?_)))))
 refine wmS rfl (wl (r_cap U31 rfl) (wmS rfl (wl (r_len U31 rfl) (wl (r_sub rfl rfl rfl dE) (wl (r_sub (c := k) rfl rfl om om) ?_)))))
 refine waI rfl (x_nil (e_S (c_seq (c_region (wmI rfl ?_)))))
 refine wl (r_gtr rfl rfl) (x_nil (e_S ?_))
 refine c_ifd rfl (fun c16 => ?_) (fun c16 => ?_)
 ·
  have hpos : 0 < k := by omega
  refine c_region (wmS rfl (wmS rfl (wl (r_cap U31 rfl) (wl (r_slH (h := 0) U31 sz30_GSearch rfl rfl om) (wmI rfl ?_)))))
  refine wl_appZ U31 U3 in30 rfl hpos dE om om rfl rfl (fun b22 cap22 w22 ho22 hs22 hg22 hge hle => ?_)
  have hB2 : Bel w w22 := hB.tr0 hs22
  refine wmS rfl (wl (r_len U31 rfl) (wl (r_slH (h := 0) U31 sz30_GSearch rfl rfl om) (waS rfl (x_nil (e_S ?_)))))
  refine c_seq (c_region (wmS rfl (waS rfl (x_nil (e_S ?_)))))
  refine c_ret (fin1 (.inl rfl) rfl rfl ?_)
  first
    | exact ⟨⟨_, _, rfl, ho22⟩, hB2⟩
    | exact ⟨⟨none, 0, rfl, Own.nil _ _ _ _⟩, hB⟩
 refine c_skip (e_S (c_seq (c_region (wmS rfl (waS rfl ?_)))))
 refine x_nil (e_S (c_ret (fin1 (.inl rfl) rfl rfl ?_)))
 first
   | exact ⟨⟨_, _, rfl, ho22⟩, hB2⟩
   | exact ⟨⟨none, 0, rfl, Own.nil _ _ _ _⟩, hB⟩
theorem concl_any (A : Option Addr) (c : Nat) (L : List (List (Int × Int))) (w : World) (hM : LMat w A L) (hl : L.length ≤ 1000) (hs : L.flatten.length ≤ 8796093022208) : Calls Tryd.prog 109 #[.slice A L.length c] w fun e w' => (∃ A' cap', e = .returned (.slice A' L.flatten.length cap') ∧ Own w' w.heap.size 30 2 A' L.flatten.length cap' (lnV L.flatten)) ∧ Bel w w' := by
 refine enter Tryd.func109 Tryd.ntmps109 rfl (Nat.le_of_ble_eq_true rfl) ?_
 have hB : Bel w w := Below.refl _ _
 refine c_seq (c_region (waS rfl (x_nil (e_S (c_seq ?_)))))
 refine c_region (waI rfl (x_nil (e_S (c_seq (c_seq ?_)))))
 refine c_region (wmS rfl (wl (r_len U141 rfl) (wmI rfl (x_nil (e_S ?_)))))
 refine c_block ?_
 refine c_loopS [3, 5, 11, 12, 13, 14, 15, 16, 17, 18, 19, 20, 21, 22] (fun m g w' => ∃ k : Nat, k ≤ L.length ∧ m = L.length - k ∧ g 11 = .int .i64 k ∧ g 3 = .int .i64 (sumM L k) ∧ Bel w w') (L.length) ?_ (fun m g3 w1 hI => ?_)
 ·
  exact ⟨0, Nat.zero_le _, rfl, rfl, rfl, hB⟩
 obtain ⟨k, hk, hm, h11, h3, hB⟩ := hI
 refine c_know 11 (.int .i64 k) h11 nu (c_know 3 (.int .i64 (sumM L k)) h3 nu (c_seq (c_region (wl (r_lss rfl rfl) (x_nil ?_)))))
 refine e_S (c_seq ?_)
 refine c_ifd rfl (fun c12 => ?_) (fun c12 => ?_)
 ·
  have hlt : k < L.length := by omega
  obtain ⟨mb, mo, MA, mc, rfl, hmr, hmi⟩ := hM.at_ hB hlt
  have hss := sumM_succ hlt
  have hsl := sumM_le L (k + 1)
  refine c_skip (e_S (c_seq (c_block (c_seq (c_region ?_)))))
  refine wl (r_ia (i := k) U141 sz31_GTgt rfl rfl om rfl) (wl (r_ld1 (v := .slice _ _ _) U31 rfl rfl hmr) (waS rfl (x_nil (e_S (c_seq ?_)))))
  refine c_region (wmI rfl (wmS rfl (wl (r_len U31 rfl) (wl (r_add (c := (sumM L (k + 1) : Nat)) rfl rfl om om) (waI rfl ?_)))))
  refine x_nil (e_S (c_seq (c_region (wmI rfl (wl (r_lss rfl rfl) ?_)))))
  refine x_nil (e_S ?_)
  refine c_ifd rfl (fun c20 => ?_) (fun c20 => ?_)
  ·
   exact absurd c20 om
  refine c_skip (e_B (e_S (c_region (wl (r_add rfl rfl rfl om) (wmI rfl ?_)))))
  refine x_nil (e_LS (L.length - (k + 1)) om agA ?_)
  exact ⟨k + 1, by omega, rfl, rfl, rfl, hB⟩
 have hke : sumM L k = L.flatten.length := by unfold sumM; rw [sumM_all om]
 obtain ⟨bz, hbz⟩ : ∃ z, z = w1.heap.size := ⟨_, rfl⟩
 refine c_exit (e_Sx (e_LSx (e_Bx (e_S (c_seq ?_)))))
 refine c_region (wmI rfl ?_)
 have hbs := Bel.size hB
 refine wl_cl fn116 (growl_any (sumM L k) _ om) rfl (fun e' w2 hr => ?_)
 obtain ⟨⟨A6, cap6, rfl, ho6⟩, hs⟩ := hr
 replace hs := Same.of_bel hs
 replace hB := hB.tr0 hs
 clear hs
 replace ho6 := ho6.low hbs
 refine ⟨_, rfl, ?_⟩
 refine waS rfl (x_nil (e_S (c_seq (c_seq (c_region ?_)))))
 refine wmS rfl (wl (r_len U141 rfl) (wmI rfl (x_nil (e_S (c_block ?_)))))
 refine c_loopS [6, 8, 27, 28, 29, 30, 31, 32, 33, 34] (fun m g w' => ∃ (k cap6 : Nat) (A6 : Option Addr), k ≤ L.length ∧ m = L.length - k ∧ g 27 = .int .i64 k ∧ g 6 = .slice A6 (L.take k).flatten.length cap6 ∧ Bel w w' ∧ Own w' w.heap.size 30 2 A6 (L.take k).flatten.length cap6 (lnV (L.take k).flatten)) (L.length) ?_ (fun m g11 w3 hI => ?_)
 ·
  exact ⟨0, cap6, A6, Nat.zero_le _, rfl, rfl, rfl, hB, ho6⟩
 obtain ⟨k, cap6, A6, hk, hm, h27, h6, hB, ho6⟩ := hI
 refine c_know 27 (.int .i64 k) h27 nu (c_know 6 (.slice A6 (L.take k).flatten.length cap6) h6 nu (c_seq (c_region (wl (r_lss rfl rfl) (x_nil ?_)))))
 refine e_S (c_seq ?_)
 refine c_ifd rfl (fun c28 => ?_) (fun c28 => ?_)
 ·
  have hlt : k < L.length := by omega
  obtain ⟨mb, mo, MA, mc, rfl, hmr, hmi⟩ := hM.at_ hB hlt
  have hss := sumM_succ hlt
  have hsl := sumM_le L (k + 1)
  have hsk : (L.take k).flatten.length = sumM L k := rfl
  refine c_skip (e_S (c_seq (c_block (c_seq (c_region ?_)))))
  refine wl (r_ia (i := k) U141 sz31_GTgt rfl rfl om rfl) (wl (r_ld1 (v := .slice _ _ _) U31 rfl rfl hmr) (waS rfl (x_nil (e_S (c_region ?_)))))
  refine wmS rfl (wmS rfl ?_)
  have hbb := Bel.size hB
  refine wl_appL (e := 30) (news := lnV (L[k]'hlt)) U31 in30 rfl dE ho6 rfl rfl hmi.news (lnV_len _) (lnV_one _) om om hbb (fun AN capN wN hoN hsN hgN => ?_)
  have hBN : Bel w wN := hB.tr hsN (fun g hg => (ho6.lt g hg).1)
  replace hoN : Own wN w.heap.size 30 2 AN (L.take (k + 1)).flatten.length capN (lnV (L.take (k + 1)).flatten) := by
    rw [flatM_succ hlt, List.length_append, lnV_app]
    exact hoN
  refine waS rfl (x_nil (e_B (e_S (c_region (wl (r_add rfl rfl rfl om) ?_)))))
  refine wmI rfl (x_nil (e_LS (L.length - (k + 1)) om agA ?_))
  refine ⟨k + 1, capN, AN, by omega, rfl, rfl, ?_, hBN, hoN⟩
  rw [flatM_succ hlt, List.length_append]; rfl
 have hke : (L.take k).flatten = L.flatten := sumM_all om
 refine c_exit (e_Sx (e_LSx (e_Bx (e_S (c_seq ?_)))))
 refine c_region (wmS rfl (waS rfl (x_nil (e_S (c_ret ?_)))))
 refine fin1 (.inl rfl) rfl rfl ?_
 refine ⟨⟨A6, cap6, ?_, ?_⟩, hB⟩
 · show Ending.returned (.slice A6 (L.take k).flatten.length cap6) = _
   rw [hke]
 · rw [hke] at ho6
   exact ho6
end Go.Proofs.YtegngekpmpdngaaDoor
