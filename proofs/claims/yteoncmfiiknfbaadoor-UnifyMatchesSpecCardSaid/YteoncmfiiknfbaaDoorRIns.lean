/- What these functions of the program compute, at every world: (*glosswright/unify.pool).find, slices.Grow[[]glosswright/api.Link,glosswright/api.Link], slices.Concat[[]glosswright/api.Link,glosswright/api.Link]. What these functions of the program compute, at every world: slices.Clone[[]glosswright/api.Link,glosswright/api.Link], slices.Insert[[]glosswright/api.Link,glosswright/api.Link], glosswright/glosswrightref3.rename. -/
import Derived.Test.YteoncmfiiknfbaaDoorPool
import Derived.Test.YteoncmfiiknfbaaDoorName
import Derived.Test.YteoncmfiiknfbaaDoorGTgt
namespace Go.Proofs.YteoncmfiiknfbaaDoor
open Go.RowKit

/-- a change of a few blocks, for chains of steps -/
def SameQ (X : List Nat) (w w' : World) : Prop := Same X w w'
theorem SameQ.trans {X : List Nat} {a b c : World} (h : SameQ X a b) {Y : List Nat} (k : Same Y b c) (hy : ∀ g ∈ Y, g ∈ X) : SameQ X a c := Same.trans h (k.weak hy)

theorem fn71 : callable Tryd.prog 71 = true := by kernel_rfl
theorem sz51_PFind : (Tryd.prog.info? 51).map (·.size) = some 1 := by kernel_rfl
set_option maxHeartbeats 1000000 in
theorem pfind_any {ob bp n cp ct cl i : Nat} {PA TA LA : Option Addr} {c0 c1 : Value} {P rep ρ : Nat → Nat} (w : World) (hbp : Blk w bp 64 #[c0, c1, .slice PA n cp, .slice TA n ct, .slice LA n cl]) (hpa : Own w ob 3 1 PA n cp (rowL n (vN P))) (hbo : bp < ob) (hu : UF n P rep ρ) (hi : i < n) : Calls Tryd.prog 59 #[.pointer (some ⟨bp, 0, none⟩), .int .i64 (i : Nat)] w fun e w' => ∃ P', e = .returned (.int .i64 ((rep i : Nat) : Int)) ∧ Own w' ob 3 1 PA n cp (rowL n (vN P')) ∧ UF n P' rep ρ ∧ Same (aL PA) w w' := by
 obtain ⟨q, rfl, hqb, hql, _⟩ := hpa.rowc hi
 have hS : SameQ [q] w w := Same.refl _ _
 have hnm := hpa.max
 refine enter Tryd.func59 Tryd.ntmps59 rfl (Nat.le_of_ble_eq_true rfl) (c_seq (c_region (wl (r_as (v := .int _ _) rfl) (x_nil (e_S ?_)))))
 refine c_seq (c_block ?_)
 refine c_loopS [1, 5, 6, 7, 8, 9, 10, 11, 12, 13, 14, 15, 16, 17, 18, 19, 20, 21, 22, 23, 24, 25, 26, 27, 28, 29, 30, 31, 32, 33, 34, 35, 36, 37, 38, 39] (fun m g w' => ∃ (j : Nat) (Q : Nat → Nat), j < n ∧ m = ρ j ∧ g 1 = .int .i64 (j : Nat) ∧ Blk w' bp 64 #[c0, c1, .slice (some ⟨q, 0, none⟩) n cp, .slice TA n ct, .slice LA n cl] ∧ Own w' ob 3 1 (some ⟨q, 0, none⟩) n cp (rowL n (vN Q)) ∧ SameQ [q] w w' ∧ UF n Q rep ρ ∧ rep j = rep i) (ρ i) ?_ (fun m g1 w1 hI => ?_)
 ·
  exact ⟨i, P, hi, rfl, rfl, hbp, hpa, hS, hu, rfl⟩
 obtain ⟨j, Q, hj, hm, h1, hbp, hpa, hS, hu, hrj⟩ := hI
 refine c_know 1 (.int .i64 (j : Nat)) h1 (by simp [undef]) (c_seq (c_seq (c_region (wl (r_mv (v := .pointer (some _)) rfl) (wl (r_nc rfl) ?_)))))
 refine wl (r_fa Tryd.underlying64 sz51_PFind (by decide) rfl rfl rfl) (wl (r_ld1 (v := .slice _ _ _) Tryd.underlying51 rfl rfl (hbp.cell rfl)) (wl (r_mv (v := .int _ _) rfl) (wl (r_ia (i := j) Tryd.underlying51 sz3_GSearch rfl rfl hj rfl) (wl (r_ld1 (v := .int _ _) Tryd.underlying3 rfl rfl (hpa.rowq hj)) (wl (r_mv (v := .int _ _) rfl) ?_)))))
 refine wl (r_neq rfl rfl) (x_nil (e_S ?_))
 refine c_ifd rfl (fun c13 => ?_) (fun c13 => ?_)
 ·
  have hne : Q j ≠ j := fun e => c13 (by rw [e])
  have hu2 := hu.half hj hne
  have hlt : ρ (Q (Q j)) < ρ j := by
    have h1 := hu.ex j hj hne
    by_cases e : Q (Q j) = Q j
    · rw [e]; exact h1
    · exact Nat.lt_trans (hu.ex _ (hu.lt j hj) e) h1
  have hq1 := hu.lt j hj
  obtain ⟨g0, cur, hA0, _, hbA, hszA, hrdA, hclA⟩ := hpa.open_ (by omega)
  cases hA0
  refine c_skip (e_S (c_block (c_seq ?_)))
  refine c_tail 19 (by kernel_rfl) (by kernel_rfl) (fun w2 hs => ?_)
  replace hbp := hbp.tr0 hs
  replace hpa := hpa.tr0 hs
  replace hS := SameQ.trans hS hs (by simp)
  replace hbA := hbA.tr0 hs
  clear hs
  refine ws (r_mv (v := .pointer (some _)) rfl) (ws (r_nc rfl) (ws (r_fa Tryd.underlying64 sz51_PFind (by decide) rfl rfl rfl) (ws (r_ld1 (v := .slice _ _ _) Tryd.underlying51 rfl rfl (hbp.cell rfl)) (ws (r_mv (v := .int _ _) rfl) (ws (r_mv (v := .pointer (some _)) rfl) ?_)))))
  refine ws (r_nc rfl) (ws (r_fa Tryd.underlying64 sz51_PFind (by decide) rfl rfl rfl) (ws (r_ld1 (v := .slice _ _ _) Tryd.underlying51 rfl rfl (hbp.cell rfl)) (ws (r_mv (v := .pointer (some _)) rfl) (ws (r_nc rfl) (ws (r_fa Tryd.underlying64 sz51_PFind (by decide) rfl rfl rfl) ?_)))))
  refine ws (r_ld1 (v := .slice _ _ _) Tryd.underlying51 rfl rfl (hbp.cell rfl)) (ws (r_mv (v := .int _ _) rfl) (ws (r_ia (i := j) Tryd.underlying51 sz3_GSearch rfl rfl hj rfl) (ws (r_ld1 (v := .int _ _) Tryd.underlying3 rfl rfl (hpa.rowq hj)) (ws (r_ia (i := (Q j)) Tryd.underlying51 sz3_GSearch rfl rfl hq1 rfl) (ws (r_ld1 (v := .int _ _) Tryd.underlying3 rfl rfl (hpa.rowq hq1)) ?_)))))
  refine ws (r_ia (i := j) Tryd.underlying51 sz3_GSearch rfl rfl hj rfl) (s_tail ?_)
  refine wl_st1 (v := .int _ _) hbA rfl rfl sz3_GSearch (by omega) rfl rfl (fun w3 hq hs => ?_)
  replace hbp := hbp.tr1 hs (by omega)
  replace hS := SameQ.trans hS hs (by simp)
  clear hs
  replace hbA := hq
  have hpa : Own w3 ob 3 1 (some ⟨q, 0, none⟩) n cp (rowL n (vN (setN Q j (Q (Q j))))) := by
    have h := hclA _ _ _ hbA
    rw [show 0 + j * 1 = j by omega, rowL_set, rowL_congr (g' := vN (setN Q j (Q (Q j)))) (fun x _ => by by_cases e : x = j <;> simp [vN, setN, e])] at h
    exact h
  refine x_nil (e_S (c_region (wl (r_mv (v := .pointer (some _)) rfl) (wl (r_nc rfl) (wl (r_fa Tryd.underlying64 sz51_PFind (by decide) rfl rfl rfl) ?_)))))
  refine wl (r_ld1 (v := .slice _ _ _) Tryd.underlying51 rfl rfl (hbp.cell rfl)) (wl (r_mv (v := .int _ _) rfl) (wl (r_ia (i := j) Tryd.underlying51 sz3_GSearch rfl rfl hj rfl) (wl (r_ld1 (v := .int _ _) Tryd.underlying3 rfl rfl (by have h := hpa.rowq hj; unfold vN at h; rw [setN_self] at h; exact h)) (wl (r_as (v := .int _ _) rfl) (x_nil ?_)))))
  refine e_B (e_LS (ρ (Q (Q j))) (by omega) agA ?_)
  exact ⟨Q (Q j), setN Q j (Q (Q j)), hu.lt _ (hu.lt j hj), rfl, rfl, hbp, hpa, hS, hu2, by rw [hu.rp _ (hu.lt j hj), hu.rp j hj]; exact hrj⟩
 have heq : Q j = j := by omega
 have hfx := hu.fx j hj heq
 refine c_exit (e_Sx (e_LSx (e_Bx (e_S (c_seq ?_)))))
 refine c_region (wl (r_mv (v := .int _ _) rfl) (wl (r_as (v := .int _ _) rfl) (x_nil (e_S (c_ret ?_)))))
 refine fin1 (.inl rfl) rfl rfl ?_
 exact ⟨Q, ret_int (by rw [← hrj, hfx]), hpa, hu, by simpa [aL, SameQ] using hS⟩

theorem growl_any (k : Nat) (w : World) (hk : k ≤ 8796093022208) : Calls Tryd.prog 71 #[.slice none 0 0, .int .i64 k] w fun e w' => (∃ A cap, e = .returned (.slice A 0 cap) ∧ Own w' w.heap.size 74 2 A 0 cap []) ∧ Bel w w' := by
 refine enter Tryd.func71 Tryd.ntmps71 rfl (Nat.le_of_ble_eq_true rfl) ?_
 have hB : Bel w w := Below.refl _ _
 refine c_seq (c_region (wl (r_as (v := .slice _ _ _) rfl) (x_nil (e_S (c_seq ?_)))))
 refine c_seq (c_region (wl (r_mv (v := .int _ _) rfl) (wl (r_lss rfl rfl) (x_nil (e_S ?_)))))
 refine c_ifd rfl (fun c6 => ?_) (fun c6 => ?_)
 ·
  exact absurd c6 (by omega)
 refine c_skip (e_S (c_seq (c_seq (c_region (wl (r_mv (v := .int _ _) rfl) ?_)))))
 refine wl (r_mv (v := .slice _ _ _) rfl) (wl (r_cap Tryd.underlying53 rfl) (wl (r_mv (v := .slice _ _ _) rfl) (wl (r_len Tryd.underlying53 rfl) (wl (r_sub rfl rfl rfl (by decide)) (wl (r_sub (c := k) rfl rfl (by omega) (by omega)) ?_)))))
 refine wl (r_as (v := .int _ _) rfl) (x_nil (e_S (c_seq (c_region (wl (r_mv (v := .int _ _) rfl) ?_)))))
 refine wl (r_gtr rfl rfl) (x_nil (e_S ?_))
 refine c_ifd rfl (fun c16 => ?_) (fun c16 => ?_)
 ·
  have hpos : 0 < k := by omega
  refine c_region (wl (r_mv (v := .slice _ _ _) rfl) (wl (r_mv (v := .slice _ _ _) rfl) (wl (r_cap Tryd.underlying53 rfl) (wl (r_slH (h := 0) Tryd.underlying53 sz74_GSearch rfl rfl (by omega)) (wl (r_mv (v := .int _ _) rfl) ?_)))))
  refine wl_appZ Tryd.underlying53 Tryd.underlying3 in74 rfl hpos (by decide) (by omega) (by omega) rfl rfl (fun b22 cap22 w22 ho22 hs22 hg22 hge hle => ?_)
  have hB2 : Bel w w22 := hB.tr0 hs22
  refine wl (r_mv (v := .slice _ _ _) rfl) (wl (r_len Tryd.underlying53 rfl) (wl (r_slH (h := 0) Tryd.underlying53 sz74_GSearch rfl rfl (by omega)) (wl (r_as (v := .slice _ _ _) rfl) (x_nil (e_S ?_)))))
  refine c_seq (c_region (wl (r_mv (v := .slice _ _ _) rfl) (wl (r_as (v := .slice _ _ _) rfl) (x_nil (e_S ?_)))))
  refine c_ret (fin1 (.inl rfl) rfl rfl ?_)
  first
    | exact ⟨⟨_, _, rfl, ho22⟩, hB2⟩
    | exact ⟨⟨none, 0, rfl, Own.nil _ _ _ _⟩, hB⟩
 refine c_skip (e_S (c_seq (c_region (wl (r_mv (v := .slice _ _ _) rfl) (wl (r_as (v := .slice _ _ _) rfl) ?_)))))
 refine x_nil (e_S (c_ret (fin1 (.inl rfl) rfl rfl ?_)))
 first
   | exact ⟨⟨_, _, rfl, ho22⟩, hB2⟩
   | exact ⟨⟨none, 0, rfl, Own.nil _ _ _ _⟩, hB⟩

theorem concl_any (A : Option Addr) (c : Nat) (L : List (List (Int × Int))) (w : World) (hM : LMat w A L) (hl : L.length ≤ 1000) (hs : L.flatten.length ≤ 8796093022208) : Calls Tryd.prog 61 #[.slice A L.length c] w fun e w' => (∃ A' cap', e = .returned (.slice A' L.flatten.length cap') ∧ Own w' w.heap.size 74 2 A' L.flatten.length cap' (lnV L.flatten)) ∧ Bel w w' := by
 refine enter Tryd.func61 Tryd.ntmps61 rfl (Nat.le_of_ble_eq_true rfl) ?_
 have hB : Bel w w := Below.refl _ _
 refine c_seq (c_region (wl (r_as (v := .slice _ _ _) rfl) (x_nil (e_S (c_seq ?_)))))
 refine c_region (wl (r_as (v := .int _ _) rfl) (x_nil (e_S (c_seq (c_seq ?_)))))
 refine c_region (wl (r_mv (v := .slice _ _ _) rfl) (wl (r_len Tryd.underlying62 rfl) (wl (r_mv (v := .int _ _) rfl) (x_nil (e_S ?_)))))
 refine c_block ?_
 refine c_loopS [3, 5, 11, 12, 13, 14, 15, 16, 17, 18, 19, 20, 21, 22] (fun m g w' => ∃ k : Nat, k ≤ L.length ∧ m = L.length - k ∧ g 11 = .int .i64 k ∧ g 3 = .int .i64 (sumM L k) ∧ Bel w w') (L.length) ?_ (fun m g3 w1 hI => ?_)
 ·
  exact ⟨0, Nat.zero_le _, rfl, rfl, rfl, hB⟩
 obtain ⟨k, hk, hm, h11, h3, hB⟩ := hI
 refine c_know 11 (.int .i64 k) h11 (by simp [undef]) (c_know 3 (.int .i64 (sumM L k)) h3 (by simp [undef]) (c_seq (c_region (wl (r_lss rfl rfl) (x_nil ?_)))))
 refine e_S (c_seq ?_)
 refine c_ifd rfl (fun c12 => ?_) (fun c12 => ?_)
 ·
  have hlt : k < L.length := by omega
  obtain ⟨mb, mo, MA, mc, rfl, hmr, hmi⟩ := hM.at_ hB hlt
  have hss := sumM_succ hlt
  have hsl := sumM_le L (k + 1)
  refine c_skip (e_S (c_seq (c_block (c_seq (c_region ?_)))))
  refine wl (r_ia (i := k) Tryd.underlying62 sz53_GTgt rfl rfl (by omega) rfl) (wl (r_ld1 (v := .slice _ _ _) Tryd.underlying53 rfl rfl hmr) (wl (r_as (v := .slice _ _ _) rfl) (x_nil (e_S (c_seq ?_)))))
  refine c_region (wl (r_mv (v := .int _ _) rfl) (wl (r_mv (v := .slice _ _ _) rfl) (wl (r_len Tryd.underlying53 rfl) (wl (r_add (c := (sumM L (k + 1) : Nat)) rfl rfl (by omega) (by omega)) (wl (r_as (v := .int _ _) rfl) ?_)))))
  refine x_nil (e_S (c_seq (c_region (wl (r_mv (v := .int _ _) rfl) (wl (r_lss rfl rfl) ?_)))))
  refine x_nil (e_S ?_)
  refine c_ifd rfl (fun c20 => ?_) (fun c20 => ?_)
  ·
   exact absurd c20 (by omega)
  refine c_skip (e_B (e_S (c_region (wl (r_add rfl rfl rfl (by omega)) (wl (r_mv (v := .int _ _) rfl) ?_)))))
  refine x_nil (e_LS (L.length - (k + 1)) (by omega) agA ?_)
  exact ⟨k + 1, by omega, rfl, rfl, rfl, hB⟩
 have hke : sumM L k = L.flatten.length := by unfold sumM; rw [sumM_all (by omega)]
 obtain ⟨bz, hbz⟩ : ∃ z, z = w1.heap.size := ⟨_, rfl⟩
 refine c_exit (e_Sx (e_LSx (e_Bx (e_S (c_seq ?_)))))
 refine c_region (wl (r_mv (v := .int _ _) rfl) ?_)
 have hbs := Bel.size hB
 refine wl_cl fn71 (growl_any (sumM L k) _ (by omega)) rfl (fun e' w2 hr => ?_)
 obtain ⟨⟨A6, cap6, rfl, ho6⟩, hs⟩ := hr
 replace hs := Same.of_bel hs
 replace hB := hB.tr0 hs
 clear hs
 replace ho6 := ho6.low hbs
 refine ⟨_, rfl, ?_⟩
 refine wl (r_as (v := .slice _ _ _) rfl) (x_nil (e_S (c_seq (c_seq (c_region ?_)))))
 refine wl (r_mv (v := .slice _ _ _) rfl) (wl (r_len Tryd.underlying62 rfl) (wl (r_mv (v := .int _ _) rfl) (x_nil (e_S (c_block ?_)))))
 refine c_loopS [6, 8, 27, 28, 29, 30, 31, 32, 33, 34] (fun m g w' => ∃ (k cap6 : Nat) (A6 : Option Addr), k ≤ L.length ∧ m = L.length - k ∧ g 27 = .int .i64 k ∧ g 6 = .slice A6 (L.take k).flatten.length cap6 ∧ Bel w w' ∧ Own w' w.heap.size 74 2 A6 (L.take k).flatten.length cap6 (lnV (L.take k).flatten)) (L.length) ?_ (fun m g11 w3 hI => ?_)
 ·
  exact ⟨0, cap6, A6, Nat.zero_le _, rfl, rfl, rfl, hB, ho6⟩
 obtain ⟨k, cap6, A6, hk, hm, h27, h6, hB, ho6⟩ := hI
 refine c_know 27 (.int .i64 k) h27 (by simp [undef]) (c_know 6 (.slice A6 (L.take k).flatten.length cap6) h6 (by simp [undef]) (c_seq (c_region (wl (r_lss rfl rfl) (x_nil ?_)))))
 refine e_S (c_seq ?_)
 refine c_ifd rfl (fun c28 => ?_) (fun c28 => ?_)
 ·
  have hlt : k < L.length := by omega
  obtain ⟨mb, mo, MA, mc, rfl, hmr, hmi⟩ := hM.at_ hB hlt
  have hss := sumM_succ hlt
  have hsl := sumM_le L (k + 1)
  have hsk : (L.take k).flatten.length = sumM L k := rfl
  refine c_skip (e_S (c_seq (c_block (c_seq (c_region ?_)))))
  refine wl (r_ia (i := k) Tryd.underlying62 sz53_GTgt rfl rfl (by omega) rfl) (wl (r_ld1 (v := .slice _ _ _) Tryd.underlying53 rfl rfl hmr) (wl (r_as (v := .slice _ _ _) rfl) (x_nil (e_S (c_region ?_)))))
  refine wl (r_mv (v := .slice _ _ _) rfl) (wl (r_mv (v := .slice _ _ _) rfl) ?_)
  have hbb := Bel.size hB
  refine wl_appL (e := 74) (news := lnV (L[k]'hlt)) Tryd.underlying53 in74 rfl (by decide) ho6 rfl rfl hmi.news (lnV_len _) (lnV_one _) (by omega) (by omega) hbb (fun AN capN wN hoN hsN hgN => ?_)
  have hBN : Bel w wN := hB.tr hsN (fun g hg => (ho6.lt g hg).1)
  replace hoN : Own wN w.heap.size 74 2 AN (L.take (k + 1)).flatten.length capN (lnV (L.take (k + 1)).flatten) := by
    rw [flatM_succ hlt, List.length_append, lnV_app]
    exact hoN
  refine wl (r_as (v := .slice _ _ _) rfl) (x_nil (e_B (e_S (c_region (wl (r_add rfl rfl rfl (by omega)) ?_)))))
  refine wl (r_mv (v := .int _ _) rfl) (x_nil (e_LS (L.length - (k + 1)) (by omega) agA ?_))
  refine ⟨k + 1, capN, AN, by omega, rfl, rfl, ?_, hBN, hoN⟩
  rw [flatM_succ hlt, List.length_append]; rfl
 have hke : (L.take k).flatten = L.flatten := sumM_all (by omega)
 refine c_exit (e_Sx (e_LSx (e_Bx (e_S (c_seq ?_)))))
 refine c_region (wl (r_mv (v := .slice _ _ _) rfl) (wl (r_as (v := .slice _ _ _) rfl) (x_nil (e_S (c_ret ?_)))))
 refine fin1 (.inl rfl) rfl rfl ?_
 refine ⟨⟨A6, cap6, ?_, ?_⟩, hB⟩
 · show Ending.returned (.slice A6 (L.take k).flatten.length cap6) = _
   rw [hke]
 · rw [hke] at ho6
   exact ho6
end Go.Proofs.YteoncmfiiknfbaaDoor
namespace Go.Proofs.YteoncmfiiknfbaaDoor
open Go.RowKit

theorem cur_drop {cur : Array Value} {Ps Ys : List Value} {m j : Nat} {v : Value} (h : cur.toList.take m = Ps ++ Ys) (hj : Ys[j]? = some v) : cur[Ps.length + j]? = some v := by
  have h1 : (Ps ++ Ys)[Ps.length + j]? = some v := by
    rw [List.getElem?_append_right (Nat.le_add_right _ _), Nat.add_sub_cancel_left]; exact hj
  rw [← h, List.getElem?_take] at h1
  split at h1
  · simpa using h1
  · cases h1
theorem cur_take {cur : Array Value} {Ps Ys : List Value} {m j : Nat} {v : Value} (h : cur.toList.take m = Ps ++ Ys) (hj : Ps[j]? = some v) : cur[j]? = some v := by
  have hlt := (List.getElem?_eq_some_iff.1 hj).1
  have h1 : (Ps ++ Ys)[j]? = some v := by
    rw [List.getElem?_append_left hlt]; exact hj
  rw [← h, List.getElem?_take] at h1
  split at h1
  · simpa using h1
  · cases h1
def lk1 (x : Int × Int) : List Value := [Value.int .i64 x.1, Value.int .i64 x.2]
theorem lnV_ins (L : List (Int × Int)) (k : Nat) (x : Int × Int) : lnV (insL L k x) = lnV (L.take k) ++ (lk1 x ++ lnV (L.drop k)) := by
  unfold insL
  rw [lnV_app, show x :: L.drop k = [x] ++ L.drop k from rfl, lnV_app]
  rfl
theorem lnV_cut (L : List (Int × Int)) (k : Nat) : lnV L = lnV (L.take k) ++ lnV (L.drop k) := by rw [← lnV_app, List.take_append_drop]
theorem tk_len {L : List (Int × Int)} {k : Nat} (hk : k ≤ L.length) : (lnV (L.take k)).length = k * 2 := by rw [lnV_len, List.length_take, Nat.min_eq_left hk]
theorem dr_len {L : List (Int × Int)} {k : Nat} : (lnV (L.drop k)).length = (L.length - k) * 2 := by rw [lnV_len, List.length_drop]
theorem ins_new {w : World} {base g cap k : Nat} {R0 : Array Value} {Zs : List Value} {L : List (Int × Int)} {x : Int × Int} (hb : Blk w g 74 (cpy (cpy R0 (0 + k * 2) (lk1 x)) (0 + (k + 1) * 2) (lnV (L.drop k)))) (hR : R0.toList = lnV (L.take k) ++ Zs) (hsz : R0.size = cap * 2) (hcap : L.length + 1 ≤ cap) (hm : cap ≤ 9223372036854775807) (hbase : base ≤ g) (hk : k ≤ L.length) : Own w base 74 2 (some ⟨g, 0, none⟩) (L.length + 1) cap (lnV (insL L k x)) := by
  have h1 := tk_len hk
  have h2 := dr_len (L := L) (k := k)
  have h3 : (lk1 x).length = 2 := rfl
  refine own_mk hb hbase hcap hm ?_ ?_
  · rw [cpy_size, cpy_size, hsz]
    · rw [hsz, h3]; omega
    · rw [cpy_size, hsz, h2]
      · omega
      · rw [hsz, h3]; omega
  · rw [lnV_ins, show (L.length + 1) * 2 = (lnV (L.take k)).length + (lk1 x).length + (lnV (L.drop k)).length by omega]
    exact cpy_new hR (by omega) (by omega)
theorem ins_move {w : World} {base g cap k : Nat} {R0 : Array Value} {L : List (Int × Int)} {x : Int × Int} (hb : Blk w g 74 (cpy (cpy R0 (0 + (k + 1) * 2) (lnV (L.drop k))) (0 + k * 2) (lk1 x))) (hR : R0.toList.take (L.length * 2) = lnV L) (hsz : R0.size = cap * 2) (hcap : L.length + 1 ≤ cap) (hm : cap ≤ 9223372036854775807) (hbase : base ≤ g) (hk : k ≤ L.length) : Own w base 74 2 (some ⟨g, 0, none⟩) (L.length + 1) cap (lnV (insL L k x)) := by
  have h1 := tk_len hk
  have h2 := dr_len (L := L) (k := k)
  have h3 : (lk1 x).length = 2 := rfl
  have h4 : R0.toList = lnV (L.take k) ++ (lnV (L.drop k) ++ R0.toList.drop (L.length * 2)) := by
    rw [← List.append_assoc, ← lnV_cut, ← hR, List.take_append_drop]
  have h5 : (R0.toList.drop (L.length * 2)).length = cap * 2 - L.length * 2 := by rw [List.length_drop, Array.length_toList, hsz]
  refine own_mk hb hbase hcap hm ?_ ?_
  · rw [cpy_size, cpy_size, hsz]
    · rw [hsz, h2]; omega
    · rw [cpy_size, hsz, h3]
      · omega
      · rw [hsz, h2]; omega
  · rw [lnV_ins, show (L.length + 1) * 2 = (lnV (L.take k)).length + (lk1 x).length + (lnV (L.drop k)).length by omega]
    exact cpy_move h4 (by omega) (by omega) (by omega)
theorem ins_end {w : World} {base cap : Nat} {A : Option Addr} {L : List (Int × Int)} {x : Int × Int} (h : Own w base 74 2 A (L.length + 1) cap (lnV L ++ lk1 x)) : Own w base 74 2 A (L.length + 1) cap (lnV (insL L L.length x)) := by
  rw [lnV_ins, List.take_length, List.drop_eq_nil_of_le (Nat.le_refl _)]
  simpa [lnV] using h
theorem lk1_one (x : Int × Int) : ∀ v ∈ lk1 x, v.oneCell' = true := fun v hv => by
  simp only [lk1, List.mem_cons, List.not_mem_nil, or_false] at hv
  rcases hv with rfl | rfl <;> rfl
theorem lnV_one' (xs : List (Int × Int)) : ∀ v ∈ lnV xs, v.oneCell' = true := List.all_eq_true.1 (lnV_one xs)
theorem ovl_any {w : World} {a b la ca lb cb oa ob : Nat} {tA tB : TypeId} {ka kb : Array Value} (ha : Blk w a tA ka) (hb : Blk w b tB kb) (hne : a ≠ b) (hk : kb.size ≠ 0) : (callFunc 68 #[.slice (some ⟨a, oa, none⟩) la ca, .slice (some ⟨b, ob, none⟩) lb cb]).run Tryd.prog w = .ok (.value (.bool false)) w :=
  run_apart (fn := Tryd.f68) (t := 53) (tR := 4) (e := 74) (by kernel_rfl) (by kernel_rfl) (by kernel_rfl) (by kernel_rfl) (by kernel_rfl) Tryd.underlying53 (sz := 2) (by kernel_rfl) ha hb hne hk


theorem clonel_any (A : Option Addr) (c : Nat) (xs : List (Int × Int)) (w : World) (hL : LinksIn w A xs) (hl : xs.length ≤ 1000000) : Calls Tryd.prog 50 #[.slice A xs.length c] w fun e w' => (∃ A' cap', e = .returned (.slice A' xs.length cap') ∧ Own w' w.heap.size 74 2 A' xs.length cap' (lnV xs)) ∧ Bel w w' := by
 refine enter Tryd.func50 Tryd.ntmps50 rfl (Nat.le_of_ble_eq_true rfl) ?_
 have hB : Bel w w := Below.refl _ _
 refine c_seq (c_region (wl (r_as (v := .slice _ _ _) rfl) (x_nil (e_S (c_seq ?_)))))
 refine c_seq (c_region (wl (r_mv (v := .slice _ _ _) rfl) (wl (r_eqlNil Tryd.underlying53 rfl rfl) (x_nil (e_S ?_)))))
 refine c_if rfl (fun c4 => ?_) (fun c4 => ?_)
 ·
  have hn : xs = [] := by
    refine Classical.byContradiction (fun hne => ?_)
    obtain ⟨b, o, h, _⟩ := hL.2 hne
    rw [h] at c4; cases c4
  subst hn
  refine c_seq (c_region (wl (r_as (v := .slice _ _ _) rfl) (x_nil (e_S (c_ret ?_)))))
  refine e_Sr (fin1 (.inl rfl) rfl rfl ?_)
  exact ⟨⟨none, 0, rfl, Own.nil _ _ _ _⟩, hB⟩
 refine c_skip (e_S (c_seq (c_region ?_)))
 refine wl_bs0 Tryd.underlying53 sz74_GSearch (fun b5 w1 hb5 hs hr => ?_)
 have lo5 := Nat.le_trans (Bel.size hB) hr
 replace hB := hB.tr0 hs
 clear hs
 clear hr
 refine wl (r_mv (v := .slice _ _ _) rfl) ?_
 have hown := own_blk (sz := 2) (m := 0) hb5 (Nat.le_refl b5) rfl (by decide)
 refine wl_appL (news := lnV xs) Tryd.underlying53 in74 rfl (by decide) hown rfl rfl (fun hm => (hL.mono hB).news hm) (lnV_len xs) (lnV_one xs) (by omega) (by omega) (Nat.le_of_lt hb5.lt) (fun A7 cap7 w9 ho7 hs hg => ?_)
 have hB9 : Bel w w9 := hB.tr hs (fun g hg => by cases List.mem_singleton.1 hg; exact lo5)
 refine wl (r_as (v := .slice _ _ _) rfl) (x_nil (e_S (c_ret (fin1 (.inl rfl) rfl rfl ?_))))
 refine ⟨⟨A7, cap7, ?_, ?_⟩, hB9⟩
 · show Ending.returned (.slice _ (0 + xs.length) _) = _
   rw [Nat.zero_add]
 · have h := ho7.low lo5
   rw [Nat.zero_add] at h
   exact h

set_option maxHeartbeats 1000000 in
theorem insl_any {base b vc c k : Nat} {A : Option Addr} {L : List (Int × Int)} {x : Int × Int} (w : World) (ho : Own w base 74 2 A L.length c (lnV L)) (hb : Blk w b 74 #[.int .i64 x.1, .int .i64 x.2]) (hA : ∀ g ∈ aL A, g ≠ b) (hk : k ≤ L.length) (hl : L.length ≤ 1000000) (hbase : base ≤ w.heap.size) : Calls Tryd.prog 49 #[.slice A L.length c, .int .i64 (k : Nat), .slice (some ⟨b, 0, none⟩) 1 vc] w fun e w' => ∃ A' c', e = .returned (.slice A' (L.length + 1) c') ∧ Own w' base 74 2 A' (L.length + 1) c' (lnV (insL L k x)) ∧ Same (aL A) w w' ∧ ∀ g ∈ aL A', g ∈ aL A ∨ w.heap.size ≤ g := by
 have hcl := ho.cap_le
 refine enter Tryd.func49 Tryd.ntmps49 rfl (Nat.le_of_ble_eq_true rfl) (c_seq (c_region (wl (r_as (v := .slice _ _ _) rfl) (x_nil (e_S ?_)))))
 refine c_seq (c_region (wl (r_mv (v := .slice _ _ _) rfl) (wl (r_mv (v := .int _ _) rfl) (wl (r_slL (l := k) Tryd.underlying53 sz74_GSearch rfl rfl hk) (x_nil ?_)))))
 refine e_S (c_seq (c_region (wl (r_mv (v := .slice _ _ _) rfl) (wl (r_len Tryd.underlying53 rfl) (wl (r_as (v := .int _ _) rfl) ?_)))))
 refine x_nil (e_S (c_seq (c_seq (c_region (wl (r_mv (v := .int _ _) rfl) ?_)))))
 refine wl (r_eql rfl rfl) (x_nil (e_S ?_))
 refine c_ifd rfl (fun c16 => ?_) (fun c16 => ?_)
 ·
  exact absurd c16 (by decide)
 refine c_skip (e_S (c_seq (c_region (wl (r_mv (v := .slice _ _ _) rfl) (wl (r_len Tryd.underlying53 rfl) ?_)))))
 refine wl (r_as (v := .int _ _) rfl) (x_nil (e_S (c_seq (c_seq (c_region ?_)))))
 refine wl (r_mv (v := .int _ _) rfl) (wl (r_mv (v := .int _ _) rfl) (wl (r_eql rfl rfl) (x_nil (e_S ?_))))
 refine c_ifd rfl (fun c22 => ?_) (fun c22 => ?_)
 ·
  have hkn : k = L.length := by omega
  subst hkn
  refine c_seq (c_region (wl (r_mv (v := .slice _ _ _) rfl) (wl (r_mv (v := .slice _ _ _) rfl) ?_)))
  refine wl_app Tryd.underlying53 in74 rfl (by decide) ho hb rfl rfl rfl oneA (by decide) (by omega) (by omega) hbase (fun g25 cap25 w25 ho25 hs25 hg25 => ?_)
  refine wl (r_as (v := .slice _ _ _) rfl) (x_nil (e_S (c_ret (e_Sr (fin1 (.inl rfl) rfl rfl ?_)))))
  exact ⟨_, _, rfl, ins_end ho25, hs25, fun g2 hg2 => by rw [List.mem_singleton.1 hg2]; rcases hg25 with h | h; (· left; rw [h]; exact List.mem_singleton.2 rfl); exact .inr h⟩
 have hkn : k < L.length := by omega
 obtain ⟨g, cur, rfl, hgb, hcur, hcm, hcs, hct⟩ := ho.whole (show 0 < L.length by omega)
 have hgl := hcur.lt
 have hgn : g ≠ b := hA g (List.mem_singleton.2 rfl)
 have htk := tk_len hk
 have hdr := dr_len (L := L) (k := k)
 rw [lnV_cut L k] at hct
 refine c_skip (e_S (c_seq (c_seq (c_region (wl (r_mv (v := .int _ _) rfl) ?_)))))
 refine wl (r_mv (v := .int _ _) rfl) (wl (r_add (c := ((L.length + 1 : Nat) : Int)) rfl rfl (by omega) (by omega)) (wl (r_mv (v := .slice _ _ _) rfl) (wl (r_cap Tryd.underlying53 rfl) (wl (r_gtr rfl rfl) (x_nil ?_)))))
 refine e_S ?_
 refine c_ifd rfl (fun c31 => ?_) (fun c31 => ?_)
 ·
  have hroom : c < L.length + 1 := by omega
  refine c_seq (c_region (wl (r_mv (v := .slice _ _ _) rfl) (wl (r_mv (v := .int _ _) rfl) (wl (r_slH (h := k) Tryd.underlying53 sz74_GSearch rfl rfl (by omega)) (wl (r_mv (v := .int _ _) rfl) ?_)))))
  refine wl (r_mv (v := .int _ _) rfl) (wl (r_add (c := ((L.length + 1 : Nat) : Int)) rfl rfl (by omega) (by omega)) (wl (r_mv (v := .int _ _) rfl) (wl (r_sub (c := ((L.length + 1 - k : Nat) : Int)) rfl rfl (by omega) (by omega)) ?_)))
  refine wl_appZ2 (olds := lnV (L.take k)) (m := k) (k := L.length + 1 - k) Tryd.underlying53 Tryd.underlying3 in74 (by omega) (by decide) (by omega) (by omega) (by omega) rfl rfl htk (fun j v hj => hcur.cell (cur_take hct hj)) (fun b40 cap40 w40 hb40 hs40 hr40 hge hle => ?_)
  have e40 : k + (L.length + 1 - k) = L.length + 1 := by omega
  rw [e40] at hge hb40 ⊢
  have hne40 : b ≠ b40 := by have := hb.lt; omega
  have hng40 : g ≠ b40 := by omega
  replace hb := hb.tr0 hs40
  replace hcur := hcur.tr0 hs40
  have hS : SameQ [b40] w40 w40 := Same.refl _ _
  obtain ⟨Zs, hZs⟩ : ∃ Zs : List Value, Zs = (Builtin.zeroCells (Value.agg #[.int .i64 0, .int .i64 0]).cells (L.length + 1 - k)).toList ++ (Builtin.zeroCells (Value.agg #[.int .i64 0, .int .i64 0]).cells (cap40 - (L.length + 1))).toList := ⟨_, rfl⟩
  obtain ⟨R0, hR0⟩ : ∃ R0 : Array Value, R0 = (lnV (L.take k)).toArray ++ Builtin.zeroCells (Value.agg #[.int .i64 0, .int .i64 0]).cells (L.length + 1 - k) ++ Builtin.zeroCells (Value.agg #[.int .i64 0, .int .i64 0]).cells (cap40 - (L.length + 1)) := ⟨_, rfl⟩
  have hRl : R0.toList = lnV (L.take k) ++ Zs := by rw [hR0, hZs]; simp
  have hRs : R0.size = cap40 * 2 := by
    rw [hR0]
    simp only [Array.size_append, List.size_toArray, htk, Builtin.zeroCells, Array.size_map, Array.size_range, show (Value.agg #[.int .i64 0, .int .i64 0]).cells.size = 2 from rfl]
    omega
  rw [← hR0] at hb40
  clear hR0 hZs
  refine wl (r_as (v := .slice _ _ _) rfl) (x_nil (e_S (c_seq (c_region (wl (r_mv (v := .slice _ _ _) rfl) ?_)))))
  refine wl (r_mv (v := .int _ _) rfl) (wl (r_slM (l := k) (l2 := L.length + 1 - k) Tryd.underlying53 sz74_GSearch rfl rfl (by omega) (by omega) (by omega)) (wl (r_mv (v := .slice _ _ _) rfl) ?_))
  refine wl_cp (m := 1) (cs := lk1 x) Tryd.underlying53 sz74_GSearch rfl rfl hb40 (by simp only [Nat.min_def]; split <;> omega) rfl (fun j v hj => by rw [Addr.add_mid, Nat.zero_add]; exact hb.cell (by simpa [lk1] using hj)) (by rw [hRs]; simp only [lk1, List.length_cons, List.length_nil]; omega) (lk1_one x) (fun w45 hb45 hs45 => ?_)
  replace hb := hb.tr1 hs45 hne40
  replace hcur := hcur.tr1 hs45 hng40
  replace hS := SameQ.trans hS hs45 (by simp)
  have hR1 : (cpy R0 (0 + k * 2) (lk1 x)).size = cap40 * 2 := by rw [cpy_size (by rw [hRs]; simp only [lk1, List.length_cons, List.length_nil]; omega), hRs]
  refine x_nil (e_S (c_seq ?_))
  refine c_tail 8 (by kernel_rfl) (by kernel_rfl) (fun w1 hs => ?_)
  replace hb := hb.tr0 hs
  replace hcur := hcur.tr0 hs
  replace hb45 := hb45.tr0 hs
  replace hS := SameQ.trans hS hs (by simp)
  clear hs
  refine ws (r_mv (v := .slice _ _ _) rfl) (ws (r_mv (v := .int _ _) rfl) (ws (r_mv (v := .int _ _) rfl) (ws (r_add (c := ((k + 1 : Nat) : Int)) rfl rfl (by omega) (by omega)) (ws (r_slM (l := k + 1) (l2 := L.length - k) Tryd.underlying53 sz74_GSearch rfl rfl (by omega) (by omega) (by omega)) (ws (r_mv (v := .slice _ _ _) rfl) ?_)))))
  refine ws (r_mv (v := .int _ _) rfl) (ws (r_slM (l := k) (l2 := L.length - k) Tryd.underlying53 sz74_GSearch rfl rfl (by omega) (by omega) (by omega)) (s_tail ?_))
  refine wl_cp (m := L.length - k) (cs := lnV (L.drop k)) Tryd.underlying53 sz74_GSearch rfl rfl hb45 (by simp only [Nat.min_def]; split <;> omega) hdr (fun j v hj => by
    rw [Addr.add_mid]
    have h := cur_drop hct hj
    rw [htk] at h
    exact hcur.cell (by rw [Nat.zero_add]; exact h)) (by rw [hR1, hdr]; omega) (lnV_one' _) (fun w54 hb54 hs54 => ?_)
  replace hS := SameQ.trans hS hs54 (by simp)
  refine x_nil (e_S (c_seq (c_region (wl (r_mv (v := .slice _ _ _) rfl) (wl (r_as (v := .slice _ _ _) rfl) ?_)))))
  refine x_nil (e_S (c_ret (e_Sr (fin1 (.inl rfl) rfl rfl ?_))))
  exact ⟨_, _, rfl, ins_new hb54 hRl hRs hge hle (Nat.le_trans hbase hr40) hk, (hs40.freshL (show Same [b40] _ _ from hS) (fun g hg => .inr (by rw [List.mem_singleton.1 hg]; exact hr40))).weak (by simp), fun g2 hg2 => .inr (by rw [List.mem_singleton.1 hg2]; exact hr40)⟩
 have hroom : L.length + 1 ≤ c := by omega
 refine c_skip (e_S (c_seq (c_region (wl (r_mv (v := .slice _ _ _) rfl) (wl (r_mv (v := .int _ _) rfl) ?_)))))
 refine wl (r_mv (v := .int _ _) rfl) (wl (r_add (c := ((L.length + 1 : Nat) : Int)) rfl rfl (by omega) (by omega)) (wl (r_slH (h := (L.length + 1)) Tryd.underlying53 sz74_GSearch rfl rfl hroom) (wl (r_as (v := .slice _ _ _) rfl) (x_nil (e_S ?_)))))
 refine c_seq (c_seq (c_region (wl (r_mv (v := .slice _ _ _) rfl) (wl (r_mv (v := .slice _ _ _) rfl) (wl (r_mv (v := .int _ _) rfl) ?_)))))
 refine wl (r_mv (v := .int _ _) rfl) (wl (r_add (c := ((k + 1 : Nat) : Int)) rfl rfl (by omega) (by omega)) (wl (r_slM (l := k + 1) (l2 := L.length - k) Tryd.underlying53 sz74_GSearch rfl rfl (by omega) (by omega) (by omega)) (wl (r_ext (ovl_any hb hcur (fun e => hgn e.symm) (by omega)) rfl) (wl (r_not rfl) (x_nil ?_)))))
 refine e_S ?_
 refine c_if rfl (fun c68 => ?_) (fun c68 => ?_)
 ·
  have hS : SameQ [g] w w := Same.refl _ _
  refine c_seq ?_
  refine c_tail 8 (by kernel_rfl) (by kernel_rfl) (fun w2 hs => ?_)
  replace hb := hb.tr0 hs
  replace hcur := hcur.tr0 hs
  replace hS := SameQ.trans hS hs (by simp)
  clear hs
  refine ws (r_mv (v := .slice _ _ _) rfl) (ws (r_mv (v := .int _ _) rfl) (ws (r_mv (v := .int _ _) rfl) (ws (r_add (c := ((k + 1 : Nat) : Int)) rfl rfl (by omega) (by omega)) (ws (r_slM (l := k + 1) (l2 := L.length - k) Tryd.underlying53 sz74_GSearch rfl rfl (by omega) (by omega) (by omega)) (ws (r_mv (v := .slice _ _ _) rfl) ?_)))))
  refine ws (r_mv (v := .int _ _) rfl) (ws (r_slM (l := k) (l2 := L.length + 1 - k) Tryd.underlying53 sz74_GSearch rfl rfl (by omega) (by omega) (by omega)) (s_tail ?_))
  refine wl_cp (m := L.length - k) (cs := lnV (L.drop k)) Tryd.underlying53 sz74_GSearch rfl rfl hcur (by simp only [Nat.min_def]; split <;> omega) hdr (fun j v hj => by
    rw [Addr.add_mid]
    have h := cur_drop hct hj
    rw [htk] at h
    exact hcur.cell (by rw [Nat.zero_add]; exact h)) (by rw [hcs, hdr]; omega) (lnV_one' _) (fun w77 hb77 hs77 => ?_)
  replace hS := SameQ.trans hS hs77 (by simp)
  replace hb := hb.tr1 hs77 (fun e => hgn e.symm)
  have hR1 : (cpy cur (0 + (k + 1) * 2) (lnV (L.drop k))).size = c * 2 := by rw [cpy_size (by rw [hcs, hdr]; omega), hcs]
  refine x_nil (e_S (c_seq (c_region (wl (r_mv (v := .slice _ _ _) rfl) (wl (r_mv (v := .int _ _) rfl) ?_)))))
  refine wl (r_slM (l := k) (l2 := L.length + 1 - k) Tryd.underlying53 sz74_GSearch rfl rfl (by omega) (by omega) (by omega)) (wl (r_mv (v := .slice _ _ _) rfl) ?_)
  refine wl_cp (m := 1) (cs := lk1 x) Tryd.underlying53 sz74_GSearch rfl rfl hb77 (by simp only [Nat.min_def]; split <;> omega) rfl (fun j v hj => by rw [Addr.add_mid, Nat.zero_add]; exact hb.cell (by simpa [lk1] using hj)) (by rw [hR1]; simp only [lk1, List.length_cons, List.length_nil]; omega) (lk1_one x) (fun w82 hb82 hs82 => ?_)
  replace hS := SameQ.trans hS hs82 (by simp)
  refine x_nil (e_S (c_seq (c_region (wl (r_mv (v := .slice _ _ _) rfl) (wl (r_as (v := .slice _ _ _) rfl) ?_)))))
  refine x_nil (e_S (c_ret (e_Sr (fin1 (.inl rfl) rfl rfl ?_))))
  exact ⟨_, _, rfl, ins_move hb82 (by rw [lnV_cut L k]; exact hct) hcs hroom hcm hgb hk, by simpa [aL, SameQ] using hS, fun g2 hg2 => .inl hg2⟩
 exact absurd c68 (by decide)

theorem ren_any {n b a c : Nat} {rep : Nat → Nat} (w : World) (hn : n ≤ 1000000) (hb : Blk w b 3 (row n (fun x => .int .i64 ((rep x : Nat) : Int)))) : Calls Tryd.prog 46 #[.slice (some ⟨b, 0, none⟩) n n, .int .i64 (c : Nat), .int .i64 (a : Nat)] w fun e w' => e = .returned (.tuple #[]) ∧ Blk w' b 3 (row n (fun x => .int .i64 ((UF.un rep a c x : Nat) : Int))) ∧ Same [b] w w' := by
 have hS : SameQ [b] w w := Same.refl _ _
 refine enter Tryd.func46 Tryd.ntmps46 rfl (Nat.le_of_ble_eq_true rfl) (c_seq (c_region (wl (r_mv (v := .slice _ _ _) rfl) (wl (r_len Tryd.underlying51 rfl) (wl (r_mv (v := .int _ _) rfl) ?_)))))
 refine x_nil (e_S (c_block ?_))
 refine c_loopS [6, 9, 10, 11, 12, 13, 14, 15, 16, 17, 18, 19, 20, 21, 22] (fun m g w' => ∃ k : Nat, k ≤ n ∧ m = n - k ∧ g 9 = .int .i64 k ∧ Blk w' b 3 (row n (fun x => .int .i64 (((if x < k then UF.un rep a c x else rep x : Nat)) : Int))) ∧ SameQ [b] w w') (n) ?_ (fun m g1 w1 hI => ?_)
 ·
  exact ⟨0, Nat.zero_le _, rfl, rfl, by rw [row_congr (g' := fun x => .int .i64 ((rep x : Nat) : Int)) (fun x _ => by simp)]; exact hb, hS⟩
 obtain ⟨k, hkk, hm, h9, hb, hS⟩ := hI
 refine c_know 9 (.int .i64 k) h9 (by simp [undef]) (c_seq (c_region (wl (r_lss rfl rfl) (x_nil (e_S ?_)))))
 refine c_seq ?_
 refine c_ifd rfl (fun c10 => ?_) (fun c10 => ?_)
 ·
  have hlt : k < n := by omega
  have hck : w1.cell? ⟨b, 0 + k * 1, none⟩ = some (.int .i64 ((rep k : Nat) : Int)) := by
    have h := hb.cell (row_get hlt)
    simpa using h
  refine c_skip (e_S (c_seq (c_block (c_seq (c_region ?_)))))
  refine wl (r_mv (v := .int _ _) rfl) (wl (r_as (v := .int _ _) rfl) (x_nil (e_S (c_seq (c_region ?_)))))
  refine wl (r_mv (v := .slice _ _ _) rfl) (wl (r_mv (v := .int _ _) rfl) (wl (r_ia (i := k) Tryd.underlying51 sz3_GSearch rfl rfl hlt rfl) (wl (r_ld1 (v := .int _ _) Tryd.underlying3 rfl rfl hck) (wl (r_mv (v := .int _ _) rfl) (wl (r_eql rfl rfl) ?_)))))
  refine x_nil (e_S ?_)
  refine c_ifd rfl (fun c17 => ?_) (fun c17 => ?_)
  ·
   have hck2 : rep k = c := by omega
   refine c_region (wl (r_mv (v := .slice _ _ _) rfl) (wl (r_mv (v := .int _ _) rfl) (wl (r_mv (v := .int _ _) rfl) (wl (r_ia (i := k) Tryd.underlying51 sz3_GSearch rfl rfl hlt rfl) ?_))))
   refine wl_st1 (v := .int _ _) hb rfl rfl sz3_GSearch (by rw [row_size]; omega) rfl row_set (fun w2 hq hs => ?_)
   replace hS := SameQ.trans hS hs (by simp)
   clear hs
   replace hb := hq
   rw [row_congr (g' := fun x => .int .i64 (((if x < k + 1 then UF.un rep a c x else rep x : Nat)) : Int)) (fun x _ => by
     by_cases e : x = k
     · subst e; simp [UF.un, hck2]
     · have e1 : (x < k + 1) ↔ (x < k) := by omega
       simp [e, e1])] at hb
   refine x_nil (e_B (e_S (c_region (wl (r_add rfl rfl rfl (by omega)) (wl (r_mv (v := .int _ _) rfl) ?_)))))
   refine x_nil (e_LS (n - (k + 1)) (by omega) agA ?_)
   exact ⟨k + 1, by omega, rfl, rfl, hb, hS⟩
  have hck2 : ¬ rep k = c := by omega
  rw [row_congr (g' := fun x => .int .i64 (((if x < k + 1 then UF.un rep a c x else rep x : Nat)) : Int)) (fun x _ => by
    by_cases e : x = k
    · subst e; simp [UF.un, hck2]
    · have e1 : (x < k + 1) ↔ (x < k) := by omega
      simp [e1])] at hb
  refine c_skip (e_B (e_S (c_region (wl (r_add rfl rfl rfl (by omega)) (wl (r_mv (v := .int _ _) rfl) ?_)))))
  refine x_nil (e_LS (n - (k + 1)) (by omega) agA ?_)
  exact ⟨k + 1, by omega, rfl, rfl, hb, hS⟩
 have hke : k = n := by omega
 rw [hke, row_congr (g' := fun x => .int .i64 ((UF.un rep a c x : Nat) : Int)) (fun x hx => by simp [hx])] at hb
 refine c_exit (e_Sx (e_LSx (e_Bx (fin0 (.inr rfl) rfl  ?_))))
 exact ⟨rfl, hb, hS⟩
end Go.Proofs.YteoncmfiiknfbaaDoor
