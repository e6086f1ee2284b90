/- What these functions of the program compute, at every world: (*glosswright/unify.pool).find, slices.Grow[[]glosswright/api.Link,glosswright/api.Link], slices.Concat[[]glosswright/api.Link,glosswright/api.Link]. What these functions of the program compute, at every world: slices.Clone[[]glosswright/api.Link,glosswright/api.Link], slices.Insert[[]glosswright/api.Link,glosswright/api.Link], glosswright/glosswrightref3.rename. What these functions of the program compute, at every world: glosswright/glosswrightref3.Meet. -/
import Derived.Test.YteoncmfiiknfbaaDoorU
import Derived.Test.YteoncmfiiknfbaaDoorPool
import Derived.Test.YteoncmfiiknfbaaDoorEng7
import Derived.Test.YteoncmfiiknfbaaDoorHLaw
namespace Go.Proofs.YteoncmfiiknfbaaDoor
open Go.RowKit
def SameQ (X : List Nat) (w w' : World) : Prop := Same X w w'
theorem SameQ.trans {X : List Nat} {a b c : World} (h : SameQ X a b) {Y : List Nat} (k : Same Y b c) (hy : ∀ g ∈ Y, g ∈ X) : SameQ X a c := Same.trans h (k.weak hy)
theorem fn71 : callable Tryd.prog 71 = true := by kernel_rfl
theorem sz51_PFind : (Tryd.prog.info? 51).map (·.size) = some 1 := by kernel_rfl
set_option maxHeartbeats 1000000 in
theorem pfind_any {ob bp n cp ct cl i : Nat} {PA TA LA : Option Addr} {c0 c1 : Value} {P rep ρ : Nat → Nat} (w : World) (hbp : Blk w bp 64 #[c0, c1, .slice PA n cp, .slice TA n ct, .slice LA n cl]) (hpa : Own w ob 3 1 PA n cp (rowL n (vN P))) (hbo : bp < ob) (hu : UF n P rep ρ) (hi : i < n) : Calls Tryd.prog 59 #[.pointer (some ⟨bp, 0, none⟩), .int .i64 (i : Nat)] w fun e w' => ∃ P', e = .returned (.int .i64 ((rep i : Nat) : Int)) ∧ Own w' ob 3 1 PA n cp (rowL n (vN P')) ∧ UF n P' rep ρ ∧ Same (aL PA) w w' := by
 obtain ⟨q, rfl, hqb, hql, _⟩ := hpa.rowc hi
 have hS : SameQ [q] w w := Same.refl _ _
 have hnm := hpa.max
 refine enter Tryd.func59 Tryd.ntmps59 rfl (Nat.le_of_ble_eq_true rfl) (c_seq (c_region (waI rfl (x_nil (e_S ?_)))))
 refine c_seq (c_block ?_)
 refine c_loopS [1, 5, 6, 7, 8, 9, 10, 11, 12, 13, 14, 15, 16, 17, 18, 19, 20, 21, 22, 23, 24, 25, 26, 27, 28, 29, 30, 31, 32, 33, 34, 35, 36, 37, 38, 39] (fun m g w' => ∃ (j : Nat) (Q : Nat → Nat), j < n ∧ m = ρ j ∧ g 1 = .int .i64 (j : Nat) ∧ Blk w' bp 64 #[c0, c1, .slice (some ⟨q, 0, none⟩) n cp, .slice TA n ct, .slice LA n cl] ∧ Own w' ob 3 1 (some ⟨q, 0, none⟩) n cp (rowL n (vN Q)) ∧ SameQ [q] w w' ∧ UF n Q rep ρ ∧ rep j = rep i) (ρ i) ?_ (fun m g1 w1 hI => ?_)
 ·
  exact ⟨i, P, hi, rfl, rfl, hbp, hpa, hS, hu, rfl⟩
 obtain ⟨j, Q, hj, hm, h1, hbp, hpa, hS, hu, hrj⟩ := hI
 refine c_know 1 (.int .i64 (j : Nat)) h1 nu (c_seq (c_seq (c_region (wl (r_mv (v := .pointer (some _)) rfl) (wl (r_nc rfl) ?_)))))
 refine wl (r_fa U64 sz51_PFind dE rfl rfl rfl) (wl (r_ld1 (v := .slice _ _ _) U51 rfl rfl (hbp.cell rfl)) (wmI rfl (wl (r_ia (i := j) U51 sz3_GSearch rfl rfl hj rfl) (wl (r_ld1 (v := .int _ _) U3 rfl rfl (hpa.rowq hj)) (wmI rfl ?_)))))
 refine wl (r_neq rfl rfl) (x_nil (e_S ?_))
 refine c_ifd rfl (fun c13 => ?_) (fun c13 => ?_)
 ·
  have hne : Q j ≠ j := fun e => c13 (by rw [e])
  have hu2 := hu.half hj hne
  have hlt : ρ (Q (Q j)) < ρ j := by
    have h1 := hu.ex j hj hne
    by_cases e : Q (Q j) = Q j
    · rw [e]; exact h1
    · exact Nat.lt_trans (hu.ex _ (hu.lt j hj) e) h1
  have hq1 := hu.lt j hj
  obtain ⟨g0, cur, hA0, _, hbA, hszA, hrdA, hclA⟩ := hpa.open_ om
  cases hA0
  refine c_skip (e_S (c_block (c_seq ?_)))
  refine c_tail 19 kR kR (fun w2 hs => ?_)
  replace hbp := hbp.tr0 hs
  replace hpa := hpa.tr0 hs
  replace hS := SameQ.trans hS hs (by simp)
  replace hbA := hbA.tr0 hs
  clear hs
  refine ws (r_mv (v := .pointer (some _)) rfl) (ws (r_nc rfl) (ws (r_fa U64 sz51_PFind dE rfl rfl rfl) (ws (r_ld1 (v := .slice _ _ _) U51 rfl rfl (hbp.cell rfl)) (ws (r_mv (v := .int _ _) rfl) (ws (r_mv (v := .pointer (some _)) rfl) ?_)))))
  refine ws (r_nc rfl) (ws (r_fa U64 sz51_PFind dE rfl rfl rfl) (ws (r_ld1 (v := .slice _ _ _) U51 rfl rfl (hbp.cell rfl)) (ws (r_mv (v := .pointer (some _)) rfl) (ws (r_nc rfl) (ws (r_fa U64 sz51_PFind dE rfl rfl rfl) ?_)))))
  refine ws (r_ld1 (v := .slice _ _ _) U51 rfl rfl (hbp.cell rfl)) (ws (r_mv (v := .int _ _) rfl) (ws (r_ia (i := j) U51 sz3_GSearch rfl rfl hj rfl) (ws (r_ld1 (v := .int _ _) U3 rfl rfl (hpa.rowq hj)) (ws (r_ia (i := (Q j)) U51 sz3_GSearch rfl rfl hq1 rfl) (ws (r_ld1 (v := .int _ _) U3 rfl rfl (hpa.rowq hq1)) ?_)))))
  refine ws (r_ia (i := j) U51 sz3_GSearch rfl rfl hj rfl) (s_tail ?_)
  refine wl_st1 (v := .int _ _) hbA rfl rfl sz3_GSearch om rfl rfl (fun w3 hq hs => ?_)
  replace hbp := hbp.tr1 hs om
  replace hS := SameQ.trans hS hs (by simp)
  clear hs
  replace hbA := hq
  have hpa : Own w3 ob 3 1 (some ⟨q, 0, none⟩) n cp (rowL n (vN (setN Q j (Q (Q j))))) := by
    have h := hclA _ _ _ hbA
    rw [show 0 + j * 1 = j by omega, rowL_set, rowL_congr (g' := vN (setN Q j (Q (Q j)))) (fun x _ => by by_cases e : x = j <;> simp [vN, setN, e])] at h
    exact h
  refine x_nil (e_S (c_region (wl (r_mv (v := .pointer (some _)) rfl) (wl (r_nc rfl) (wl (r_fa U64 sz51_PFind dE rfl rfl rfl) ?_)))))
  refine wl (r_ld1 (v := .slice _ _ _) U51 rfl rfl (hbp.cell rfl)) (wmI rfl (wl (r_ia (i := j) U51 sz3_GSearch rfl rfl hj rfl) (wl (r_ld1 (v := .int _ _) U3 rfl rfl (by have h := hpa.rowq hj; unfold vN at h; rw [setN_self] at h; exact h)) (waI rfl (x_nil ?_)))))
  refine e_B (e_LS (ρ (Q (Q j))) om agA ?_)
  exact ⟨Q (Q j), setN Q j (Q (Q j)), hu.lt _ (hu.lt j hj), rfl, rfl, hbp, hpa, hS, hu2, by rw [hu.rp _ (hu.lt j hj), hu.rp j hj]; exact hrj⟩
 have heq : Q j = j := by omega
 have hfx := hu.fx j hj heq
 refine c_exit (e_Sx (e_LSx (e_Bx (e_S (c_seq ?_)))))
 refine c_region (wmI rfl (waI rfl (x_nil (e_S (c_ret ?_)))))
 refine fin1 (.inl rfl) rfl rfl ?_
 exact ⟨Q, ret_int (by rw [← hrj, hfx]), hpa, hu, by simpa [aL, SameQ] using hS⟩
theorem growl_any (k : Nat) (w : World) (hk : k ≤ 8796093022208) : Calls Tryd.prog 71 #[.slice none 0 0, .int .i64 k] w fun e w' => (∃ A cap, e = .returned (.slice A 0 cap) ∧ Own w' w.heap.size 74 2 A 0 cap []) ∧ Bel w w' := by
 refine enter Tryd.func71 Tryd.ntmps71 rfl (Nat.le_of_ble_eq_true rfl) ?_
 have hB : Bel w w := Below.refl _ _
 refine c_seq (c_region (waS rfl (x_nil (e_S (c_seq ?_)))))
 refine c_seq (c_region (wmI rfl (wl (r_lss rfl rfl) (x_nil (e_S ?_)))))
 refine c_ifd rfl (fun c6 => ?_) (fun c6 => ?_)
 ·
  exact absurd c6 om
 refine c_skip (e_S (c_seq (c_seq (c_region (wmI rfl ?_)))))
 refine wmS rfl (wl (r_cap U53 rfl) (wmS rfl (wl (r_len U53 rfl) (wl (r_sub rfl rfl rfl dE) (wl (r_sub (c := k) rfl rfl om om) ?_)))))
 refine waI rfl (x_nil (e_S (c_seq (c_region (wmI rfl ?_)))))
 refine wl (r_gtr rfl rfl) (x_nil (e_S ?_))
 refine c_ifd rfl (fun c16 => ?_) (fun c16 => ?_)
 ·
  have hpos : 0 < k := by omega
  refine c_region (wmS rfl (wmS rfl (wl (r_cap U53 rfl) (wl (r_slH (h := 0) U53 sz74_GSearch rfl rfl om) (wmI rfl ?_)))))
  refine wl_appZ U53 U3 in74 rfl hpos dE om om rfl rfl (fun b22 cap22 w22 ho22 hs22 hg22 hge hle => ?_)
  have hB2 : Bel w w22 := hB.tr0 hs22
  refine wmS rfl (wl (r_len U53 rfl) (wl (r_slH (h := 0) U53 sz74_GSearch rfl rfl om) (waS rfl (x_nil (e_S ?_)))))
  refine c_seq (c_region (wmS rfl (waS rfl (x_nil (e_S ?_)))))
  refine c_ret (fin1 (.inl rfl) rfl rfl ?_)
  first
    | exact ⟨⟨_, _, rfl, ho22⟩, hB2⟩
    | exact ⟨⟨none, 0, rfl, Own.nil _ _ _ _⟩, hB⟩
 refine c_skip (e_S (c_seq (c_region (wmS rfl (waS rfl ?_)))))
 refine x_nil (e_S (c_ret (fin1 (.inl rfl) rfl rfl ?_)))
 first
   | exact ⟨⟨_, _, rfl, ho22⟩, hB2⟩
   | exact ⟨⟨none, 0, rfl, Own.nil _ _ _ _⟩, hB⟩
theorem concl_any (A : Option Addr) (c : Nat) (L : List (List (Int × Int))) (w : World) (hM : LMat w A L) (hl : L.length ≤ 1000) (hs : L.flatten.length ≤ 8796093022208) : Calls Tryd.prog 61 #[.slice A L.length c] w fun e w' => (∃ A' cap', e = .returned (.slice A' L.flatten.length cap') ∧ Own w' w.heap.size 74 2 A' L.flatten.length cap' (lnV L.flatten)) ∧ Bel w w' := by
 refine enter Tryd.func61 Tryd.ntmps61 rfl (Nat.le_of_ble_eq_true rfl) ?_
 have hB : Bel w w := Below.refl _ _
 refine c_seq (c_region (waS rfl (x_nil (e_S (c_seq ?_)))))
 refine c_region (waI rfl (x_nil (e_S (c_seq (c_seq ?_)))))
 refine c_region (wmS rfl (wl (r_len U62 rfl) (wmI rfl (x_nil (e_S ?_)))))
 refine c_block ?_
 refine c_loopS [3, 5, 11, 12, 13, 14, 15, 16, 17, 18, 19, 20, 21, 22] (fun m g w' => ∃ k : Nat, k ≤ L.length ∧ m = L.length - k ∧ g 11 = .int .i64 k ∧ g 3 = .int .i64 (sumM L k) ∧ Bel w w') (L.length) ?_ (fun m g3 w1 hI => ?_)
 ·
  exact ⟨0, Nat.zero_le _, rfl, rfl, rfl, hB⟩
 obtain ⟨k, hk, hm, h11, h3, hB⟩ := hI
 refine c_know 11 (.int .i64 k) h11 nu (c_know 3 (.int .i64 (sumM L k)) h3 nu (c_seq (c_region (wl (r_lss rfl rfl) (x_nil ?_)))))
 refine e_S (c_seq ?_)
 refine c_ifd rfl (fun c12 => ?_) (fun c12 => ?_)
 ·
  have hlt : k < L.length := by omega
  obtain ⟨mb, mo, MA, mc, rfl, hmr, hmi⟩ := hM.at_ hB hlt
  have hss := sumM_succ hlt
  have hsl := sumM_le L (k + 1)
  refine c_skip (e_S (c_seq (c_block (c_seq (c_region ?_)))))
  refine wl (r_ia (i := k) U62 sz53_GTgt rfl rfl om rfl) (wl (r_ld1 (v := .slice _ _ _) U53 rfl rfl hmr) (waS rfl (x_nil (e_S (c_seq ?_)))))
  refine c_region (wmI rfl (wmS rfl (wl (r_len U53 rfl) (wl (r_add (c := (sumM L (k + 1) : Nat)) rfl rfl om om) (waI rfl ?_)))))
  refine x_nil (e_S (c_seq (c_region (wmI rfl (wl (r_lss rfl rfl) ?_)))))
  refine x_nil (e_S ?_)
  refine c_ifd rfl (fun c20 => ?_) (fun c20 => ?_)
  ·
   exact absurd c20 om
  refine c_skip (e_B (e_S (c_region (wl (r_add rfl rfl rfl om) (wmI rfl ?_)))))
  refine x_nil (e_LS (L.length - (k + 1)) om agA ?_)
  exact ⟨k + 1, by omega, rfl, rfl, rfl, hB⟩
 have hke : sumM L k = L.flatten.length := by unfold sumM; rw [sumM_all om]
 obtain ⟨bz, hbz⟩ : ∃ z, z = w1.heap.size := ⟨_, rfl⟩
 refine c_exit (e_Sx (e_LSx (e_Bx (e_S (c_seq ?_)))))
 refine c_region (wmI rfl ?_)
 have hbs := Bel.size hB
 refine wl_cl fn71 (growl_any (sumM L k) _ om) rfl (fun e' w2 hr => ?_)
 obtain ⟨⟨A6, cap6, rfl, ho6⟩, hs⟩ := hr
 replace hs := Same.of_bel hs
 replace hB := hB.tr0 hs
 clear hs
 replace ho6 := ho6.low hbs
 refine ⟨_, rfl, ?_⟩
 refine waS rfl (x_nil (e_S (c_seq (c_seq (c_region ?_)))))
 refine wmS rfl (wl (r_len U62 rfl) (wmI rfl (x_nil (e_S (c_block ?_)))))
 refine c_loopS [6, 8, 27, 28, 29, 30, 31, 32, 33, 34] (fun m g w' => ∃ (k cap6 : Nat) (A6 : Option Addr), k ≤ L.length ∧ m = L.length - k ∧ g 27 = .int .i64 k ∧ g 6 = .slice A6 (L.take k).flatten.length cap6 ∧ Bel w w' ∧ Own w' w.heap.size 74 2 A6 (L.take k).flatten.length cap6 (lnV (L.take k).flatten)) (L.length) ?_ (fun m g11 w3 hI => ?_)
 ·
  exact ⟨0, cap6, A6, Nat.zero_le _, rfl, rfl, rfl, hB, ho6⟩
 obtain ⟨k, cap6, A6, hk, hm, h27, h6, hB, ho6⟩ := hI
 refine c_know 27 (.int .i64 k) h27 nu (c_know 6 (.slice A6 (L.take k).flatten.length cap6) h6 nu (c_seq (c_region (wl (r_lss rfl rfl) (x_nil ?_)))))
 refine e_S (c_seq ?_)
 refine c_ifd rfl (fun c28 => ?_) (fun c28 => ?_)
 ·
  have hlt : k < L.length := by omega
  obtain ⟨mb, mo, MA, mc, rfl, hmr, hmi⟩ := hM.at_ hB hlt
  have hss := sumM_succ hlt
  have hsl := sumM_le L (k + 1)
  have hsk : (L.take k).flatten.length = sumM L k := rfl
  refine c_skip (e_S (c_seq (c_block (c_seq (c_region ?_)))))
  refine wl (r_ia (i := k) U62 sz53_GTgt rfl rfl om rfl) (wl (r_ld1 (v := .slice _ _ _) U53 rfl rfl hmr) (waS rfl (x_nil (e_S (c_region ?_)))))
  refine wmS rfl (wmS rfl ?_)
  have hbb := Bel.size hB
  refine wl_appL (e := 74) (news := lnV (L[k]'hlt)) U53 in74 rfl dE ho6 rfl rfl hmi.news (lnV_len _) (lnV_one _) om om hbb (fun AN capN wN hoN hsN hgN => ?_)
  have hBN : Bel w wN := hB.tr hsN (fun g hg => (ho6.lt g hg).1)
  replace hoN : Own wN w.heap.size 74 2 AN (L.take (k + 1)).flatten.length capN (lnV (L.take (k + 1)).flatten) := by
    rw [flatM_succ hlt, List.length_append, lnV_app]
    exact hoN
  refine waS rfl (x_nil (e_B (e_S (c_region (wl (r_add rfl rfl rfl om) ?_)))))
  refine wmI rfl (x_nil (e_LS (L.length - (k + 1)) om agA ?_))
  refine ⟨k + 1, capN, AN, by omega, rfl, rfl, ?_, hBN, hoN⟩
  rw [flatM_succ hlt, List.length_append]; rfl
 have hke : (L.take k).flatten = L.flatten := sumM_all om
 refine c_exit (e_Sx (e_LSx (e_Bx (e_S (c_seq ?_)))))
 refine c_region (wmS rfl (waS rfl (x_nil (e_S (c_ret ?_)))))
 refine fin1 (.inl rfl) rfl rfl ?_
 refine ⟨⟨A6, cap6, ?_, ?_⟩, hB⟩
 · show Ending.returned (.slice A6 (L.take k).flatten.length cap6) = _
   rw [hke]
 · rw [hke] at ho6
   exact ho6
end Go.Proofs.YteoncmfiiknfbaaDoor
namespace Go.Proofs.YteoncmfiiknfbaaDoor
open Go.RowKit
theorem cur_drop {cur : Array Value} {Ps Ys : List Value} {m j : Nat} {v : Value} (h : cur.toList.take m = Ps ++ Ys) (hj : Ys[j]? = some v) : cur[Ps.length + j]? = some v := by
  have h1 : (Ps ++ Ys)[Ps.length + j]? = some v := by
    rw [List.getElem?_append_right (Nat.le_add_right _ _), Nat.add_sub_cancel_left]; exact hj
  rw [← h, List.getElem?_take] at h1
  split at h1
  · simpa using h1
  · cases h1
theorem cur_take {cur : Array Value} {Ps Ys : List Value} {m j : Nat} {v : Value} (h : cur.toList.take m = Ps ++ Ys) (hj : Ps[j]? = some v) : cur[j]? = some v := by
  have hlt := (List.getElem?_eq_some_iff.1 hj).1
  have h1 : (Ps ++ Ys)[j]? = some v := by
    rw [List.getElem?_append_left hlt]; exact hj
  rw [← h, List.getElem?_take] at h1
  split at h1
  · simpa using h1
  · cases h1
def lk1 (x : Int × Int) : List Value := [Value.int .i64 x.1, Value.int .i64 x.2]
theorem lnV_ins (L : List (Int × Int)) (k : Nat) (x : Int × Int) : lnV (insL L k x) = lnV (L.take k) ++ (lk1 x ++ lnV (L.drop k)) := by
  unfold insL
  rw [lnV_app, show x :: L.drop k = [x] ++ L.drop k from rfl, lnV_app]
  rfl
theorem lnV_cut (L : List (Int × Int)) (k : Nat) : lnV L = lnV (L.take k) ++ lnV (L.drop k) := by rw [← lnV_app, List.take_append_drop]
theorem tk_len {L : List (Int × Int)} {k : Nat} (hk : k ≤ L.length) : (lnV (L.take k)).length = k * 2 := by rw [lnV_len, List.length_take, Nat.min_eq_left hk]
theorem dr_len {L : List (Int × Int)} {k : Nat} : (lnV (L.drop k)).length = (L.length - k) * 2 := by rw [lnV_len, List.length_drop]
theorem ins_new {w : World} {base g cap k : Nat} {R0 : Array Value} {Zs : List Value} {L : List (Int × Int)} {x : Int × Int} (hb : Blk w g 74 (cpy (cpy R0 (0 + k * 2) (lk1 x)) (0 + (k + 1) * 2) (lnV (L.drop k)))) (hR : R0.toList = lnV (L.take k) ++ Zs) (hsz : R0.size = cap * 2) (hcap : L.length + 1 ≤ cap) (hm : cap ≤ 9223372036854775807) (hbase : base ≤ g) (hk : k ≤ L.length) : Own w base 74 2 (some ⟨g, 0, none⟩) (L.length + 1) cap (lnV (insL L k x)) := by
  have h1 := tk_len hk
  have h2 := dr_len (L := L) (k := k)
  have h3 : (lk1 x).length = 2 := rfl
  refine own_mk hb hbase hcap hm ?_ ?_
  · rw [cpy_size, cpy_size, hsz]
    · rw [hsz, h3]; omega
    · rw [cpy_size, hsz, h2]
      · omega
      · rw [hsz, h3]; omega
  · rw [lnV_ins, show (L.length + 1) * 2 = (lnV (L.take k)).length + (lk1 x).length + (lnV (L.drop k)).length by omega]
    exact cpy_new hR om om
theorem ins_move {w : World} {base g cap k : Nat} {R0 : Array Value} {L : List (Int × Int)} {x : Int × Int} (hb : Blk w g 74 (cpy (cpy R0 (0 + (k + 1) * 2) (lnV (L.drop k))) (0 + k * 2) (lk1 x))) (hR : R0.toList.take (L.length * 2) = lnV L) (hsz : R0.size = cap * 2) (hcap : L.length + 1 ≤ cap) (hm : cap ≤ 9223372036854775807) (hbase : base ≤ g) (hk : k ≤ L.length) : Own w base 74 2 (some ⟨g, 0, none⟩) (L.length + 1) cap (lnV (insL L k x)) := by
  have h1 := tk_len hk
  have h2 := dr_len (L := L) (k := k)
  have h3 : (lk1 x).length = 2 := rfl
  have h4 : R0.toList = lnV (L.take k) ++ (lnV (L.drop k) ++ R0.toList.drop (L.length * 2)) := by
    rw [← List.append_assoc, ← lnV_cut, ← hR, List.take_append_drop]
  have h5 : (R0.toList.drop (L.length * 2)).length = cap * 2 - L.length * 2 := by rw [List.length_drop, Array.length_toList, hsz]
  refine own_mk hb hbase hcap hm ?_ ?_
  · rw [cpy_size, cpy_size, hsz]
    · rw [hsz, h2]; omega
    · rw [cpy_size, hsz, h3]
      · omega
      · rw [hsz, h2]; omega
  · rw [lnV_ins, show (L.length + 1) * 2 = (lnV (L.take k)).length + (lk1 x).length + (lnV (L.drop k)).length by omega]
    exact cpy_move h4 om om om
theorem ins_end {w : World} {base cap : Nat} {A : Option Addr} {L : List (Int × Int)} {x : Int × Int} (h : Own w base 74 2 A (L.length + 1) cap (lnV L ++ lk1 x)) : Own w base 74 2 A (L.length + 1) cap (lnV (insL L L.length x)) := by
  rw [lnV_ins, List.take_length, List.drop_eq_nil_of_le (Nat.le_refl _)]
  simpa [lnV] using h
theorem lk1_one (x : Int × Int) : ∀ v ∈ lk1 x, v.oneCell' = true := fun v hv => by
  simp only [lk1, List.mem_cons, List.not_mem_nil, or_false] at hv
  rcases hv with rfl | rfl <;> rfl
theorem lnV_one' (xs : List (Int × Int)) : ∀ v ∈ lnV xs, v.oneCell' = true := List.all_eq_true.1 (lnV_one xs)
theorem ovl_any {w : World} {a b la ca lb cb oa ob : Nat} {tA tB : TypeId} {ka kb : Array Value} (ha : Blk w a tA ka) (hb : Blk w b tB kb) (hne : a ≠ b) (hk : kb.size ≠ 0) : (callFunc 68 #[.slice (some ⟨a, oa, none⟩) la ca, .slice (some ⟨b, ob, none⟩) lb cb]).run Tryd.prog w = .ok (.value (.bool false)) w :=
  run_apart (fn := Tryd.f68) (t := 53) (tR := 4) (e := 74) kR kR kR kR kR U53 (sz := 2) kR ha hb hne hk
theorem clonel_any (A : Option Addr) (c : Nat) (xs : List (Int × Int)) (w : World) (hL : LinksIn w A xs) (hl : xs.length ≤ 1000000) : Calls Tryd.prog 50 #[.slice A xs.length c] w fun e w' => (∃ A' cap', e = .returned (.slice A' xs.length cap') ∧ Own w' w.heap.size 74 2 A' xs.length cap' (lnV xs)) ∧ Bel w w' := by
 refine enter Tryd.func50 Tryd.ntmps50 rfl (Nat.le_of_ble_eq_true rfl) ?_
 have hB : Bel w w := Below.refl _ _
 refine c_seq (c_region (waS rfl (x_nil (e_S (c_seq ?_)))))
 refine c_seq (c_region (wmS rfl (wl (r_eqlNil U53 rfl rfl) (x_nil (e_S ?_)))))
 refine c_if rfl (fun c4 => ?_) (fun c4 => ?_)
 ·
  have hn : xs = [] := by
    refine Classical.byContradiction (fun hne => ?_)
    obtain ⟨b, o, h, _⟩ := hL.2 hne
    rw [h] at c4; cases c4
  subst hn
  refine c_seq (c_region (waS rfl (x_nil (e_S (c_ret ?_)))))
  refine e_Sr (fin1 (.inl rfl) rfl rfl ?_)
  exact ⟨⟨none, 0, rfl, Own.nil _ _ _ _⟩, hB⟩
 refine c_skip (e_S (c_seq (c_region ?_)))
 refine wl_bs0 U53 sz74_GSearch (fun b5 w1 hb5 hs hr => ?_)
 have lo5 := lT (Bel.size hB) hr
 replace hB := hB.tr0 hs
 clear hs
 clear hr
 refine wmS rfl ?_
 have hown := own_blk (sz := 2) (m := 0) hb5 (Nat.le_refl b5) rfl dE
 refine wl_appL (news := lnV xs) U53 in74 rfl dE hown rfl rfl (fun hm => (hL.mono hB).news hm) (lnV_len xs) (lnV_one xs) om om (Nat.le_of_lt hb5.lt) (fun A7 cap7 w9 ho7 hs hg => ?_)
 have hB9 : Bel w w9 := hB.tr hs (fun g hg => by cases List.mem_singleton.1 hg; exact lo5)
 refine waS rfl (x_nil (e_S (c_ret (fin1 (.inl rfl) rfl rfl ?_))))
 refine ⟨⟨A7, cap7, ?_, ?_⟩, hB9⟩
 · show Ending.returned (.slice _ (0 + xs.length) _) = _
   rw [Nat.zero_add]
 · have h := ho7.low lo5
   rw [Nat.zero_add] at h
   exact h
set_option maxHeartbeats 1000000 in
theorem insl_any {base b vc c k : Nat} {A : Option Addr} {L : List (Int × Int)} {x : Int × Int} (w : World) (ho : Own w base 74 2 A L.length c (lnV L)) (hb : Blk w b 74 #[.int .i64 x.1, .int .i64 x.2]) (hA : ∀ g ∈ aL A, g ≠ b) (hk : k ≤ L.length) (hl : L.length ≤ 1000000) (hbase : base ≤ w.heap.size) : Calls Tryd.prog 49 #[.slice A L.length c, .int .i64 (k : Nat), .slice (some ⟨b, 0, none⟩) 1 vc] w fun e w' => ∃ A' c', e = .returned (.slice A' (L.length + 1) c') ∧ Own w' base 74 2 A' (L.length + 1) c' (lnV (insL L k x)) ∧ Same (aL A) w w' ∧ ∀ g ∈ aL A', g ∈ aL A ∨ w.heap.size ≤ g := by
 have hcl := ho.cap_le
 refine enter Tryd.func49 Tryd.ntmps49 rfl (Nat.le_of_ble_eq_true rfl) (c_seq (c_region (waS rfl (x_nil (e_S ?_)))))
 refine c_seq (c_region (wmS rfl (wmI rfl (wl (r_slL (l := k) U53 sz74_GSearch rfl rfl hk) (x_nil ?_)))))
 refine e_S (c_seq (c_region (wmS rfl (wl (r_len U53 rfl) (waI rfl ?_)))))
 refine x_nil (e_S (c_seq (c_seq (c_region (wmI rfl ?_)))))
 refine wl (r_eql rfl rfl) (x_nil (e_S ?_))
 refine c_ifd rfl (fun c16 => ?_) (fun c16 => ?_)
 ·
  exact absurd c16 dE
 refine c_skip (e_S (c_seq (c_region (wmS rfl (wl (r_len U53 rfl) ?_)))))
 refine waI rfl (x_nil (e_S (c_seq (c_seq (c_region ?_)))))
 refine wmI rfl (wmI rfl (wl (r_eql rfl rfl) (x_nil (e_S ?_))))
 refine c_ifd rfl (fun c22 => ?_) (fun c22 => ?_)
 ·
  have hkn : k = L.length := by omega
  subst hkn
  refine c_seq (c_region (wmS rfl (wmS rfl ?_)))
  refine wl_app U53 in74 rfl dE ho hb rfl rfl rfl oneA dE om om hbase (fun g25 cap25 w25 ho25 hs25 hg25 => ?_)
  refine waS rfl (x_nil (e_S (c_ret (e_Sr (fin1 (.inl rfl) rfl rfl ?_)))))
  exact ⟨_, _, rfl, ins_end ho25, hs25, fun g2 hg2 => by rw [List.mem_singleton.1 hg2]; rcases hg25 with h | h; (· left; rw [h]; exact List.mem_singleton.2 rfl); exact .inr h⟩
 have hkn : k < L.length := by omega
 obtain ⟨g, cur, rfl, hgb, hcur, hcm, hcs, hct⟩ := ho.whole (show 0 < L.length by omega)
 have hgl := hcur.lt
 have hgn : g ≠ b := hA g (List.mem_singleton.2 rfl)
 have htk := tk_len hk
 have hdr := dr_len (L := L) (k := k)
 rw [lnV_cut L k] at hct
 refine c_skip (e_S (c_seq (c_seq (c_region (wmI rfl ?_)))))
 refine wmI rfl (wl (r_add (c := ((L.length + 1 : Nat) : Int)) rfl rfl om om) (wmS rfl (wl (r_cap U53 rfl) (wl (r_gtr rfl rfl) (x_nil ?_)))))
 refine e_S ?_
 refine c_ifd rfl (fun c31 => ?_) (fun c31 => ?_)
 ·
  have hroom : c < L.length + 1 := by omega
  refine c_seq (c_region (wmS rfl (wmI rfl (wl (r_slH (h := k) U53 sz74_GSearch rfl rfl om) (wmI rfl ?_)))))
  refine wmI rfl (wl (r_add (c := ((L.length + 1 : Nat) : Int)) rfl rfl om om) (wmI rfl (wl (r_sub (c := ((L.length + 1 - k : Nat) : Int)) rfl rfl om om) ?_)))
  refine wl_appZ2 (olds := lnV (L.take k)) (m := k) (k := L.length + 1 - k) U53 U3 in74 om dE om om om rfl rfl htk (fun j v hj => hcur.cell (cur_take hct hj)) (fun b40 cap40 w40 hb40 hs40 hr40 hge hle => ?_)
  have e40 : k + (L.length + 1 - k) = L.length + 1 := by omega
  rw [e40] at hge hb40 ⊢
  have hne40 : b ≠ b40 := by have := hb.lt; omega
  have hng40 : g ≠ b40 := by omega
  replace hb := hb.tr0 hs40
  replace hcur := hcur.tr0 hs40
  have hS : SameQ [b40] w40 w40 := Same.refl _ _
  obtain ⟨Zs, hZs⟩ : ∃ Zs : List Value, Zs = (Builtin.zeroCells (Value.agg #[.int .i64 0, .int .i64 0]).cells (L.length + 1 - k)).toList ++ (Builtin.zeroCells (Value.agg #[.int .i64 0, .int .i64 0]).cells (cap40 - (L.length + 1))).toList := ⟨_, rfl⟩
  obtain ⟨R0, hR0⟩ : ∃ R0 : Array Value, R0 = (lnV (L.take k)).toArray ++ Builtin.zeroCells (Value.agg #[.int .i64 0, .int .i64 0]).cells (L.length + 1 - k) ++ Builtin.zeroCells (Value.agg #[.int .i64 0, .int .i64 0]).cells (cap40 - (L.length + 1)) := ⟨_, rfl⟩
  have hRl : R0.toList = lnV (L.take k) ++ Zs := by rw [hR0, hZs]; simp
  have hRs : R0.size = cap40 * 2 := by
    rw [hR0]
    simp only [Array.size_append, List.size_toArray, htk, Builtin.zeroCells, Array.size_map, Array.size_range, show (Value.agg #[.int .i64 0, .int .i64 0]).cells.size = 2 from rfl]
    omega
  rw [← hR0] at hb40
  clear hR0 hZs
  refine waS rfl (x_nil (e_S (c_seq (c_region (wmS rfl ?_)))))
  refine wmI rfl (wl (r_slM (l := k) (l2 := L.length + 1 - k) U53 sz74_GSearch rfl rfl om om om) (wmS rfl ?_))
  refine wl_cp (m := 1) (cs := lk1 x) U53 sz74_GSearch rfl rfl hb40 (by simp only [Nat.min_def]; split <;> omega) rfl (fun j v hj => by rw [Addr.add_mid, Nat.zero_add]; exact hb.cell (by simpa [lk1] using hj)) (by rw [hRs]; simp only [lk1, List.length_cons, List.length_nil]; omega) (lk1_one x) (fun w45 hb45 hs45 => ?_)
  replace hb := hb.tr1 hs45 hne40
  replace hcur := hcur.tr1 hs45 hng40
  replace hS := SameQ.trans hS hs45 (by simp)
  have hR1 : (cpy R0 (0 + k * 2) (lk1 x)).size = cap40 * 2 := by rw [cpy_size (by rw [hRs]; simp only [lk1, List.length_cons, List.length_nil]; omega), hRs]
  refine x_nil (e_S (c_seq ?_))
  refine c_tail 8 kR kR (fun w1 hs => ?_)
  replace hb := hb.tr0 hs
  replace hcur := hcur.tr0 hs
  replace hb45 := hb45.tr0 hs
  replace hS := SameQ.trans hS hs (by simp)
  clear hs
  refine ws (r_mv (v := .slice _ _ _) rfl) (ws (r_mv (v := .int _ _) rfl) (ws (r_mv (v := .int _ _) rfl) (ws (r_add (c := ((k + 1 : Nat) : Int)) rfl rfl om om) (ws (r_slM (l := k + 1) (l2 := L.length - k) U53 sz74_GSearch rfl rfl om om om) (ws (r_mv (v := .slice _ _ _) rfl) ?_)))))
  refine ws (r_mv (v := .int _ _) rfl) (ws (r_slM (l := k) (l2 := L.length - k) U53 sz74_GSearch rfl rfl om om om) (s_tail ?_))
  refine wl_cp (m := L.length - k) (cs := lnV (L.drop k)) U53 sz74_GSearch rfl rfl hb45 (by simp only [Nat.min_def]; split <;> omega) hdr (fun j v hj => by
    rw [Addr.add_mid]
    have h := cur_drop hct hj
    rw [htk] at h
    exact hcur.cell (by rw [Nat.zero_add]; exact h)) (by rw [hR1, hdr]; omega) (lnV_one' _) (fun w54 hb54 hs54 => ?_)
  replace hS := SameQ.trans hS hs54 (by simp)
  refine x_nil (e_S (c_seq (c_region (wmS rfl (waS rfl ?_)))))
  refine x_nil (e_S (c_ret (e_Sr (fin1 (.inl rfl) rfl rfl ?_))))
  exact ⟨_, _, rfl, ins_new hb54 hRl hRs hge hle (lT hbase hr40) hk, (hs40.freshL (show Same [b40] _ _ from hS) (fun g hg => .inr (by rw [List.mem_singleton.1 hg]; exact hr40))).weak (by simp), fun g2 hg2 => .inr (by rw [List.mem_singleton.1 hg2]; exact hr40)⟩
 have hroom : L.length + 1 ≤ c := by omega
 refine c_skip (e_S (c_seq (c_region (wmS rfl (wmI rfl ?_)))))
 refine wmI rfl (wl (r_add (c := ((L.length + 1 : Nat) : Int)) rfl rfl om om) (wl (r_slH (h := (L.length + 1)) U53 sz74_GSearch rfl rfl hroom) (waS rfl (x_nil (e_S ?_)))))
 refine c_seq (c_seq (c_region (wmS rfl (wmS rfl (wmI rfl ?_)))))
 refine wmI rfl (wl (r_add (c := ((k + 1 : Nat) : Int)) rfl rfl om om) (wl (r_slM (l := k + 1) (l2 := L.length - k) U53 sz74_GSearch rfl rfl om om om) (wl (r_ext (ovl_any hb hcur (fun e => hgn e.symm) om) rfl) (wl (r_not rfl) (x_nil ?_)))))
 refine e_S ?_
 refine c_if rfl (fun c68 => ?_) (fun c68 => ?_)
 ·
  have hS : SameQ [g] w w := Same.refl _ _
  refine c_seq ?_
  refine c_tail 8 kR kR (fun w2 hs => ?_)
  replace hb := hb.tr0 hs
  replace hcur := hcur.tr0 hs
  replace hS := SameQ.trans hS hs (by simp)
  clear hs
  refine ws (r_mv (v := .slice _ _ _) rfl) (ws (r_mv (v := .int _ _) rfl) (ws (r_mv (v := .int _ _) rfl) (ws (r_add (c := ((k + 1 : Nat) : Int)) rfl rfl om om) (ws (r_slM (l := k + 1) (l2 := L.length - k) U53 sz74_GSearch rfl rfl om om om) (ws (r_mv (v := .slice _ _ _) rfl) ?_)))))
  refine ws (r_mv (v := .int _ _) rfl) (ws (r_slM (l := k) (l2 := L.length + 1 - k) U53 sz74_GSearch rfl rfl om om om) (s_tail ?_))
  refine wl_cp (m := L.length - k) (cs := lnV (L.drop k)) U53 sz74_GSearch rfl rfl hcur (by simp only [Nat.min_def]; split <;> omega) hdr (fun j v hj => by
    rw [Addr.add_mid]
    have h := cur_drop hct hj
    rw [htk] at h
    exact hcur.cell (by rw [Nat.zero_add]; exact h)) (by rw [hcs, hdr]; omega) (lnV_one' _) (fun w77 hb77 hs77 => ?_)
  replace hS := SameQ.trans hS hs77 (by simp)
  replace hb := hb.tr1 hs77 (fun e => hgn e.symm)
  have hR1 : (cpy cur (0 + (k + 1) * 2) (lnV (L.drop k))).size = c * 2 := by rw [cpy_size (by rw [hcs, hdr]; omega), hcs]
  refine x_nil (e_S (c_seq (c_region (wmS rfl (wmI rfl ?_)))))
  refine wl (r_slM (l := k) (l2 := L.length + 1 - k) U53 sz74_GSearch rfl rfl om om om) (wmS rfl ?_)
  refine wl_cp (m := 1) (cs := lk1 x) U53 sz74_GSearch rfl rfl hb77 (by simp only [Nat.min_def]; split <;> omega) rfl (fun j v hj => by rw [Addr.add_mid, Nat.zero_add]; exact hb.cell (by simpa [lk1] using hj)) (by rw [hR1]; simp only [lk1, List.length_cons, List.length_nil]; omega) (lk1_one x) (fun w82 hb82 hs82 => ?_)
  replace hS := SameQ.trans hS hs82 (by simp)
  refine x_nil (e_S (c_seq (c_region (wmS rfl (waS rfl ?_)))))
  refine x_nil (e_S (c_ret (e_Sr (fin1 (.inl rfl) rfl rfl ?_))))
  exact ⟨_, _, rfl, ins_move hb82 (by rw [lnV_cut L k]; exact hct) hcs hroom hcm hgb hk, by simpa [aL, SameQ] using hS, fun g2 hg2 => .inl hg2⟩
 exact absurd c68 dE
theorem ren_any {n b a c : Nat} {rep : Nat → Nat} (w : World) (hn : n ≤ 1000000) (hb : Blk w b 3 (row n (fun x => .int .i64 ((rep x : Nat) : Int)))) : Calls Tryd.prog 46 #[.slice (some ⟨b, 0, none⟩) n n, .int .i64 (c : Nat), .int .i64 (a : Nat)] w fun e w' => e = .returned (.tuple #[]) ∧ Blk w' b 3 (row n (fun x => .int .i64 ((UF.un rep a c x : Nat) : Int))) ∧ Same [b] w w' := by
 have hS : SameQ [b] w w := Same.refl _ _
 refine enter Tryd.func46 Tryd.ntmps46 rfl (Nat.le_of_ble_eq_true rfl) (c_seq (c_region (wmS rfl (wl (r_len U51 rfl) (wmI rfl ?_)))))
 refine x_nil (e_S (c_block ?_))
 refine c_loopS [6, 9, 10, 11, 12, 13, 14, 15, 16, 17, 18, 19, 20, 21, 22] (fun m g w' => ∃ k : Nat, k ≤ n ∧ m = n - k ∧ g 9 = .int .i64 k ∧ Blk w' b 3 (row n (fun x => .int .i64 (((if x < k then UF.un rep a c x else rep x : Nat)) : Int))) ∧ SameQ [b] w w') (n) ?_ (fun m g1 w1 hI => ?_)
 ·
  exact ⟨0, Nat.zero_le _, rfl, rfl, by rw [row_congr (g' := fun x => .int .i64 ((rep x : Nat) : Int)) (fun x _ => by simp)]; exact hb, hS⟩
 obtain ⟨k, hkk, hm, h9, hb, hS⟩ := hI
 refine c_know 9 (.int .i64 k) h9 nu (c_seq (c_region (wl (r_lss rfl rfl) (x_nil (e_S ?_)))))
 refine c_seq ?_
 refine c_ifd rfl (fun c10 => ?_) (fun c10 => ?_)
 ·
  have hlt : k < n := by omega
  have hck : w1.cell? ⟨b, 0 + k * 1, none⟩ = some (.int .i64 ((rep k : Nat) : Int)) := by
    have h := hb.cell (row_get hlt)
    simpa using h
  refine c_skip (e_S (c_seq (c_block (c_seq (c_region ?_)))))
  refine wmI rfl (waI rfl (x_nil (e_S (c_seq (c_region ?_)))))
  refine wmS rfl (wmI rfl (wl (r_ia (i := k) U51 sz3_GSearch rfl rfl hlt rfl) (wl (r_ld1 (v := .int _ _) U3 rfl rfl hck) (wmI rfl (wl (r_eql rfl rfl) ?_)))))
  refine x_nil (e_S ?_)
  refine c_ifd rfl (fun c17 => ?_) (fun c17 => ?_)
  ·
   have hck2 : rep k = c := by omega
   refine c_region (wmS rfl (wmI rfl (wmI rfl (wl (r_ia (i := k) U51 sz3_GSearch rfl rfl hlt rfl) ?_))))
   refine wl_st1 (v := .int _ _) hb rfl rfl sz3_GSearch (by rw [row_size]; omega) rfl row_set (fun w2 hq hs => ?_)
   replace hS := SameQ.trans hS hs (by simp)
   clear hs
   replace hb := hq
   rw [row_congr (g' := fun x => .int .i64 (((if x < k + 1 then UF.un rep a c x else rep x : Nat)) : Int)) (fun x _ => by
     by_cases e : x = k
     · subst e; simp [UF.un, hck2]
     · have e1 : (x < k + 1) ↔ (x < k) := by omega
       simp [e, e1])] at hb
   refine x_nil (e_B (e_S (c_region (wl (r_add rfl rfl rfl om) (wmI rfl ?_)))))
   refine x_nil (e_LS (n - (k + 1)) om agA ?_)
   exact ⟨k + 1, by omega, rfl, rfl, hb, hS⟩
  have hck2 : ¬ rep k = c := by omega
  rw [row_congr (g' := fun x => .int .i64 (((if x < k + 1 then UF.un rep a c x else rep x : Nat)) : Int)) (fun x _ => by
    by_cases e : x = k
    · subst e; simp [UF.un, hck2]
    · have e1 : (x < k + 1) ↔ (x < k) := by omega
      simp [e1])] at hb
  refine c_skip (e_B (e_S (c_region (wl (r_add rfl rfl rfl om) (wmI rfl ?_)))))
  refine x_nil (e_LS (n - (k + 1)) om agA ?_)
  exact ⟨k + 1, by omega, rfl, rfl, hb, hS⟩
 have hke : k = n := by omega
 rw [hke, row_congr (g' := fun x => .int .i64 ((UF.un rep a c x : Nat) : Int)) (fun x hx => by simp [hx])] at hb
 refine c_exit (e_Sx (e_LSx (e_Bx (fin0 (.inr rfl) rfl  ?_))))
 exact ⟨rfl, hb, hS⟩
end Go.Proofs.YteoncmfiiknfbaaDoor
namespace Go.Proofs.YteoncmfiiknfbaaDoor
open Go.RowKit
def commK (l : List Ty) (a b k : Nat) : List Int := ((List.range k).filter (comm l a b)).map (fun (n : Nat) => (n : Int))
theorem commK_yes {l : List Ty} {a b k : Nat} (h : comm l a b k = true) : commK l a b (k + 1) = commK l a b k ++ [(k : Int)] := by
  simp [commK, List.range_succ, List.filter_append, h]
theorem commK_no {l : List Ty} {a b k : Nat} (h : ¬ comm l a b k = true) : commK l a b (k + 1) = commK l a b k := by
  simp [commK, List.range_succ, List.filter_append, h]
theorem commK_le (l : List Ty) (a b k : Nat) : (commK l a b k).length ≤ k := by
  have := List.length_filter_le (comm l a b) (List.range k)
  simpa [commK] using this
theorem commK_get {l : List Ty} {a b k : Nat} {xs : List Int} (hx : xs = commK l a b k) {j : Nat} (hj : j < xs.length) : ∃ n : Nat, xs[j] = (n : Int) ∧ n < k ∧ comm l a b n = true := by
  have hm : xs[j] ∈ commK l a b k := by rw [← hx]; exact List.getElem_mem hj
  simp only [commK, List.mem_map, List.mem_filter, List.mem_range] at hm
  obtain ⟨n, ⟨h1, h2⟩, h3⟩ := hm
  exact ⟨n, h3.symm, h1, h2⟩
theorem commK_mem {l : List Ty} {a b k : Nat} {xs : List Int} (hx : xs = commK l a b k) {n : Nat} (hn : n < k) (hc : comm l a b n = true) : ∃ j, ∃ hj : j < xs.length, xs[j] = (n : Int) := by
  have hm : (n : Int) ∈ xs := by
    rw [hx]
    simp only [commK, List.mem_map, List.mem_filter, List.mem_range]
    exact ⟨n, ⟨hn, hc⟩, rfl⟩
  obtain ⟨j, hj, h⟩ := List.getElem_of_mem hm
  exact ⟨j, hj, h⟩
def allB (l : List Ty) (xs : List Int) (m j : Nat) : Bool := (xs.take j).all (fun x => sub l x.toNat m)
theorem allB_succ {l : List Ty} {xs : List Int} {m j n : Nat} (hj : j < xs.length) (h : xs[j] = (n : Int)) : (allB l xs m j && sub l n m) = allB l xs m (j + 1) := by
  unfold allB
  rw [List.take_succ_eq_append_getElem hj, List.all_append, h]
  simp
theorem allB_yes {l : List Ty} {xs : List Int} {m : Nat} (h : allB l xs m xs.length = true) {j n : Nat} (hj : j < xs.length) (hn : xs[j] = (n : Int)) : sub l n m = true := by
  unfold allB at h
  rw [List.take_length, List.all_eq_true] at h
  have := h _ (List.getElem_mem hj)
  rw [hn] at this; simpa using this
theorem allB_no {l : List Ty} {a b k : Nat} {xs : List Int} (hx : xs = commK l a b k) {m : Nat} (h : allB l xs m xs.length = false) : ∃ x, x < k ∧ comm l a b x = true ∧ sub l x m = false := by
  unfold allB at h
  rw [List.take_length] at h
  have h' : ¬ xs.all (fun x => sub l x.toNat m) = true := by rw [h]; simp
  rw [List.all_eq_true] at h'
  have h2 : ∃ x, x ∈ xs ∧ ¬ sub l x.toNat m = true := Classical.byContradiction (fun hc => h' (fun x hxm => Classical.byContradiction (fun hs => hc ⟨x, hxm, hs⟩)))
  obtain ⟨x, hxm, hs⟩ := h2
  rw [hx] at hxm
  simp only [commK, List.mem_map, List.mem_filter, List.mem_range] at hxm
  obtain ⟨n, ⟨h3, h4⟩, rfl⟩ := hxm
  exact ⟨n, h3, h4, by simpa using hs⟩
theorem fn34_RMeet : callable Tryd.prog 34 = true := by kernel_rfl
set_option maxHeartbeats 1000000 in
theorem smeet_any (A : Option Addr) (c : Nat) (l : List Ty) (a b : Nat) (w : World) (hT : TypesIn w A l) (hv : VT l) (h60 : l.length ≤ 60) (ha : a < l.length) (hb : b < l.length) : Calls Tryd.prog 47 #[.slice A l.length c, .int .i64 a, .int .i64 b] w fun e w' => (∃ u, e = .returned (.tuple #[.int .i64 (meet l a b).1, .bool (meet l a b).2.1, .bool u])) ∧ Bel w w' := by
 refine enter Tryd.func47 Tryd.ntmps47 rfl (Nat.le_of_ble_eq_true rfl) ?_
 have hB : Bel w w := Below.refl _ _
 refine c_seq (c_region (waI rfl (waB rfl (waB rfl (x_nil ?_)))))
 refine e_S (c_seq (c_region (waS rfl (x_nil (e_S ?_)))))
 refine c_seq (c_seq (c_region (wmS rfl (wl (r_len U22 rfl) (wmI rfl ?_)))))
 refine x_nil (e_S (c_block ?_))
 refine c_loopS [9, 10, 18, 19, 20, 21, 22, 23, 24, 25, 26, 27, 28, 29, 30, 31, 32, 33, 34, 35] (fun m g w' => ∃ (k : Nat) (A9 : Option Addr) (cap9 : Nat) (xs : List Int), k ≤ l.length ∧ m = l.length - k ∧ g 18 = .int .i64 k ∧ g 9 = .slice A9 xs.length cap9 ∧ xs = commK l a b k ∧ Bel w w' ∧ Own w' w.heap.size 3 1 A9 (xs).length cap9 ((xs).map (Value.int .i64))) (l.length) ?_ (fun m g3 w1 hI => ?_)
 ·
  exact ⟨0, none, 0, [], Nat.zero_le _, rfl, rfl, rfl, rfl, hB, Own.nil _ _ _ _⟩
 obtain ⟨k, A9, cap9, xs, hk, hm, h18, h9, hxs, hB, ho⟩ := hI
 refine c_know 18 (.int .i64 k) h18 nu (c_know 9 (.slice A9 xs.length cap9) h9 nu (c_seq (c_region (wl (r_lss rfl rfl) (x_nil ?_)))))
 refine e_S (c_seq ?_)
 refine c_ifd rfl (fun c19 => ?_) (fun c19 => ?_)
 ·
  have hlt : k < l.length := by omega
  refine c_skip (e_S (c_seq (c_block (c_seq (c_region ?_)))))
  refine wmI rfl (waI rfl (x_nil (e_S (c_seq ?_))))
  refine c_cutS [21, 22, 23, 24, 25, 26, 27, 28, 29, 30] (fun g w' => g 30 = .bool (decide (comm l a b k = true)) ∧ Bel w w' ∧ Own w' w.heap.size 3 1 A9 (xs).length cap9 ((xs).map (Value.int .i64))) ?_ (fun g5 w2 hI => ?_)
  ·
   refine c_region (wmS rfl (wmI rfl (wmI rfl ?_)))
   refine wl_cl fn34_RMeet (sub_any _ _ _ _ _ _ (hT.mono hB) hv h60 hlt ha) rfl (fun e' w3 hr => ?_)
   obtain ⟨rfl, hs⟩ := hr
   replace hs := Same.of_bel hs
   replace hB := hB.tr0 hs
   replace ho := ho.tr0 hs
   clear hs
   refine ⟨_, rfl, ?_⟩
   refine wmB rfl ?_
   refine wl_cases 25 rfl (fun g25 => ?_) (fun g25 => ?_)
   ·
    refine wl_gd 25 rfl rfl (wmS rfl (wl_gd 25 rfl rfl (wmI rfl (wl_gd 25 rfl rfl (wmI rfl ?_)))))
    refine wl_gd 25 rfl rfl ?_
    refine wl_cl fn34_RMeet (sub_any _ _ _ _ _ _ (hT.mono hB) hv h60 hlt hb) rfl (fun e' w4 hr => ?_)
    obtain ⟨rfl, hs⟩ := hr
    replace hs := Same.of_bel hs
    replace hB := hB.tr0 hs
    replace ho := ho.tr0 hs
    clear hs
    refine ⟨_, rfl, ?_⟩
    refine wl (r_pt (v := .bool _) rfl rfl) (x_nil ?_)
    refine e_R ⟨agA, ?_⟩
    exact ⟨congrArg Value.bool (by simp [comm, g25]), hB, ho⟩
   refine wlgn 25 rfl rfl rfl (wlgn 25 rfl rfl rfl (wlgn 25 rfl rfl rfl (wlgn 25 rfl rfl rfl (wl (r_pf (v := .bool _) rfl rfl) (x_nil ?_)))))
   refine e_R ⟨agA, ?_⟩
   exact ⟨congrArg Value.bool (by simp [comm, g25]), hB, ho⟩
  obtain ⟨h30, hB, ho⟩ := hI
  refine e_know 30 (.bool (decide (comm l a b k = true))) h30 nu (e_S ?_)
  refine c_ifd rfl (fun c30 => ?_) (fun c30 => ?_)
  ·
   have hxl := commK_le l a b k
   rw [← hxs] at hxl
   refine c_region (wmS rfl (wmI rfl ?_))
   refine wl_bs (cs := #[_]) [(0, .int _ _)] rfl U51 sz3_GSearch ze3_SFind dE dE kR rfl (fun b33 w5 hb33 hs hr => ?_)
   have or_ho_b33 := fun g hg => lL (ho.lt g hg).2 hr
   have lo33 := lT (Bel.size hB) hr
   replace hB := hB.tr0 hs
   replace ho := ho.tr0 hs
   clear hs
   clear hr
   refine wl_app U51 in3_SFind rfl dE ho hb33 rfl rfl rfl oneA dE om om (Bel.size hB) (fun g34 cap34 w6 ho34 hs hg => ?_)
   replace hB := hB.tr hs (fun g hg => lT (Nat.le_refl _) (ho.lt g hg).1)
   refine waS rfl (x_nil (e_B (e_S (c_region (wl (r_add rfl rfl rfl om) ?_)))))
   refine wmI rfl (x_nil (e_LS (l.length - (k + 1)) om agA ?_))
   first
     | exact ⟨k + 1, _, _, xs ++ [(k : Int)], by omega, rfl, rfl, sl_snoc _ _ _ _, by rw [hxs, commK_yes c30], hB, own_snoc ho34⟩
     | exact ⟨k + 1, _, _, xs, by omega, rfl, rfl, rfl, by rw [hxs, commK_no c30], hB, ho⟩
  refine c_skip (e_B (e_S (c_region (wl (r_add rfl rfl rfl om) (wmI rfl ?_)))))
  refine x_nil (e_LS (l.length - (k + 1)) om agA ?_)
  first
    | exact ⟨k + 1, _, _, xs ++ [(k : Int)], by omega, rfl, rfl, sl_snoc _ _ _ _, by rw [hxs, commK_yes c30], hB, own_snoc ho34⟩
    | exact ⟨k + 1, _, _, xs, by omega, rfl, rfl, rfl, by rw [hxs, commK_no c30], hB, ho⟩
 have hkl : k = l.length := by omega
 rw [hkl] at hxs
 have hxl := commK_le l a b l.length
 rw [← hxs] at hxl
 refine c_exit (e_Sx (e_LSx (e_Bx (e_S (c_seq ?_)))))
 refine c_seq (c_region (wmS rfl (wl (r_len U51 rfl) (wmI rfl (x_nil ?_)))))
 refine e_S (c_block ?_)
 refine c_loopS [6, 7, 8, 12, 13, 15, 38, 39, 40, 41, 42, 43, 44, 45, 46, 47, 48, 49, 50, 51, 52, 53, 54, 55, 56, 57, 58] (fun m g w' => ∃ i : Nat, i ≤ xs.length ∧ m = xs.length - i ∧ g 38 = .int .i64 i ∧ Bel w w' ∧ Own w' w.heap.size 3 1 A9 (xs).length cap9 ((xs).map (Value.int .i64)) ∧ (∀ j (hj : j < xs.length), j < i → ∃ x, x < l.length ∧ comm l a b x = true ∧ sub l x (xs[j]).toNat = false)) (xs.length) ?_ (fun m g9 w7 hI => ?_)
 ·
  exact ⟨0, Nat.zero_le _, rfl, rfl, hB, ho, fun j hj h => by omega⟩
 obtain ⟨i, hi, hm, h38, hB, ho, hP⟩ := hI
 refine c_know 38 (.int .i64 i) h38 nu (c_seq (c_region (wl (r_lss rfl rfl) (x_nil (e_S ?_)))))
 refine c_seq ?_
 refine c_ifd rfl (fun c39 => ?_) (fun c39 => ?_)
 ·
  have hil : i < xs.length := by omega
  obtain ⟨mn, hmn, hml, hmc⟩ := commK_get hxs hil
  obtain ⟨pb, po, rfl, hpb, hpc⟩ := (own_ints ho).at_ hil
  rw [hmn] at hpc
  refine c_skip (e_S (c_seq (c_block (c_seq (c_region ?_)))))
  refine wl (r_ia (i := i) U51 sz3_GSearch rfl rfl om rfl) (wl (r_ld1 (v := .int _ _) U3 rfl rfl hpc) (waI rfl (x_nil (e_S (c_seq ?_)))))
  refine c_region (waB rfl (x_nil (e_S (c_seq (c_seq ?_)))))
  refine c_region (wmS rfl (wl (r_len U51 rfl) (wmI rfl (x_nil (e_S ?_)))))
  refine c_block ?_
  refine c_loopS [13, 15, 44, 45, 46, 47, 48, 49, 50, 51, 52, 53, 54, 55] (fun m g w' => ∃ j : Nat, j ≤ xs.length ∧ m = xs.length - j ∧ g 44 = .int .i64 j ∧ g 13 = .bool (allB l xs mn j) ∧ Bel w w' ∧ Own w' w.heap.size 3 1 (some ⟨pb, po, none⟩) (xs).length cap9 ((xs).map (Value.int .i64))) (xs.length) ?_ (fun m g13 w8 hI => ?_)
  ·
   exact ⟨0, Nat.zero_le _, rfl, rfl, rfl, hB, ho⟩
  obtain ⟨j, hj, hm2, h44, h13, hB, ho⟩ := hI
  refine c_know 44 (.int .i64 j) h44 nu (c_know 13 (.bool (allB l xs mn j)) h13 nu (c_seq (c_region (wl (r_lss rfl rfl) (x_nil ?_)))))
  refine e_S (c_seq ?_)
  refine c_ifd rfl (fun c45 => ?_) (fun c45 => ?_)
  ·
   have hjl : j < xs.length := by omega
   obtain ⟨xn, hxn, hxl2, hxc⟩ := commK_get hxs hjl
   obtain ⟨qb, qo, he, hqb, hqc⟩ := (own_ints ho).at_ hjl
   cases he
   rw [hxn] at hqc
   refine c_skip (e_S (c_seq (c_block (c_seq (c_region ?_)))))
   refine wl (r_ia (i := j) U51 sz3_GSearch rfl rfl om rfl) (wl (r_ld1 (v := .int _ _) U3 rfl rfl hqc) (waI rfl (x_nil (e_S ?_))))
   refine c_cutS [13, 48, 49, 50, 51, 52, 53, 54] (fun g w' => g 13 = .bool (allB l xs mn j && sub l xn mn) ∧ Bel w w' ∧ Own w' w.heap.size 3 1 (some ⟨pb, po, none⟩) (xs).length cap9 ((xs).map (Value.int .i64))) ?_ (fun g15 w9 hI => ?_)
   ·
    refine c_region (wmB rfl (wmB rfl ?_))
    refine wl_cases 49 rfl (fun g49 => ?_) (fun g49 => ?_)
    ·
     refine wl_gd 49 rfl rfl (wmS rfl (wl_gd 49 rfl rfl (wmI rfl (wl_gd 49 rfl rfl (wmI rfl ?_)))))
     refine wl_gd 49 rfl rfl ?_
     refine wl_cl fn34_RMeet (sub_any _ _ _ _ _ _ (hT.mono hB) hv h60 hxl2 hml) rfl (fun e' w10 hr => ?_)
     obtain ⟨rfl, hs⟩ := hr
     replace hs := Same.of_bel hs
     replace hB := hB.tr0 hs
     replace ho := ho.tr0 hs
     clear hs
     refine ⟨_, rfl, ?_⟩
     refine wl (r_pt (v := .bool _) rfl rfl) (waB rfl (x_nil ?_))
     refine e_R ⟨agA, ?_⟩
     exact ⟨congrArg Value.bool (by simp [g49]), hB, ho⟩
    refine wlgn 49 rfl rfl rfl (wlgn 49 rfl rfl rfl (wlgn 49 rfl rfl rfl (wlgn 49 rfl rfl rfl (wl (r_pf (v := .bool _) rfl rfl) (waB rfl ?_)))))
    refine x_nil ?_
    refine e_R ⟨agA, ?_⟩
    exact ⟨congrArg Value.bool (by simp [g49]), hB, ho⟩
   obtain ⟨h13, hB, ho⟩ := hI
   refine e_know 13 (.bool (allB l xs mn j && sub l xn mn)) h13 nu (e_B (e_S (c_region (wl (r_add rfl rfl rfl om) (wmI rfl ?_)))))
   refine x_nil (e_LS (xs.length - (j + 1)) om agA ?_)
   exact ⟨j + 1, by omega, rfl, rfl, congrArg Value.bool (allB_succ hjl hxn), hB, ho⟩
  have hjx : j = xs.length := by omega
  subst hjx
  refine c_exit (e_Sx (e_LSx (e_Bx (e_S (c_seq ?_)))))
  refine c_region (wmB rfl (x_nil (e_S ?_)))
  refine c_if rfl (fun c56 => ?_) (fun c56 => ?_)
  ·
   have hmt := meet_is hv h60 hml hmc (fun x hx hc => by
     obtain ⟨jx, hjx, hex⟩ := commK_mem hxs hx hc
     exact allB_yes c56 hjx hex)
   refine c_seq (c_region (wmI rfl (waI rfl (waB rfl (waB rfl ?_)))))
   refine x_nil (e_S (c_ret (e_Br (e_Sr (e_LSr ?_)))))
   refine e_Br (e_Sr (fin3 (.inl rfl) rfl rfl rfl rfl ?_))
   exact ⟨⟨true, by rw [hmt]; rfl⟩, hB⟩
  refine c_skip (e_B (e_S (c_region (wl (r_add rfl rfl rfl om) (wmI rfl ?_)))))
  refine x_nil (e_LS (xs.length - (i + 1)) om agA ?_)
  refine ⟨i + 1, by omega, rfl, rfl, hB, ho, fun j hj hji => ?_⟩
  by_cases e : j = i
  · subst e
    obtain ⟨x, h1, h2, h3⟩ := allB_no hxs c56
    exact ⟨x, h1, h2, by rw [hmn]; exact h3⟩
  · exact hP j hj om
 have hil : i = xs.length := by omega
 refine c_exit (e_Sx (e_LSx (e_Bx (e_S (c_seq ?_)))))
 refine c_region (wmS rfl (wl (r_len U51 rfl) (wl (r_gtr rfl rfl) (waI rfl (waB rfl ?_)))))
 refine waB rfl (x_nil (e_S (c_ret (fin3 (.inl rfl) rfl rfl rfl rfl ?_))))
 have hno := meet_none_of hv h60 (fun m hm hc => by
   obtain ⟨jx, hjx, hex⟩ := commK_mem hxs hm hc
   obtain ⟨x, h1, h2, h3⟩ := hP jx hjx om
   rw [hex] at h3
   exact ⟨x, h1, h2, h3⟩)
 exact ⟨⟨decide (0 < (xs.length : Int)), by rw [hno.1, hno.2]; rfl⟩, hB⟩
end Go.Proofs.YteoncmfiiknfbaaDoor
