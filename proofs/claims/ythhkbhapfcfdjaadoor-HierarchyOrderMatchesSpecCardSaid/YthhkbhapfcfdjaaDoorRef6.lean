/- What these functions of the program compute, at every world: glosswright/glosswrightref3.Meet, glosswright/glosswrightref4.Joins. -/
import Derived.Test.YthhkbhapfcfdjaaDoorLaws45
namespace Go.Proofs.YthhkbhapfcfdjaaDoor
open Go.RowKit

theorem firstF_zz {f : Nat → Int} : ∀ {m i : Nat}, (firstF f i m).1 = 0 → firstF f i m = (0, 0)
  | 0, _, _ => rfl
  | m + 1, i, h => by
    unfold firstF at h ⊢
    by_cases h3 : f i ≠ 0
    · rw [if_pos h3] at h; exact absurd h h3
    · rw [if_neg h3] at h ⊢; exact firstF_zz h
theorem hf_zero {l : List Ty} {fs : List Ft} (h : (hierFault l fs).1 = 0) : hierFault l fs = (0, 0) := by
  unfold hierFault at h ⊢
  split
  · rename_i h4; rw [if_pos h4] at h; cases h
  · rename_i h4
    rw [if_neg h4] at h
    split
    · rename_i ht; rw [if_pos ht] at h; exact absurd h ht
    · rename_i ht
      rw [if_neg ht] at h
      split
      · rename_i hu; rw [if_pos hu] at h; exact absurd h hu
      · rename_i hu
        rw [if_neg hu] at h
        exact firstF_zz h
theorem two_else {l : List Ty} {fs : List Ft} {a b : Int} (ha : ¬ ((hierFault l fs).1 = 0 ∧ (a < 0 ∨ (l.length : Int) ≤ a))) (hb : ¬ ((hierFault l fs).1 = 0 ∧ (b < 0 ∨ (l.length : Int) ≤ b))) : twoF l fs a b = ((hierFault l fs).1, (hierFault l fs).2) := by
  by_cases h0 : (hierFault l fs).1 = 0
  · rw [two_zero h0 (fun h => ha ⟨h0, h⟩) (fun h => hb ⟨h0, h⟩), hf_zero h0]
  · exact two_fault h0
def commK (l : List Ty) (a b k : Nat) : List Int := ((List.range k).filter (comm l a b)).map (fun (n : Nat) => (n : Int))
theorem commK_yes {l : List Ty} {a b k : Nat} (h : comm l a b k = true) : commK l a b (k + 1) = commK l a b k ++ [(k : Int)] := by
  simp [commK, List.range_succ, List.filter_append, h]
theorem commK_no {l : List Ty} {a b k : Nat} (h : ¬ comm l a b k = true) : commK l a b (k + 1) = commK l a b k := by
  simp [commK, List.range_succ, List.filter_append, h]
theorem commK_le (l : List Ty) (a b k : Nat) : (commK l a b k).length ≤ k := by
  have := List.length_filter_le (comm l a b) (List.range k)
  simpa [commK] using this
theorem commK_get {l : List Ty} {a b k : Nat} {xs : List Int} (hx : xs = commK l a b k) {j : Nat} (hj : j < xs.length) : ∃ n : Nat, xs[j] = (n : Int) ∧ n < k ∧ comm l a b n = true := by
  have hm : xs[j] ∈ commK l a b k := by rw [← hx]; exact List.getElem_mem hj
  simp only [commK, List.mem_map, List.mem_filter, List.mem_range] at hm
  obtain ⟨n, ⟨h1, h2⟩, h3⟩ := hm
  exact ⟨n, h3.symm, h1, h2⟩
theorem commK_mem {l : List Ty} {a b k : Nat} {xs : List Int} (hx : xs = commK l a b k) {n : Nat} (hn : n < k) (hc : comm l a b n = true) : ∃ j, ∃ hj : j < xs.length, xs[j] = (n : Int) := by
  have hm : (n : Int) ∈ xs := by
    rw [hx]
    simp only [commK, List.mem_map, List.mem_filter, List.mem_range]
    exact ⟨n, ⟨hn, hc⟩, rfl⟩
  obtain ⟨j, hj, h⟩ := List.getElem_of_mem hm
  exact ⟨j, hj, h⟩
def allB (l : List Ty) (xs : List Int) (m j : Nat) : Bool := (xs.take j).all (fun x => sub l x.toNat m)
theorem allB_succ {l : List Ty} {xs : List Int} {m j n : Nat} (hj : j < xs.length) (h : xs[j] = (n : Int)) : (allB l xs m j && sub l n m) = allB l xs m (j + 1) := by
  unfold allB
  rw [List.take_succ_eq_append_getElem hj, List.all_append, h]
  simp
theorem allB_yes {l : List Ty} {xs : List Int} {m : Nat} (h : allB l xs m xs.length = true) {j n : Nat} (hj : j < xs.length) (hn : xs[j] = (n : Int)) : sub l n m = true := by
  unfold allB at h
  rw [List.take_length, List.all_eq_true] at h
  have := h _ (List.getElem_mem hj)
  rw [hn] at this; simpa using this
theorem allB_no {l : List Ty} {a b k : Nat} {xs : List Int} (hx : xs = commK l a b k) {m : Nat} (h : allB l xs m xs.length = false) : ∃ x, x < k ∧ comm l a b x = true ∧ sub l x m = false := by
  unfold allB at h
  rw [List.take_length] at h
  have h' : ¬ xs.all (fun x => sub l x.toNat m) = true := by rw [h]; simp
  rw [List.all_eq_true] at h'
  have h2 : ∃ x, x ∈ xs ∧ ¬ sub l x.toNat m = true := Classical.byContradiction (fun hc => h' (fun x hxm => Classical.byContradiction (fun hs => hc ⟨x, hxm, hs⟩)))
  obtain ⟨x, hxm, hs⟩ := h2
  rw [hx] at hxm
  simp only [commK, List.mem_map, List.mem_filter, List.mem_range] at hxm
  obtain ⟨n, ⟨h3, h4⟩, rfl⟩ := hxm
  exact ⟨n, h3, h4, by simpa using hs⟩
def leastB (l : List Ty) (a b k j : Nat) : Bool := (List.range j).all (fun x => !(!(decide (x = k)) && sub l x k && capB l a b x))
theorem leastB_no {l : List Ty} {a b k j : Nat} (h : j ≠ k ∧ sub l j k = true ∧ capB l a b j = true) : false = leastB l a b k (j + 1) := by
  unfold leastB
  rw [List.range_succ, List.all_append]
  simp [h.1, h.2.1, h.2.2]
theorem leastB_yes {l : List Ty} {a b k j : Nat} (h : ¬ (j ≠ k ∧ sub l j k = true ∧ capB l a b j = true)) : leastB l a b k j = leastB l a b k (j + 1) := by
  unfold leastB
  rw [List.range_succ, List.all_append]
  have : (!(!(decide (j = k)) && sub l j k && capB l a b j)) = true := by
    by_cases e : j = k
    · simp [e]
    · cases h1 : sub l j k
      · simp
      · cases h2 : capB l a b j
        · simp
        · exact absurd ⟨e, h1, h2⟩ h
  simp only [List.all_cons, List.all_nil, this, Bool.and_true]
theorem joinB_least {l : List Ty} {a b k : Nat} (hc : capB l a b k = true) : joinB l a b k = leastB l a b k l.length := by simp [joinB, leastB, hc]
theorem hsub_in {l : List Ty} {fs : List Ft} (h0 : (hierFault l fs).1 = 0) {a b : Nat} (ha : a < l.length) (hb : b < l.length) : hsub l fs a b = sub l a b := by unfold hsub; rw [two_in h0 ha hb, if_neg (fun h => h rfl)]; rfl
theorem hmeet_in {l : List Ty} {fs : List Ft} (h0 : (hierFault l fs).1 = 0) {a b : Nat} (ha : a < l.length) (hb : b < l.length) : hmeet l fs a b = ((meet l a b).1, (meet l a b).2.1) := by unfold hmeet; rw [two_in h0 ha hb, if_neg (fun h => h rfl)]; rfl
theorem hjoin_in {l : List Ty} {fs : List Ft} (h0 : (hierFault l fs).1 = 0) {a b : Nat} (ha : a < l.length) (hb : b < l.length) : hjoin l fs a b = joinsK l a b l.length := by unfold hjoin; rw [two_in h0 ha hb, if_neg (fun h => h rfl)]; rfl


set_option maxHeartbeats 1000000 in
theorem smeet_any (A : Option Addr) (c : Nat) (l : List Ty) (a b : Nat) (w : World) (hT : TypesIn w A l) (hv : VT l) (h60 : l.length ≤ 60) (ha : a < l.length) (hb : b < l.length) : Calls Tryd.prog 16 #[.slice A l.length c, .int .i64 a, .int .i64 b] w fun e w' => (∃ u, e = .returned (.tuple #[.int .i64 (meet l a b).1, .bool (meet l a b).2.1, .bool u])) ∧ Bel w w' := by
  refine enter Tryd.func16 Tryd.ntmps16 rfl (Nat.le_of_ble_eq_true rfl) ?_
  have hB : Bel w w := Below.refl _ _
  refine c_seq ?_
  refine c_region ?_
  refine wl (r_as (v := .int _ _) rfl) ?_
  refine wl (r_as (v := .bool _) rfl) ?_
  refine wl (r_as (v := .bool _) rfl) ?_
  refine x_nil ?_
  refine e_S ?_
  refine c_seq ?_
  refine c_region ?_
  refine wl (r_as (v := .slice _ _ _) rfl) ?_
  refine x_nil ?_
  refine e_S ?_
  refine c_seq ?_
  refine c_seq ?_
  refine c_region ?_
  refine wl (r_mv (v := .slice _ _ _) rfl) ?_
  refine wl (r_len Tryd.underlying22 rfl) ?_
  refine wl (r_mv (v := .int _ _) rfl) ?_
  refine x_nil ?_
  refine e_S ?_
  refine c_block ?_
  refine c_loopS [9, 10, 18, 19, 20, 21, 22, 23, 24, 25, 26, 27, 28, 29, 30, 31, 32, 33, 34, 35] (fun m g w' => ∃ (k : Nat) (A9 : Option Addr) (cap9 : Nat) (xs : List Int), k ≤ l.length ∧ m = l.length - k ∧ g 18 = .int .i64 k ∧ g 9 = .slice A9 xs.length cap9 ∧ xs = commK l a b k ∧ Bel w w' ∧ Own w' w.heap.size 3 1 A9 (xs).length cap9 ((xs).map (Value.int .i64))) (l.length) ?_ (fun m g3 w1 hI => ?_)
  · exact ⟨0, none, 0, [], Nat.zero_le _, rfl, rfl, rfl, rfl, hB, Own.nil _ _ _ _⟩
  obtain ⟨k, A9, cap9, xs, hk, hm, h18, h9, hxs, hB, ho⟩ := hI
  refine c_know 18 (.int .i64 k) h18 (by simp [undef]) ?_
  refine c_know 9 (.slice A9 xs.length cap9) h9 (by simp [undef]) ?_
  refine c_seq ?_
  refine c_region ?_
  refine wl (r_lss rfl rfl) ?_
  refine x_nil ?_
  refine e_S ?_
  refine c_seq ?_
  refine c_ifd rfl (fun c19 => ?_) (fun c19 => ?_)
  · have hlt : k < l.length := by omega
    refine c_skip ?_
    refine e_S ?_
    refine c_seq ?_
    refine c_block ?_
    refine c_seq ?_
    refine c_region ?_
    refine wl (r_mv (v := .int _ _) rfl) ?_
    refine wl (r_as (v := .int _ _) rfl) ?_
    refine x_nil ?_
    refine e_S ?_
    refine c_seq ?_
    refine c_cutS [21, 22, 23, 24, 25, 26, 27, 28, 29, 30] (fun g w' => g 30 = .bool (decide (comm l a b k = true)) ∧ Bel w w' ∧ Own w' w.heap.size 3 1 A9 (xs).length cap9 ((xs).map (Value.int .i64))) ?_ (fun g5 w2 hI => ?_)
    · skip
      refine c_region ?_
      refine wl (r_mv (v := .slice _ _ _) rfl) ?_
      refine wl (r_mv (v := .int _ _) rfl) ?_
      refine wl (r_mv (v := .int _ _) rfl) ?_
      refine wl_cl fn17 (sub_any _ _ _ _ _ _ (hT.mono hB) hv h60 hlt ha) rfl (fun e' w3 hr => ?_)
      obtain ⟨rfl, hs⟩ := hr
      replace hs := Same.of_bel hs
      replace hB := hB.tr0 hs
      replace ho := ho.tr0 hs
      clear hs
      refine ⟨_, rfl, ?_⟩
      refine wl (r_mv (v := .bool _) rfl) ?_
      refine wl_cases 25 rfl (fun g25 => ?_) (fun g25 => ?_)
      · skip
        refine wl_gd 25 rfl rfl ?_
        refine wl (r_mv (v := .slice _ _ _) rfl) ?_
        refine wl_gd 25 rfl rfl ?_
        refine wl (r_mv (v := .int _ _) rfl) ?_
        refine wl_gd 25 rfl rfl ?_
        refine wl (r_mv (v := .int _ _) rfl) ?_
        refine wl_gd 25 rfl rfl ?_
        refine wl_cl fn17 (sub_any _ _ _ _ _ _ (hT.mono hB) hv h60 hlt hb) rfl (fun e' w4 hr => ?_)
        obtain ⟨rfl, hs⟩ := hr
        replace hs := Same.of_bel hs
        replace hB := hB.tr0 hs
        replace ho := ho.tr0 hs
        clear hs
        refine ⟨_, rfl, ?_⟩
        refine wl (r_pt (v := .bool _) rfl rfl) ?_
        refine x_nil ?_
        refine e_R ⟨(by repeat (first | exact ag_refl | exact ag_ovr' | refine ag_upd rfl ?_ | refine ag_sub rfl ?_ | refine ag_kn (by assumption) ?_)), ?_⟩
        exact ⟨congrArg Value.bool (by simp [comm, g25]), hB, ho⟩
      · skip
        refine wlgn 25 rfl rfl rfl ?_
        refine wlgn 25 rfl rfl rfl ?_
        refine wlgn 25 rfl rfl rfl ?_
        refine wlgn 25 rfl rfl rfl ?_
        refine wl (r_pf (v := .bool _) rfl rfl) ?_
        refine x_nil ?_
        refine e_R ⟨(by repeat (first | exact ag_refl | exact ag_ovr' | refine ag_upd rfl ?_ | refine ag_sub rfl ?_ | refine ag_kn (by assumption) ?_)), ?_⟩
        exact ⟨congrArg Value.bool (by simp [comm, g25]), hB, ho⟩
    obtain ⟨h30, hB, ho⟩ := hI
    refine e_know 30 (.bool (decide (comm l a b k = true))) h30 (by simp [undef]) ?_
    refine e_S ?_
    refine c_ifd rfl (fun c30 => ?_) (fun c30 => ?_)
    · have hxl := commK_le l a b k
      rw [← hxs] at hxl
      refine c_region ?_
      refine wl (r_mv (v := .slice _ _ _) rfl) ?_
      refine wl (r_mv (v := .int _ _) rfl) ?_
      refine wl_bs (cs := #[_]) [(0, .int _ _)] rfl Tryd.underlying45 sz3 ze3 (by decide) (by decide) (by kernel_rfl) rfl (fun b33 w5 hb33 hs hr => ?_)
      have or_ho_b33 := fun g hg => Nat.lt_of_lt_of_le (ho.lt g hg).2 hr
      have lo33 := Nat.le_trans (Bel.size hB) hr
      replace hB := hB.tr0 hs
      replace ho := ho.tr0 hs
      clear hs
      clear hr
      refine wl_app Tryd.underlying45 in3 rfl (by decide) ho hb33 rfl rfl rfl (by repeat (first | rfl | refine one_cons (by first | rfl | assumption) ?_)) (by decide) (by omega) (by omega) (Bel.size hB) (fun g34 cap34 w6 ho34 hs hg => ?_)
      replace hB := hB.tr hs (fun g hg => Nat.le_trans (Nat.le_refl _) (ho.lt g hg).1)
      refine wl (r_as (v := .slice _ _ _) rfl) ?_
      refine x_nil ?_
      refine e_B ?_
      refine e_S ?_
      refine c_region ?_
      refine wl (r_add rfl rfl rfl (by omega)) ?_
      refine wl (r_mv (v := .int _ _) rfl) ?_
      refine x_nil ?_
      refine e_LS (l.length - (k + 1)) (by omega) (by repeat (first | exact ag_refl | exact ag_ovr' | refine ag_upd rfl ?_ | refine ag_sub rfl ?_ | refine ag_kn (by assumption) ?_)) ?_
      first
        | exact ⟨k + 1, _, _, xs ++ [(k : Int)], by omega, rfl, rfl, sl_snoc _ _ _ _, by rw [hxs, commK_yes c30], hB, own_snoc ho34⟩
        | exact ⟨k + 1, _, _, xs, by omega, rfl, rfl, rfl, by rw [hxs, commK_no c30], hB, ho⟩
    · skip
      refine c_skip ?_
      refine e_B ?_
      refine e_S ?_
      refine c_region ?_
      refine wl (r_add rfl rfl rfl (by omega)) ?_
      refine wl (r_mv (v := .int _ _) rfl) ?_
      refine x_nil ?_
      refine e_LS (l.length - (k + 1)) (by omega) (by repeat (first | exact ag_refl | exact ag_ovr' | refine ag_upd rfl ?_ | refine ag_sub rfl ?_ | refine ag_kn (by assumption) ?_)) ?_
      first
        | exact ⟨k + 1, _, _, xs ++ [(k : Int)], by omega, rfl, rfl, sl_snoc _ _ _ _, by rw [hxs, commK_yes c30], hB, own_snoc ho34⟩
        | exact ⟨k + 1, _, _, xs, by omega, rfl, rfl, rfl, by rw [hxs, commK_no c30], hB, ho⟩
  · have hkl : k = l.length := by omega
    rw [hkl] at hxs
    have hxl := commK_le l a b l.length
    rw [← hxs] at hxl
    refine c_exit ?_
    refine e_Sx ?_
    refine e_LSx ?_
    refine e_Bx ?_
    refine e_S ?_
    refine c_seq ?_
    refine c_seq ?_
    refine c_region ?_
    refine wl (r_mv (v := .slice _ _ _) rfl) ?_
    refine wl (r_len Tryd.underlying45 rfl) ?_
    refine wl (r_mv (v := .int _ _) rfl) ?_
    refine x_nil ?_
    refine e_S ?_
    refine c_block ?_
    refine c_loopS [6, 7, 8, 12, 13, 15, 38, 39, 40, 41, 42, 43, 44, 45, 46, 47, 48, 49, 50, 51, 52, 53, 54, 55, 56, 57, 58] (fun m g w' => ∃ i : Nat, i ≤ xs.length ∧ m = xs.length - i ∧ g 38 = .int .i64 i ∧ Bel w w' ∧ Own w' w.heap.size 3 1 A9 (xs).length cap9 ((xs).map (Value.int .i64)) ∧ (∀ j (hj : j < xs.length), j < i → ∃ x, x < l.length ∧ comm l a b x = true ∧ sub l x (xs[j]).toNat = false)) (xs.length) ?_ (fun m g9 w7 hI => ?_)
    · exact ⟨0, Nat.zero_le _, rfl, rfl, hB, ho, fun j hj h => by omega⟩
    obtain ⟨i, hi, hm, h38, hB, ho, hP⟩ := hI
    refine c_know 38 (.int .i64 i) h38 (by simp [undef]) ?_
    refine c_seq ?_
    refine c_region ?_
    refine wl (r_lss rfl rfl) ?_
    refine x_nil ?_
    refine e_S ?_
    refine c_seq ?_
    refine c_ifd rfl (fun c39 => ?_) (fun c39 => ?_)
    · have hil : i < xs.length := by omega
      obtain ⟨mn, hmn, hml, hmc⟩ := commK_get hxs hil
      obtain ⟨pb, po, rfl, hpb, hpc⟩ := (own_ints ho).at_ hil
      rw [hmn] at hpc
      refine c_skip ?_
      refine e_S ?_
      refine c_seq ?_
      refine c_block ?_
      refine c_seq ?_
      refine c_region ?_
      refine wl (r_ia (i := i) Tryd.underlying45 sz3 rfl rfl (by omega) rfl) ?_
      refine wl (r_ld1 (v := .int _ _) Tryd.underlying3 rfl rfl hpc) ?_
      refine wl (r_as (v := .int _ _) rfl) ?_
      refine x_nil ?_
      refine e_S ?_
      refine c_seq ?_
      refine c_region ?_
      refine wl (r_as (v := .bool _) rfl) ?_
      refine x_nil ?_
      refine e_S ?_
      refine c_seq ?_
      refine c_seq ?_
      refine c_region ?_
      refine wl (r_mv (v := .slice _ _ _) rfl) ?_
      refine wl (r_len Tryd.underlying45 rfl) ?_
      refine wl (r_mv (v := .int _ _) rfl) ?_
      refine x_nil ?_
      refine e_S ?_
      refine c_block ?_
      refine c_loopS [13, 15, 44, 45, 46, 47, 48, 49, 50, 51, 52, 53, 54, 55] (fun m g w' => ∃ j : Nat, j ≤ xs.length ∧ m = xs.length - j ∧ g 44 = .int .i64 j ∧ g 13 = .bool (allB l xs mn j) ∧ Bel w w' ∧ Own w' w.heap.size 3 1 (some ⟨pb, po, none⟩) (xs).length cap9 ((xs).map (Value.int .i64))) (xs.length) ?_ (fun m g13 w8 hI => ?_)
      · exact ⟨0, Nat.zero_le _, rfl, rfl, rfl, hB, ho⟩
      obtain ⟨j, hj, hm2, h44, h13, hB, ho⟩ := hI
      refine c_know 44 (.int .i64 j) h44 (by simp [undef]) ?_
      refine c_know 13 (.bool (allB l xs mn j)) h13 (by simp [undef]) ?_
      refine c_seq ?_
      refine c_region ?_
      refine wl (r_lss rfl rfl) ?_
      refine x_nil ?_
      refine e_S ?_
      refine c_seq ?_
      refine c_ifd rfl (fun c45 => ?_) (fun c45 => ?_)
      · have hjl : j < xs.length := by omega
        obtain ⟨xn, hxn, hxl2, hxc⟩ := commK_get hxs hjl
        obtain ⟨qb, qo, he, hqb, hqc⟩ := (own_ints ho).at_ hjl
        cases he
        rw [hxn] at hqc
        refine c_skip ?_
        refine e_S ?_
        refine c_seq ?_
        refine c_block ?_
        refine c_seq ?_
        refine c_region ?_
        refine wl (r_ia (i := j) Tryd.underlying45 sz3 rfl rfl (by omega) rfl) ?_
        refine wl (r_ld1 (v := .int _ _) Tryd.underlying3 rfl rfl hqc) ?_
        refine wl (r_as (v := .int _ _) rfl) ?_
        refine x_nil ?_
        refine e_S ?_
        refine c_cutS [13, 48, 49, 50, 51, 52, 53, 54] (fun g w' => g 13 = .bool (allB l xs mn j && sub l xn mn) ∧ Bel w w' ∧ Own w' w.heap.size 3 1 (some ⟨pb, po, none⟩) (xs).length cap9 ((xs).map (Value.int .i64))) ?_ (fun g15 w9 hI => ?_)
        · skip
          refine c_region ?_
          refine wl (r_mv (v := .bool _) rfl) ?_
          refine wl (r_mv (v := .bool _) rfl) ?_
          refine wl_cases 49 rfl (fun g49 => ?_) (fun g49 => ?_)
          · skip
            refine wl_gd 49 rfl rfl ?_
            refine wl (r_mv (v := .slice _ _ _) rfl) ?_
            refine wl_gd 49 rfl rfl ?_
            refine wl (r_mv (v := .int _ _) rfl) ?_
            refine wl_gd 49 rfl rfl ?_
            refine wl (r_mv (v := .int _ _) rfl) ?_
            refine wl_gd 49 rfl rfl ?_
            refine wl_cl fn17 (sub_any _ _ _ _ _ _ (hT.mono hB) hv h60 hxl2 hml) rfl (fun e' w10 hr => ?_)
            obtain ⟨rfl, hs⟩ := hr
            replace hs := Same.of_bel hs
            replace hB := hB.tr0 hs
            replace ho := ho.tr0 hs
            clear hs
            refine ⟨_, rfl, ?_⟩
            refine wl (r_pt (v := .bool _) rfl rfl) ?_
            refine wl (r_as (v := .bool _) rfl) ?_
            refine x_nil ?_
            refine e_R ⟨(by repeat (first | exact ag_refl | exact ag_ovr' | refine ag_upd rfl ?_ | refine ag_sub rfl ?_ | refine ag_kn (by assumption) ?_)), ?_⟩
            exact ⟨congrArg Value.bool (by simp [g49]), hB, ho⟩
          · skip
            refine wlgn 49 rfl rfl rfl ?_
            refine wlgn 49 rfl rfl rfl ?_
            refine wlgn 49 rfl rfl rfl ?_
            refine wlgn 49 rfl rfl rfl ?_
            refine wl (r_pf (v := .bool _) rfl rfl) ?_
            refine wl (r_as (v := .bool _) rfl) ?_
            refine x_nil ?_
            refine e_R ⟨(by repeat (first | exact ag_refl | exact ag_ovr' | refine ag_upd rfl ?_ | refine ag_sub rfl ?_ | refine ag_kn (by assumption) ?_)), ?_⟩
            exact ⟨congrArg Value.bool (by simp [g49]), hB, ho⟩
        obtain ⟨h13, hB, ho⟩ := hI
        refine e_know 13 (.bool (allB l xs mn j && sub l xn mn)) h13 (by simp [undef]) ?_
        refine e_B ?_
        refine e_S ?_
        refine c_region ?_
        refine wl (r_add rfl rfl rfl (by omega)) ?_
        refine wl (r_mv (v := .int _ _) rfl) ?_
        refine x_nil ?_
        refine e_LS (xs.length - (j + 1)) (by omega) (by repeat (first | exact ag_refl | exact ag_ovr' | refine ag_upd rfl ?_ | refine ag_sub rfl ?_ | refine ag_kn (by assumption) ?_)) ?_
        exact ⟨j + 1, by omega, rfl, rfl, congrArg Value.bool (allB_succ hjl hxn), hB, ho⟩
      · have hjx : j = xs.length := by omega
        subst hjx
        refine c_exit ?_
        refine e_Sx ?_
        refine e_LSx ?_
        refine e_Bx ?_
        refine e_S ?_
        refine c_seq ?_
        refine c_region ?_
        refine wl (r_mv (v := .bool _) rfl) ?_
        refine x_nil ?_
        refine e_S ?_
        refine c_if rfl (fun c56 => ?_) (fun c56 => ?_)
        · have hmt := meet_is hv h60 hml hmc (fun x hx hc => by
            obtain ⟨jx, hjx, hex⟩ := commK_mem hxs hx hc
            exact allB_yes c56 hjx hex)
          refine c_seq ?_
          refine c_region ?_
          refine wl (r_mv (v := .int _ _) rfl) ?_
          refine wl (r_as (v := .int _ _) rfl) ?_
          refine wl (r_as (v := .bool _) rfl) ?_
          refine wl (r_as (v := .bool _) rfl) ?_
          refine x_nil ?_
          refine e_S ?_
          refine c_ret ?_
          refine e_Br ?_
          refine e_Sr ?_
          refine e_LSr ?_
          refine e_Br ?_
          refine e_Sr ?_
          refine fin3 (.inl rfl) rfl rfl rfl rfl ?_
          exact ⟨⟨true, by rw [hmt]; rfl⟩, hB⟩
        · skip
          refine c_skip ?_
          refine e_B ?_
          refine e_S ?_
          refine c_region ?_
          refine wl (r_add rfl rfl rfl (by omega)) ?_
          refine wl (r_mv (v := .int _ _) rfl) ?_
          refine x_nil ?_
          refine e_LS (xs.length - (i + 1)) (by omega) (by repeat (first | exact ag_refl | exact ag_ovr' | refine ag_upd rfl ?_ | refine ag_sub rfl ?_ | refine ag_kn (by assumption) ?_)) ?_
          refine ⟨i + 1, by omega, rfl, rfl, hB, ho, fun j hj hji => ?_⟩
          by_cases e : j = i
          · subst e
            obtain ⟨x, h1, h2, h3⟩ := allB_no hxs c56
            exact ⟨x, h1, h2, by rw [hmn]; exact h3⟩
          · exact hP j hj (by omega)
    · have hil : i = xs.length := by omega
      refine c_exit ?_
      refine e_Sx ?_
      refine e_LSx ?_
      refine e_Bx ?_
      refine e_S ?_
      refine c_seq ?_
      refine c_region ?_
      refine wl (r_mv (v := .slice _ _ _) rfl) ?_
      refine wl (r_len Tryd.underlying45 rfl) ?_
      refine wl (r_gtr rfl rfl) ?_
      refine wl (r_as (v := .int _ _) rfl) ?_
      refine wl (r_as (v := .bool _) rfl) ?_
      refine wl (r_as (v := .bool _) rfl) ?_
      refine x_nil ?_
      refine e_S ?_
      refine c_ret ?_
      refine fin3 (.inl rfl) rfl rfl rfl rfl ?_
      have hno := meet_none_of hv h60 (fun m hm hc => by
        obtain ⟨jx, hjx, hex⟩ := commK_mem hxs hm hc
        obtain ⟨x, h1, h2, h3⟩ := hP jx hjx (by omega)
        rw [hex] at h3
        exact ⟨x, h1, h2, h3⟩)
      exact ⟨⟨decide (0 < (xs.length : Int)), by rw [hno.1, hno.2]; rfl⟩, hB⟩

set_option maxHeartbeats 1000000 in
theorem sjoins_any (A : Option Addr) (c : Nat) (l : List Ty) (a b : Nat) (w : World) (hT : TypesIn w A l) (hv : VT l) (h60 : l.length ≤ 60) (ha : a < l.length) (hb : b < l.length) : Calls Tryd.prog 18 #[.slice A l.length c, .int .i64 a, .int .i64 b] w fun e w' => (∃ A' cap, e = .returned (.slice A' (joinsK l a b l.length).length cap) ∧ Own w' w.heap.size 3 1 A' (joinsK l a b l.length).length cap ((joinsK l a b l.length).map (Value.int .i64))) ∧ Bel w w' := by
  refine enter Tryd.func18 Tryd.ntmps18 rfl (Nat.le_of_ble_eq_true rfl) ?_
  have hB : Bel w w := Below.refl _ _
  refine c_seq ?_
  refine c_region ?_
  refine wl (r_as (v := .slice _ _ _) rfl) ?_
  refine x_nil ?_
  refine e_S ?_
  refine c_seq ?_
  refine c_region ?_
  refine wl (r_as (v := .slice _ _ _) rfl) ?_
  refine x_nil ?_
  refine e_S ?_
  refine c_seq ?_
  refine c_seq ?_
  refine c_region ?_
  refine wl (r_mv (v := .slice _ _ _) rfl) ?_
  refine wl (r_len Tryd.underlying22 rfl) ?_
  refine wl (r_mv (v := .int _ _) rfl) ?_
  refine x_nil ?_
  refine e_S ?_
  refine c_block ?_
  refine c_loopS [7, 8, 9, 10, 13, 14, 15, 16, 17, 18, 19, 20, 21, 22, 23, 24, 25, 26, 27, 28, 29, 30, 31, 32, 33, 34, 35, 36, 37, 38, 39, 40, 41, 42, 43, 44, 45, 46, 47, 48, 49, 50, 51, 52, 53, 54, 55, 56, 57, 58, 59, 60] (fun m g w' => ∃ (k : Nat) (A7 : Option Addr) (cap7 : Nat) (xs : List Int), k ≤ l.length ∧ m = l.length - k ∧ g 13 = .int .i64 k ∧ g 7 = .slice A7 xs.length cap7 ∧ xs = joinsK l a b k ∧ Bel w w' ∧ Own w' w.heap.size 3 1 A7 (xs).length cap7 ((xs).map (Value.int .i64))) (l.length) ?_ (fun m g3 w1 hI => ?_)
  · exact ⟨0, none, 0, [], Nat.zero_le _, rfl, rfl, rfl, rfl, hB, Own.nil _ _ _ _⟩
  obtain ⟨k, A7, cap7, xs, hk, hm, h13, h7, hxs, hB, ho⟩ := hI
  refine c_know 13 (.int .i64 k) h13 (by simp [undef]) ?_
  refine c_know 7 (.slice A7 xs.length cap7) h7 (by simp [undef]) ?_
  refine c_seq ?_
  refine c_region ?_
  refine wl (r_lss rfl rfl) ?_
  refine x_nil ?_
  refine e_S ?_
  refine c_seq ?_
  refine c_ifd rfl (fun c14 => ?_) (fun c14 => ?_)
  · have hlt : k < l.length := by omega
    have hxl := joinsK_le l a b k
    rw [← hxs] at hxl
    refine c_skip ?_
    refine e_S ?_
    refine c_seq ?_
    refine c_block ?_
    refine c_seq ?_
    refine c_region ?_
    refine wl (r_mv (v := .int _ _) rfl) ?_
    refine wl (r_as (v := .int _ _) rfl) ?_
    refine x_nil ?_
    refine e_S ?_
    refine c_seq ?_
    refine c_seq ?_
    refine c_cutS [16, 17, 18, 19, 20, 21, 22, 23, 24, 25, 26, 27] (fun g w' => g 27 = .bool (decide (capB l a b k = false)) ∧ Bel w w' ∧ Own w' w.heap.size 3 1 A7 (xs).length cap7 ((xs).map (Value.int .i64))) ?_ (fun g5 w2 hI => ?_)
    · skip
      refine c_region ?_
      refine wl (r_mv (v := .slice _ _ _) rfl) ?_
      refine wl (r_mv (v := .int _ _) rfl) ?_
      refine wl (r_mv (v := .int _ _) rfl) ?_
      refine wl_cl fn17 (sub_any _ _ _ _ _ _ (hT.mono hB) hv h60 ha hlt) rfl (fun e' w3 hr => ?_)
      obtain ⟨rfl, hs⟩ := hr
      replace hs := Same.of_bel hs
      replace hB := hB.tr0 hs
      replace ho := ho.tr0 hs
      clear hs
      refine ⟨_, rfl, ?_⟩
      refine wl (r_not rfl) ?_
      refine wl (r_mv (v := .bool _) rfl) ?_
      refine wl_cases 21 rfl (fun g21 => ?_) (fun g21 => ?_)
      · skip
        refine wlgn 21 rfl rfl rfl ?_
        refine wlgn 21 rfl rfl rfl ?_
        refine wlgn 21 rfl rfl rfl ?_
        refine wlgn 21 rfl rfl rfl ?_
        refine wlgn 21 rfl rfl rfl ?_
        refine wl (r_pt (v := .bool _) rfl rfl) ?_
        refine x_nil ?_
        refine e_R ⟨(by repeat (first | exact ag_refl | exact ag_ovr' | refine ag_upd rfl ?_ | refine ag_sub rfl ?_ | refine ag_kn (by assumption) ?_)), ?_⟩
        exact ⟨congrArg Value.bool (by first | (simp [capB, g21]; done) | (simp [capB, show sub l a k = true by simpa using g21]; done)), hB, ho⟩
      · skip
        refine wl_gd 21 rfl rfl ?_
        refine wl (r_mv (v := .slice _ _ _) rfl) ?_
        refine wl_gd 21 rfl rfl ?_
        refine wl (r_mv (v := .int _ _) rfl) ?_
        refine wl_gd 21 rfl rfl ?_
        refine wl (r_mv (v := .int _ _) rfl) ?_
        refine wl_gd 21 rfl rfl ?_
        refine wl_cl fn17 (sub_any _ _ _ _ _ _ (hT.mono hB) hv h60 hb hlt) rfl (fun e' w4 hr => ?_)
        obtain ⟨rfl, hs⟩ := hr
        replace hs := Same.of_bel hs
        replace hB := hB.tr0 hs
        replace ho := ho.tr0 hs
        clear hs
        refine ⟨_, rfl, ?_⟩
        refine wl_gd 21 rfl rfl ?_
        refine wl (r_not rfl) ?_
        refine wl (r_pf (v := .bool _) rfl rfl) ?_
        refine x_nil ?_
        refine e_R ⟨(by repeat (first | exact ag_refl | exact ag_ovr' | refine ag_upd rfl ?_ | refine ag_sub rfl ?_ | refine ag_kn (by assumption) ?_)), ?_⟩
        exact ⟨congrArg Value.bool (by first | (simp [capB, g21]; done) | (simp [capB, show sub l a k = true by simpa using g21]; done)), hB, ho⟩
    obtain ⟨h27, hB, ho⟩ := hI
    refine e_know 27 (.bool (decide (capB l a b k = false))) h27 (by simp [undef]) ?_
    refine e_S ?_
    refine c_ifd rfl (fun c27 => ?_) (fun c27 => ?_)
    · skip
      refine c_exit ?_
      refine e_Sx ?_
      refine e_Bx ?_
      refine e_S ?_
      refine c_region ?_
      refine wl (r_add rfl rfl rfl (by omega)) ?_
      refine wl (r_mv (v := .int _ _) rfl) ?_
      refine x_nil ?_
      refine e_LS (l.length - (k + 1)) (by omega) (by repeat (first | exact ag_refl | exact ag_ovr' | refine ag_upd rfl ?_ | refine ag_sub rfl ?_ | refine ag_kn (by assumption) ?_)) ?_
      first
        | exact ⟨k + 1, _, _, xs ++ [(k : Int)], by omega, rfl, rfl, sl_snoc _ _ _ _, by rw [hxs, joinsK_yes ((joinB_least c27).trans c55)], hB, own_snoc ho59⟩
        | exact ⟨k + 1, _, _, xs, by omega, rfl, rfl, rfl, by rw [hxs, joinsK_no ((joinB_least c27).trans c55)], hB, ho⟩
        | exact ⟨k + 1, _, _, xs, by omega, rfl, rfl, rfl, by rw [hxs, joinsK_no (joinB_cap c27)], hB, ho⟩
    · replace c27 : capB l a b k = true := by simpa using c27
      refine c_skip ?_
      refine e_S ?_
      refine c_seq ?_
      refine c_region ?_
      refine wl (r_as (v := .bool _) rfl) ?_
      refine x_nil ?_
      refine e_S ?_
      refine c_seq ?_
      refine c_seq ?_
      refine c_region ?_
      refine wl (r_mv (v := .slice _ _ _) rfl) ?_
      refine wl (r_len Tryd.underlying22 rfl) ?_
      refine wl (r_mv (v := .int _ _) rfl) ?_
      refine x_nil ?_
      refine e_S ?_
      refine c_block ?_
      refine c_loopS [9, 10, 30, 31, 32, 33, 34, 35, 36, 37, 38, 39, 40, 41, 42, 43, 44, 45, 46, 47, 48, 49, 50, 51, 52, 53, 54] (fun m g w' => ∃ j : Nat, j ≤ l.length ∧ m = l.length - j ∧ g 30 = .int .i64 j ∧ g 9 = .bool (leastB l a b k j) ∧ Bel w w' ∧ Own w' w.heap.size 3 1 A7 (xs).length cap7 ((xs).map (Value.int .i64))) (l.length) ?_ (fun m g8 w5 hI => ?_)
      · exact ⟨0, Nat.zero_le _, rfl, rfl, rfl, hB, ho⟩
      obtain ⟨j, hj, hm2, h30, h9, hB, ho⟩ := hI
      refine c_know 30 (.int .i64 j) h30 (by simp [undef]) ?_
      refine c_know 9 (.bool (leastB l a b k j)) h9 (by simp [undef]) ?_
      refine c_seq ?_
      refine c_region ?_
      refine wl (r_lss rfl rfl) ?_
      refine x_nil ?_
      refine e_S ?_
      refine c_seq ?_
      refine c_ifd rfl (fun c31 => ?_) (fun c31 => ?_)
      · have hjl : j < l.length := by omega
        refine c_skip ?_
        refine e_S ?_
        refine c_seq ?_
        refine c_block ?_
        refine c_seq ?_
        refine c_region ?_
        refine wl (r_mv (v := .int _ _) rfl) ?_
        refine wl (r_as (v := .int _ _) rfl) ?_
        refine x_nil ?_
        refine e_S ?_
        refine c_seq ?_
        refine c_cutS [33, 34, 35, 36, 37, 38, 39, 40, 41, 42, 43, 44, 45, 46, 47, 48, 49, 50, 51, 52, 53] (fun g w' => g 53 = .bool (decide (j ≠ k ∧ sub l j k = true ∧ capB l a b j = true)) ∧ Bel w w' ∧ Own w' w.heap.size 3 1 A7 (xs).length cap7 ((xs).map (Value.int .i64))) ?_ (fun g10 w6 hI => ?_)
        · skip
          refine c_region ?_
          refine wl (r_mv (v := .int _ _) rfl) ?_
          refine wl (r_mv (v := .int _ _) rfl) ?_
          refine wl (r_neq rfl rfl) ?_
          refine wl (r_mv (v := .bool _) rfl) ?_
          refine wl_casesd 36 rfl (fun g36 => ?_) (fun g36 => ?_)
          · skip
            refine wl_gd 36 rfl rfl ?_
            refine wl (r_mv (v := .slice _ _ _) rfl) ?_
            refine wl_gd 36 rfl rfl ?_
            refine wl (r_mv (v := .int _ _) rfl) ?_
            refine wl_gd 36 rfl rfl ?_
            refine wl (r_mv (v := .int _ _) rfl) ?_
            refine wl_gd 36 rfl rfl ?_
            refine wl_cl fn17 (sub_any _ _ _ _ _ _ (hT.mono hB) hv h60 hjl hlt) rfl (fun e' w7 hr => ?_)
            obtain ⟨rfl, hs⟩ := hr
            replace hs := Same.of_bel hs
            replace hB := hB.tr0 hs
            replace ho := ho.tr0 hs
            clear hs
            refine ⟨_, rfl, ?_⟩
            refine wl (r_pt (v := .bool _) rfl rfl) ?_
            refine wl (r_mv (v := .bool _) rfl) ?_
            refine wl_cases 42 rfl (fun g42 => ?_) (fun g42 => ?_)
            · skip
              refine wl_gd 42 rfl rfl ?_
              refine wl (r_mv (v := .slice _ _ _) rfl) ?_
              refine wl_gd 42 rfl rfl ?_
              refine wl (r_mv (v := .int _ _) rfl) ?_
              refine wl_gd 42 rfl rfl ?_
              refine wl (r_mv (v := .int _ _) rfl) ?_
              refine wl_gd 42 rfl rfl ?_
              refine wl_cl fn17 (sub_any _ _ _ _ _ _ (hT.mono hB) hv h60 ha hjl) rfl (fun e' w8 hr => ?_)
              obtain ⟨rfl, hs⟩ := hr
              replace hs := Same.of_bel hs
              replace hB := hB.tr0 hs
              replace ho := ho.tr0 hs
              clear hs
              refine ⟨_, rfl, ?_⟩
              refine wl (r_pt (v := .bool _) rfl rfl) ?_
              refine wl (r_mv (v := .bool _) rfl) ?_
              refine wl_cases 48 rfl (fun g48 => ?_) (fun g48 => ?_)
              · skip
                refine wl_gd 48 rfl rfl ?_
                refine wl (r_mv (v := .slice _ _ _) rfl) ?_
                refine wl_gd 48 rfl rfl ?_
                refine wl (r_mv (v := .int _ _) rfl) ?_
                refine wl_gd 48 rfl rfl ?_
                refine wl (r_mv (v := .int _ _) rfl) ?_
                refine wl_gd 48 rfl rfl ?_
                refine wl_cl fn17 (sub_any _ _ _ _ _ _ (hT.mono hB) hv h60 hb hjl) rfl (fun e' w9 hr => ?_)
                obtain ⟨rfl, hs⟩ := hr
                replace hs := Same.of_bel hs
                replace hB := hB.tr0 hs
                replace ho := ho.tr0 hs
                clear hs
                refine ⟨_, rfl, ?_⟩
                refine wl (r_pt (v := .bool _) rfl rfl) ?_
                refine x_nil ?_
                refine e_R ⟨(by repeat (first | exact ag_refl | exact ag_ovr' | refine ag_upd rfl ?_ | refine ag_sub rfl ?_ | refine ag_kn (by assumption) ?_)), ?_⟩
                refine ⟨congrArg Value.bool ?_, hB, ho⟩
                first
                  | (have h1 : j = k := by omega
                     simp [h1]; done)
                  | (have h1 : j ≠ k := by omega
                     first
                       | (simp [capB, h1, g42, g48]; done)
                       | (simp [capB, h1, g42]; done)
                       | (simp [capB, h1]; done))
              · skip
                refine wlgn 48 rfl rfl rfl ?_
                refine wlgn 48 rfl rfl rfl ?_
                refine wlgn 48 rfl rfl rfl ?_
                refine wlgn 48 rfl rfl rfl ?_
                refine wl (r_pf (v := .bool _) rfl rfl) ?_
                refine x_nil ?_
                refine e_R ⟨(by repeat (first | exact ag_refl | exact ag_ovr' | refine ag_upd rfl ?_ | refine ag_sub rfl ?_ | refine ag_kn (by assumption) ?_)), ?_⟩
                refine ⟨congrArg Value.bool ?_, hB, ho⟩
                first
                  | (have h1 : j = k := by omega
                     simp [h1]; done)
                  | (have h1 : j ≠ k := by omega
                     first
                       | (simp [capB, h1, g42, g48]; done)
                       | (simp [capB, h1, g42]; done)
                       | (simp [capB, h1]; done))
            · skip
              refine wlgn 42 rfl rfl rfl ?_
              refine wlgn 42 rfl rfl rfl ?_
              refine wlgn 42 rfl rfl rfl ?_
              refine wlgn 42 rfl rfl rfl ?_
              refine wl (r_pf (v := .bool _) rfl rfl) ?_
              refine wl (r_mv (v := .bool _) rfl) ?_
              refine wlgn 48 rfl rfl rfl ?_
              refine wlgn 48 rfl rfl rfl ?_
              refine wlgn 48 rfl rfl rfl ?_
              refine wlgn 48 rfl rfl rfl ?_
              refine wl (r_pf (v := .bool _) rfl rfl) ?_
              refine x_nil ?_
              refine e_R ⟨(by repeat (first | exact ag_refl | exact ag_ovr' | refine ag_upd rfl ?_ | refine ag_sub rfl ?_ | refine ag_kn (by assumption) ?_)), ?_⟩
              refine ⟨congrArg Value.bool ?_, hB, ho⟩
              first
                | (have h1 : j = k := by omega
                   simp [h1]; done)
                | (have h1 : j ≠ k := by omega
                   first
                     | (simp [capB, h1, g42, g48]; done)
                     | (simp [capB, h1, g42]; done)
                     | (simp [capB, h1]; done))
          · skip
            refine wlgn 36 rfl rfl rfl ?_
            refine wlgn 36 rfl rfl rfl ?_
            refine wlgn 36 rfl rfl rfl ?_
            refine wlgn 36 rfl rfl rfl ?_
            refine wl (r_pf (v := .bool _) rfl rfl) ?_
            refine wl (r_mv (v := .bool _) rfl) ?_
            refine wlgn 42 rfl rfl rfl ?_
            refine wlgn 42 rfl rfl rfl ?_
            refine wlgn 42 rfl rfl rfl ?_
            refine wlgn 42 rfl rfl rfl ?_
            refine wl (r_pf (v := .bool _) rfl rfl) ?_
            refine wl (r_mv (v := .bool _) rfl) ?_
            refine wlgn 48 rfl rfl rfl ?_
            refine wlgn 48 rfl rfl rfl ?_
            refine wlgn 48 rfl rfl rfl ?_
            refine wlgn 48 rfl rfl rfl ?_
            refine wl (r_pf (v := .bool _) rfl rfl) ?_
            refine x_nil ?_
            refine e_R ⟨(by repeat (first | exact ag_refl | exact ag_ovr' | refine ag_upd rfl ?_ | refine ag_sub rfl ?_ | refine ag_kn (by assumption) ?_)), ?_⟩
            refine ⟨congrArg Value.bool ?_, hB, ho⟩
            first
              | (have h1 : j = k := by omega
                 simp [h1]; done)
              | (have h1 : j ≠ k := by omega
                 first
                   | (simp [capB, h1, g42, g48]; done)
                   | (simp [capB, h1, g42]; done)
                   | (simp [capB, h1]; done))
        obtain ⟨h53, hB, ho⟩ := hI
        refine e_know 53 (.bool (decide (j ≠ k ∧ sub l j k = true ∧ capB l a b j = true))) h53 (by simp [undef]) ?_
        refine e_S ?_
        refine c_ifd rfl (fun c53 => ?_) (fun c53 => ?_)
        · skip
          refine c_region ?_
          refine wl (r_as (v := .bool _) rfl) ?_
          refine x_nil ?_
          refine e_B ?_
          refine e_S ?_
          refine c_region ?_
          refine wl (r_add rfl rfl rfl (by omega)) ?_
          refine wl (r_mv (v := .int _ _) rfl) ?_
          refine x_nil ?_
          refine e_LS (l.length - (j + 1)) (by omega) (by repeat (first | exact ag_refl | exact ag_ovr' | refine ag_upd rfl ?_ | refine ag_sub rfl ?_ | refine ag_kn (by assumption) ?_)) ?_
          first
            | exact ⟨j + 1, by omega, rfl, rfl, congrArg Value.bool (leastB_no c53), hB, ho⟩
            | exact ⟨j + 1, by omega, rfl, rfl, congrArg Value.bool (leastB_yes c53), hB, ho⟩
        · skip
          refine c_skip ?_
          refine e_B ?_
          refine e_S ?_
          refine c_region ?_
          refine wl (r_add rfl rfl rfl (by omega)) ?_
          refine wl (r_mv (v := .int _ _) rfl) ?_
          refine x_nil ?_
          refine e_LS (l.length - (j + 1)) (by omega) (by repeat (first | exact ag_refl | exact ag_ovr' | refine ag_upd rfl ?_ | refine ag_sub rfl ?_ | refine ag_kn (by assumption) ?_)) ?_
          first
            | exact ⟨j + 1, by omega, rfl, rfl, congrArg Value.bool (leastB_no c53), hB, ho⟩
            | exact ⟨j + 1, by omega, rfl, rfl, congrArg Value.bool (leastB_yes c53), hB, ho⟩
      · have hjx : j = l.length := by omega
        subst hjx
        refine c_exit ?_
        refine e_Sx ?_
        refine e_LSx ?_
        refine e_Bx ?_
        refine e_S ?_
        refine c_seq ?_
        refine c_region ?_
        refine wl (r_mv (v := .bool _) rfl) ?_
        refine x_nil ?_
        refine e_S ?_
        refine c_if rfl (fun c55 => ?_) (fun c55 => ?_)
        · skip
          refine c_region ?_
          refine wl (r_mv (v := .slice _ _ _) rfl) ?_
          refine wl (r_mv (v := .int _ _) rfl) ?_
          refine wl_bs (cs := #[_]) [(0, .int _ _)] rfl Tryd.underlying45 sz3 ze3 (by decide) (by decide) (by kernel_rfl) rfl (fun b58 w10 hb58 hs hr => ?_)
          have or_ho_b58 := fun g hg => Nat.lt_of_lt_of_le (ho.lt g hg).2 hr
          have lo58 := Nat.le_trans (Bel.size hB) hr
          replace hB := hB.tr0 hs
          replace ho := ho.tr0 hs
          clear hs
          clear hr
          refine wl_app Tryd.underlying45 in3 rfl (by decide) ho hb58 rfl rfl rfl (by repeat (first | rfl | refine one_cons (by first | rfl | assumption) ?_)) (by decide) (by omega) (by omega) (Bel.size hB) (fun g59 cap59 w11 ho59 hs hg => ?_)
          replace hB := hB.tr hs (fun g hg => Nat.le_trans (Nat.le_refl _) (ho.lt g hg).1)
          refine wl (r_as (v := .slice _ _ _) rfl) ?_
          refine x_nil ?_
          refine e_B ?_
          refine e_S ?_
          refine c_region ?_
          refine wl (r_add rfl rfl rfl (by omega)) ?_
          refine wl (r_mv (v := .int _ _) rfl) ?_
          refine x_nil ?_
          refine e_LS (l.length - (k + 1)) (by omega) (by repeat (first | exact ag_refl | exact ag_ovr' | refine ag_upd rfl ?_ | refine ag_sub rfl ?_ | refine ag_kn (by assumption) ?_)) ?_
          first
            | exact ⟨k + 1, _, _, xs ++ [(k : Int)], by omega, rfl, rfl, sl_snoc _ _ _ _, by rw [hxs, joinsK_yes ((joinB_least c27).trans c55)], hB, own_snoc ho59⟩
            | exact ⟨k + 1, _, _, xs, by omega, rfl, rfl, rfl, by rw [hxs, joinsK_no ((joinB_least c27).trans c55)], hB, ho⟩
            | exact ⟨k + 1, _, _, xs, by omega, rfl, rfl, rfl, by rw [hxs, joinsK_no (joinB_cap c27)], hB, ho⟩
        · skip
          refine c_skip ?_
          refine e_B ?_
          refine e_S ?_
          refine c_region ?_
          refine wl (r_add rfl rfl rfl (by omega)) ?_
          refine wl (r_mv (v := .int _ _) rfl) ?_
          refine x_nil ?_
          refine e_LS (l.length - (k + 1)) (by omega) (by repeat (first | exact ag_refl | exact ag_ovr' | refine ag_upd rfl ?_ | refine ag_sub rfl ?_ | refine ag_kn (by assumption) ?_)) ?_
          first
            | exact ⟨k + 1, _, _, xs ++ [(k : Int)], by omega, rfl, rfl, sl_snoc _ _ _ _, by rw [hxs, joinsK_yes ((joinB_least c27).trans c55)], hB, own_snoc ho59⟩
            | exact ⟨k + 1, _, _, xs, by omega, rfl, rfl, rfl, by rw [hxs, joinsK_no ((joinB_least c27).trans c55)], hB, ho⟩
            | exact ⟨k + 1, _, _, xs, by omega, rfl, rfl, rfl, by rw [hxs, joinsK_no (joinB_cap c27)], hB, ho⟩
  · have hkl : k = l.length := by omega
    rw [hkl] at hxs
    refine c_exit ?_
    refine e_Sx ?_
    refine e_LSx ?_
    refine e_Bx ?_
    refine e_S ?_
    refine c_seq ?_
    refine c_region ?_
    refine wl (r_mv (v := .slice _ _ _) rfl) ?_
    refine wl (r_as (v := .slice _ _ _) rfl) ?_
    refine x_nil ?_
    refine e_S ?_
    refine c_ret ?_
    refine fin1 (.inl rfl) rfl rfl ?_
    rw [← hxs]
    exact ⟨⟨_, _, rfl, ho⟩, hB⟩
end Go.Proofs.YthhkbhapfcfdjaaDoor
