/- What these functions of the program compute, at every world: glosswright/glosswrightref3.Meet. -/
import Derived.Test.YtahdbbgkgokkhaaDoorSub
import Derived.Test.YtahdbbgkgokkhaaDoorHLaw
namespace Go.Proofs.YtahdbbgkgokkhaaDoor
open Go.RowKit

def commK (l : List Ty) (a b k : Nat) : List Int := ((List.range k).filter (comm l a b)).map (fun (n : Nat) => (n : Int))
theorem commK_yes {l : List Ty} {a b k : Nat} (h : comm l a b k = true) : commK l a b (k + 1) = commK l a b k ++ [(k : Int)] := by
  simp [commK, List.range_succ, List.filter_append, h]
theorem commK_no {l : List Ty} {a b k : Nat} (h : ¬ comm l a b k = true) : commK l a b (k + 1) = commK l a b k := by
  simp [commK, List.range_succ, List.filter_append, h]
theorem commK_le (l : List Ty) (a b k : Nat) : (commK l a b k).length ≤ k := by
  have := List.length_filter_le (comm l a b) (List.range k)
  simpa [commK] using this
theorem commK_get {l : List Ty} {a b k : Nat} {xs : List Int} (hx : xs = commK l a b k) {j : Nat} (hj : j < xs.length) : ∃ n : Nat, xs[j] = (n : Int) ∧ n < k ∧ comm l a b n = true := by
  have hm : xs[j] ∈ commK l a b k := by rw [← hx]; exact List.getElem_mem hj
  simp only [commK, List.mem_map, List.mem_filter, List.mem_range] at hm
  obtain ⟨n, ⟨h1, h2⟩, h3⟩ := hm
  exact ⟨n, h3.symm, h1, h2⟩
theorem commK_mem {l : List Ty} {a b k : Nat} {xs : List Int} (hx : xs = commK l a b k) {n : Nat} (hn : n < k) (hc : comm l a b n = true) : ∃ j, ∃ hj : j < xs.length, xs[j] = (n : Int) := by
  have hm : (n : Int) ∈ xs := by
    rw [hx]
    simp only [commK, List.mem_map, List.mem_filter, List.mem_range]
    exact ⟨n, ⟨hn, hc⟩, rfl⟩
  obtain ⟨j, hj, h⟩ := List.getElem_of_mem hm
  exact ⟨j, hj, h⟩
def allB (l : List Ty) (xs : List Int) (m j : Nat) : Bool := (xs.take j).all (fun x => sub l x.toNat m)
theorem allB_succ {l : List Ty} {xs : List Int} {m j n : Nat} (hj : j < xs.length) (h : xs[j] = (n : Int)) : (allB l xs m j && sub l n m) = allB l xs m (j + 1) := by
  unfold allB
  rw [List.take_succ_eq_append_getElem hj, List.all_append, h]
  simp
theorem allB_yes {l : List Ty} {xs : List Int} {m : Nat} (h : allB l xs m xs.length = true) {j n : Nat} (hj : j < xs.length) (hn : xs[j] = (n : Int)) : sub l n m = true := by
  unfold allB at h
  rw [List.take_length, List.all_eq_true] at h
  have := h _ (List.getElem_mem hj)
  rw [hn] at this; simpa using this
theorem allB_no {l : List Ty} {a b k : Nat} {xs : List Int} (hx : xs = commK l a b k) {m : Nat} (h : allB l xs m xs.length = false) : ∃ x, x < k ∧ comm l a b x = true ∧ sub l x m = false := by
  unfold allB at h
  rw [List.take_length] at h
  have h' : ¬ xs.all (fun x => sub l x.toNat m) = true := by rw [h]; simp
  rw [List.all_eq_true] at h'
  have h2 : ∃ x, x ∈ xs ∧ ¬ sub l x.toNat m = true := Classical.byContradiction (fun hc => h' (fun x hxm => Classical.byContradiction (fun hs => hc ⟨x, hxm, hs⟩)))
  obtain ⟨x, hxm, hs⟩ := h2
  rw [hx] at hxm
  simp only [commK, List.mem_map, List.mem_filter, List.mem_range] at hxm
  obtain ⟨n, ⟨h3, h4⟩, rfl⟩ := hxm
  exact ⟨n, h3, h4, by simpa using hs⟩

theorem fn9_CMt : callable Tryd.prog 9 = true := by kernel_rfl
theorem in3_CMt : (Tryd.prog.info? 3).map (fun i => (i.zero, i.size, i.bytes)) = some (some (.int .i64 0), 1, 8) := by kernel_rfl
set_option maxHeartbeats 1000000 in
theorem smeet_any (A : Option Addr) (c : Nat) (l : List Ty) (a b : Nat) (w : World) (hT : TypesIn w A l) (hv : VT l) (h60 : l.length ≤ 60) (ha : a < l.length) (hb : b < l.length) : Calls Tryd.prog 10 #[.slice A l.length c, .int .i64 a, .int .i64 b] w fun e w' => (∃ u, e = .returned (.tuple #[.int .i64 (meet l a b).1, .bool (meet l a b).2.1, .bool u])) ∧ Bel w w' := by
 refine enter Tryd.func10 Tryd.ntmps10 rfl (Nat.le_of_ble_eq_true rfl) ?_
 have hB : Bel w w := Below.refl _ _
 refine c_seq ?_
 refine c_region ?_
 refine wl (r_as (v := .int _ _) rfl) ?_
 refine wl (r_as (v := .bool _) rfl) ?_
 refine wl (r_as (v := .bool _) rfl) ?_
 refine x_nil ?_
 refine e_S ?_
 refine c_seq ?_
 refine c_region ?_
 refine wl (r_as (v := .slice _ _ _) rfl) ?_
 refine x_nil ?_
 refine e_S ?_
 refine c_seq ?_
 refine c_seq ?_
 refine c_region ?_
 refine wl (r_mv (v := .slice _ _ _) rfl) ?_
 refine wl (r_len Tryd.underlying22 rfl) ?_
 refine wl (r_mv (v := .int _ _) rfl) ?_
 refine x_nil ?_
 refine e_S ?_
 refine c_block ?_
 refine c_loopS [9, 10, 18, 19, 20, 21, 22, 23, 24, 25, 26, 27, 28, 29, 30, 31, 32, 33, 34, 35] (fun m g w' => ∃ (k : Nat) (A9 : Option Addr) (cap9 : Nat) (xs : List Int), k ≤ l.length ∧ m = l.length - k ∧ g 18 = .int .i64 k ∧ g 9 = .slice A9 xs.length cap9 ∧ xs = commK l a b k ∧ Bel w w' ∧ Own w' w.heap.size 3 1 A9 (xs).length cap9 ((xs).map (Value.int .i64))) (l.length) ?_ (fun m g3 w1 hI => ?_)
 ·
  exact ⟨0, none, 0, [], Nat.zero_le _, rfl, rfl, rfl, rfl, hB, Own.nil _ _ _ _⟩
 obtain ⟨k, A9, cap9, xs, hk, hm, h18, h9, hxs, hB, ho⟩ := hI
 refine c_know 18 (.int .i64 k) h18 (by simp [undef]) ?_
 refine c_know 9 (.slice A9 xs.length cap9) h9 (by simp [undef]) ?_
 refine c_seq ?_
 refine c_region ?_
 refine wl (r_lss rfl rfl) ?_
 refine x_nil ?_
 refine e_S ?_
 refine c_seq ?_
 refine c_ifd rfl (fun c19 => ?_) (fun c19 => ?_)
 ·
  have hlt : k < l.length := by omega
  refine c_skip ?_
  refine e_S ?_
  refine c_seq ?_
  refine c_block ?_
  refine c_seq ?_
  refine c_region ?_
  refine wl (r_mv (v := .int _ _) rfl) ?_
  refine wl (r_as (v := .int _ _) rfl) ?_
  refine x_nil ?_
  refine e_S ?_
  refine c_seq ?_
  refine c_cutS [21, 22, 23, 24, 25, 26, 27, 28, 29, 30] (fun g w' => g 30 = .bool (decide (comm l a b k = true)) ∧ Bel w w' ∧ Own w' w.heap.size 3 1 A9 (xs).length cap9 ((xs).map (Value.int .i64))) ?_ (fun g5 w2 hI => ?_)
  ·
   refine c_region ?_
   refine wl (r_mv (v := .slice _ _ _) rfl) ?_
   refine wl (r_mv (v := .int _ _) rfl) ?_
   refine wl (r_mv (v := .int _ _) rfl) ?_
   refine wl_cl fn9_CMt (sub_any _ _ _ _ _ _ (hT.mono hB) hv h60 hlt ha) rfl (fun e' w3 hr => ?_)
   obtain ⟨rfl, hs⟩ := hr
   replace hs := Same.of_bel hs
   replace hB := hB.tr0 hs
   replace ho := ho.tr0 hs
   clear hs
   refine ⟨_, rfl, ?_⟩
   refine wl (r_mv (v := .bool _) rfl) ?_
   refine wl_cases 25 rfl (fun g25 => ?_) (fun g25 => ?_)
   ·
    refine wl_gd 25 rfl rfl ?_
    refine wl (r_mv (v := .slice _ _ _) rfl) ?_
    refine wl_gd 25 rfl rfl ?_
    refine wl (r_mv (v := .int _ _) rfl) ?_
    refine wl_gd 25 rfl rfl ?_
    refine wl (r_mv (v := .int _ _) rfl) ?_
    refine wl_gd 25 rfl rfl ?_
    refine wl_cl fn9_CMt (sub_any _ _ _ _ _ _ (hT.mono hB) hv h60 hlt hb) rfl (fun e' w4 hr => ?_)
    obtain ⟨rfl, hs⟩ := hr
    replace hs := Same.of_bel hs
    replace hB := hB.tr0 hs
    replace ho := ho.tr0 hs
    clear hs
    refine ⟨_, rfl, ?_⟩
    refine wl (r_pt (v := .bool _) rfl rfl) ?_
    refine x_nil ?_
    refine e_R ⟨(by repeat (first | exact ag_refl | exact ag_ovr' | refine ag_upd rfl ?_ | refine ag_sub rfl ?_ | refine ag_kn (by assumption) ?_)), ?_⟩
    exact ⟨congrArg Value.bool (by simp [comm, g25]), hB, ho⟩
   ·
    refine wlgn 25 rfl rfl rfl ?_
    refine wlgn 25 rfl rfl rfl ?_
    refine wlgn 25 rfl rfl rfl ?_
    refine wlgn 25 rfl rfl rfl ?_
    refine wl (r_pf (v := .bool _) rfl rfl) ?_
    refine x_nil ?_
    refine e_R ⟨(by repeat (first | exact ag_refl | exact ag_ovr' | refine ag_upd rfl ?_ | refine ag_sub rfl ?_ | refine ag_kn (by assumption) ?_)), ?_⟩
    exact ⟨congrArg Value.bool (by simp [comm, g25]), hB, ho⟩
  obtain ⟨h30, hB, ho⟩ := hI
  refine e_know 30 (.bool (decide (comm l a b k = true))) h30 (by simp [undef]) ?_
  refine e_S ?_
  refine c_ifd rfl (fun c30 => ?_) (fun c30 => ?_)
  ·
   have hxl := commK_le l a b k
   rw [← hxs] at hxl
   refine c_region ?_
   refine wl (r_mv (v := .slice _ _ _) rfl) ?_
   refine wl (r_mv (v := .int _ _) rfl) ?_
   refine wl_bs (cs := #[_]) [(0, .int _ _)] rfl Tryd.underlying33 sz3 ze3 (by decide) (by decide) (by kernel_rfl) rfl (fun b33 w5 hb33 hs hr => ?_)
   have or_ho_b33 := fun g hg => Nat.lt_of_lt_of_le (ho.lt g hg).2 hr
   have lo33 := Nat.le_trans (Bel.size hB) hr
   replace hB := hB.tr0 hs
   replace ho := ho.tr0 hs
   clear hs
   clear hr
   refine wl_app Tryd.underlying33 in3_CMt rfl (by decide) ho hb33 rfl rfl rfl (by repeat (first | rfl | refine one_cons (by first | rfl | assumption) ?_)) (by decide) (by omega) (by omega) (Bel.size hB) (fun g34 cap34 w6 ho34 hs hg => ?_)
   replace hB := hB.tr hs (fun g hg => Nat.le_trans (Nat.le_refl _) (ho.lt g hg).1)
   refine wl (r_as (v := .slice _ _ _) rfl) ?_
   refine x_nil ?_
   refine e_B ?_
   refine e_S ?_
   refine c_region ?_
   refine wl (r_add rfl rfl rfl (by omega)) ?_
   refine wl (r_mv (v := .int _ _) rfl) ?_
   refine x_nil ?_
   refine e_LS (l.length - (k + 1)) (by omega) (by repeat (first | exact ag_refl | exact ag_ovr' | refine ag_upd rfl ?_ | refine ag_sub rfl ?_ | refine ag_kn (by assumption) ?_)) ?_
   first
     | exact ⟨k + 1, _, _, xs ++ [(k : Int)], by omega, rfl, rfl, sl_snoc _ _ _ _, by rw [hxs, commK_yes c30], hB, own_snoc ho34⟩
     | exact ⟨k + 1, _, _, xs, by omega, rfl, rfl, rfl, by rw [hxs, commK_no c30], hB, ho⟩
  ·
   refine c_skip ?_
   refine e_B ?_
   refine e_S ?_
   refine c_region ?_
   refine wl (r_add rfl rfl rfl (by omega)) ?_
   refine wl (r_mv (v := .int _ _) rfl) ?_
   refine x_nil ?_
   refine e_LS (l.length - (k + 1)) (by omega) (by repeat (first | exact ag_refl | exact ag_ovr' | refine ag_upd rfl ?_ | refine ag_sub rfl ?_ | refine ag_kn (by assumption) ?_)) ?_
   first
     | exact ⟨k + 1, _, _, xs ++ [(k : Int)], by omega, rfl, rfl, sl_snoc _ _ _ _, by rw [hxs, commK_yes c30], hB, own_snoc ho34⟩
     | exact ⟨k + 1, _, _, xs, by omega, rfl, rfl, rfl, by rw [hxs, commK_no c30], hB, ho⟩
 ·
  have hkl : k = l.length := by omega
  rw [hkl] at hxs
  have hxl := commK_le l a b l.length
  rw [← hxs] at hxl
  refine c_exit ?_
  refine e_Sx ?_
  refine e_LSx ?_
  refine e_Bx ?_
  refine e_S ?_
  refine c_seq ?_
  refine c_seq ?_
  refine c_region ?_
  refine wl (r_mv (v := .slice _ _ _) rfl) ?_
  refine wl (r_len Tryd.underlying33 rfl) ?_
  refine wl (r_mv (v := .int _ _) rfl) ?_
  refine x_nil ?_
  refine e_S ?_
  refine c_block ?_
  refine c_loopS [6, 7, 8, 12, 13, 15, 38, 39, 40, 41, 42, 43, 44, 45, 46, 47, 48, 49, 50, 51, 52, 53, 54, 55, 56, 57, 58] (fun m g w' => ∃ i : Nat, i ≤ xs.length ∧ m = xs.length - i ∧ g 38 = .int .i64 i ∧ Bel w w' ∧ Own w' w.heap.size 3 1 A9 (xs).length cap9 ((xs).map (Value.int .i64)) ∧ (∀ j (hj : j < xs.length), j < i → ∃ x, x < l.length ∧ comm l a b x = true ∧ sub l x (xs[j]).toNat = false)) (xs.length) ?_ (fun m g9 w7 hI => ?_)
  ·
   exact ⟨0, Nat.zero_le _, rfl, rfl, hB, ho, fun j hj h => by omega⟩
  obtain ⟨i, hi, hm, h38, hB, ho, hP⟩ := hI
  refine c_know 38 (.int .i64 i) h38 (by simp [undef]) ?_
  refine c_seq ?_
  refine c_region ?_
  refine wl (r_lss rfl rfl) ?_
  refine x_nil ?_
  refine e_S ?_
  refine c_seq ?_
  refine c_ifd rfl (fun c39 => ?_) (fun c39 => ?_)
  ·
   have hil : i < xs.length := by omega
   obtain ⟨mn, hmn, hml, hmc⟩ := commK_get hxs hil
   obtain ⟨pb, po, rfl, hpb, hpc⟩ := (own_ints ho).at_ hil
   rw [hmn] at hpc
   refine c_skip ?_
   refine e_S ?_
   refine c_seq ?_
   refine c_block ?_
   refine c_seq ?_
   refine c_region ?_
   refine wl (r_ia (i := i) Tryd.underlying33 sz3 rfl rfl (by omega) rfl) ?_
   refine wl (r_ld1 (v := .int _ _) Tryd.underlying3 rfl rfl hpc) ?_
   refine wl (r_as (v := .int _ _) rfl) ?_
   refine x_nil ?_
   refine e_S ?_
   refine c_seq ?_
   refine c_region ?_
   refine wl (r_as (v := .bool _) rfl) ?_
   refine x_nil ?_
   refine e_S ?_
   refine c_seq ?_
   refine c_seq ?_
   refine c_region ?_
   refine wl (r_mv (v := .slice _ _ _) rfl) ?_
   refine wl (r_len Tryd.underlying33 rfl) ?_
   refine wl (r_mv (v := .int _ _) rfl) ?_
   refine x_nil ?_
   refine e_S ?_
   refine c_block ?_
   refine c_loopS [13, 15, 44, 45, 46, 47, 48, 49, 50, 51, 52, 53, 54, 55] (fun m g w' => ∃ j : Nat, j ≤ xs.length ∧ m = xs.length - j ∧ g 44 = .int .i64 j ∧ g 13 = .bool (allB l xs mn j) ∧ Bel w w' ∧ Own w' w.heap.size 3 1 (some ⟨pb, po, none⟩) (xs).length cap9 ((xs).map (Value.int .i64))) (xs.length) ?_ (fun m g13 w8 hI => ?_)
   ·
    exact ⟨0, Nat.zero_le _, rfl, rfl, rfl, hB, ho⟩
   obtain ⟨j, hj, hm2, h44, h13, hB, ho⟩ := hI
   refine c_know 44 (.int .i64 j) h44 (by simp [undef]) ?_
   refine c_know 13 (.bool (allB l xs mn j)) h13 (by simp [undef]) ?_
   refine c_seq ?_
   refine c_region ?_
   refine wl (r_lss rfl rfl) ?_
   refine x_nil ?_
   refine e_S ?_
   refine c_seq ?_
   refine c_ifd rfl (fun c45 => ?_) (fun c45 => ?_)
   ·
    have hjl : j < xs.length := by omega
    obtain ⟨xn, hxn, hxl2, hxc⟩ := commK_get hxs hjl
    obtain ⟨qb, qo, he, hqb, hqc⟩ := (own_ints ho).at_ hjl
    cases he
    rw [hxn] at hqc
    refine c_skip ?_
    refine e_S ?_
    refine c_seq ?_
    refine c_block ?_
    refine c_seq ?_
    refine c_region ?_
    refine wl (r_ia (i := j) Tryd.underlying33 sz3 rfl rfl (by omega) rfl) ?_
    refine wl (r_ld1 (v := .int _ _) Tryd.underlying3 rfl rfl hqc) ?_
    refine wl (r_as (v := .int _ _) rfl) ?_
    refine x_nil ?_
    refine e_S ?_
    refine c_cutS [13, 48, 49, 50, 51, 52, 53, 54] (fun g w' => g 13 = .bool (allB l xs mn j && sub l xn mn) ∧ Bel w w' ∧ Own w' w.heap.size 3 1 (some ⟨pb, po, none⟩) (xs).length cap9 ((xs).map (Value.int .i64))) ?_ (fun g15 w9 hI => ?_)
    ·
     refine c_region ?_
     refine wl (r_mv (v := .bool _) rfl) ?_
     refine wl (r_mv (v := .bool _) rfl) ?_
     refine wl_cases 49 rfl (fun g49 => ?_) (fun g49 => ?_)
     ·
      refine wl_gd 49 rfl rfl ?_
      refine wl (r_mv (v := .slice _ _ _) rfl) ?_
      refine wl_gd 49 rfl rfl ?_
      refine wl (r_mv (v := .int _ _) rfl) ?_
      refine wl_gd 49 rfl rfl ?_
      refine wl (r_mv (v := .int _ _) rfl) ?_
      refine wl_gd 49 rfl rfl ?_
      refine wl_cl fn9_CMt (sub_any _ _ _ _ _ _ (hT.mono hB) hv h60 hxl2 hml) rfl (fun e' w10 hr => ?_)
      obtain ⟨rfl, hs⟩ := hr
      replace hs := Same.of_bel hs
      replace hB := hB.tr0 hs
      replace ho := ho.tr0 hs
      clear hs
      refine ⟨_, rfl, ?_⟩
      refine wl (r_pt (v := .bool _) rfl rfl) ?_
      refine wl (r_as (v := .bool _) rfl) ?_
      refine x_nil ?_
      refine e_R ⟨(by repeat (first | exact ag_refl | exact ag_ovr' | refine ag_upd rfl ?_ | refine ag_sub rfl ?_ | refine ag_kn (by assumption) ?_)), ?_⟩
      exact ⟨congrArg Value.bool (by simp [g49]), hB, ho⟩
     ·
      refine wlgn 49 rfl rfl rfl ?_
      refine wlgn 49 rfl rfl rfl ?_
      refine wlgn 49 rfl rfl rfl ?_
      refine wlgn 49 rfl rfl rfl ?_
      refine wl (r_pf (v := .bool _) rfl rfl) ?_
      refine wl (r_as (v := .bool _) rfl) ?_
      refine x_nil ?_
      refine e_R ⟨(by repeat (first | exact ag_refl | exact ag_ovr' | refine ag_upd rfl ?_ | refine ag_sub rfl ?_ | refine ag_kn (by assumption) ?_)), ?_⟩
      exact ⟨congrArg Value.bool (by simp [g49]), hB, ho⟩
    obtain ⟨h13, hB, ho⟩ := hI
    refine e_know 13 (.bool (allB l xs mn j && sub l xn mn)) h13 (by simp [undef]) ?_
    refine e_B ?_
    refine e_S ?_
    refine c_region ?_
    refine wl (r_add rfl rfl rfl (by omega)) ?_
    refine wl (r_mv (v := .int _ _) rfl) ?_
    refine x_nil ?_
    refine e_LS (xs.length - (j + 1)) (by omega) (by repeat (first | exact ag_refl | exact ag_ovr' | refine ag_upd rfl ?_ | refine ag_sub rfl ?_ | refine ag_kn (by assumption) ?_)) ?_
    exact ⟨j + 1, by omega, rfl, rfl, congrArg Value.bool (allB_succ hjl hxn), hB, ho⟩
   ·
    have hjx : j = xs.length := by omega
    subst hjx
    refine c_exit ?_
    refine e_Sx ?_
    refine e_LSx ?_
    refine e_Bx ?_
    refine e_S ?_
    refine c_seq ?_
    refine c_region ?_
    refine wl (r_mv (v := .bool _) rfl) ?_
    refine x_nil ?_
    refine e_S ?_
    refine c_if rfl (fun c56 => ?_) (fun c56 => ?_)
    ·
     have hmt := meet_is hv h60 hml hmc (fun x hx hc => by
       obtain ⟨jx, hjx, hex⟩ := commK_mem hxs hx hc
       exact allB_yes c56 hjx hex)
     refine c_seq ?_
     refine c_region ?_
     refine wl (r_mv (v := .int _ _) rfl) ?_
     refine wl (r_as (v := .int _ _) rfl) ?_
     refine wl (r_as (v := .bool _) rfl) ?_
     refine wl (r_as (v := .bool _) rfl) ?_
     refine x_nil ?_
     refine e_S ?_
     refine c_ret ?_
     refine e_Br ?_
     refine e_Sr ?_
     refine e_LSr ?_
     refine e_Br ?_
     refine e_Sr ?_
     refine fin3 (.inl rfl) rfl rfl rfl rfl ?_
     exact ⟨⟨true, by rw [hmt]; rfl⟩, hB⟩
    ·
     refine c_skip ?_
     refine e_B ?_
     refine e_S ?_
     refine c_region ?_
     refine wl (r_add rfl rfl rfl (by omega)) ?_
     refine wl (r_mv (v := .int _ _) rfl) ?_
     refine x_nil ?_
     refine e_LS (xs.length - (i + 1)) (by omega) (by repeat (first | exact ag_refl | exact ag_ovr' | refine ag_upd rfl ?_ | refine ag_sub rfl ?_ | refine ag_kn (by assumption) ?_)) ?_
     refine ⟨i + 1, by omega, rfl, rfl, hB, ho, fun j hj hji => ?_⟩
     by_cases e : j = i
     · subst e
       obtain ⟨x, h1, h2, h3⟩ := allB_no hxs c56
       exact ⟨x, h1, h2, by rw [hmn]; exact h3⟩
     · exact hP j hj (by omega)
  ·
   have hil : i = xs.length := by omega
   refine c_exit ?_
   refine e_Sx ?_
   refine e_LSx ?_
   refine e_Bx ?_
   refine e_S ?_
   refine c_seq ?_
   refine c_region ?_
   refine wl (r_mv (v := .slice _ _ _) rfl) ?_
   refine wl (r_len Tryd.underlying33 rfl) ?_
   refine wl (r_gtr rfl rfl) ?_
   refine wl (r_as (v := .int _ _) rfl) ?_
   refine wl (r_as (v := .bool _) rfl) ?_
   refine wl (r_as (v := .bool _) rfl) ?_
   refine x_nil ?_
   refine e_S ?_
   refine c_ret ?_
   refine fin3 (.inl rfl) rfl rfl rfl rfl ?_
   have hno := meet_none_of hv h60 (fun m hm hc => by
     obtain ⟨jx, hjx, hex⟩ := commK_mem hxs hm hc
     obtain ⟨x, h1, h2, h3⟩ := hP jx hjx (by omega)
     rw [hex] at h3
     exact ⟨x, h1, h2, h3⟩)
   exact ⟨⟨decide (0 < (xs.length : Int)), by rw [hno.1, hno.2]; rfl⟩, hB⟩
end Go.Proofs.YtahdbbgkgokkhaaDoor
