/- What these functions of the program compute, at every world: glosswright/glosswrightref3.Name, glosswright/glosswrightref3.TypesFault. -/
import Derived.Test.YtahdbbgkgokkhaaDoorTypes
namespace Go.Proofs.YtahdbbgkgokkhaaDoor
open Go.RowKit

theorem seen_yes {l : List Ty} {j k : Nat} {s : ByteArray} (hk : k < l.length) (hj : j < k) (h : (l[j]'(by omega)).name = s) : seen ((l.take k).map (·.name)) s = true := by
  simp only [seen, List.any_eq_true, decide_eq_true_eq, List.mem_map]
  refine ⟨_, ⟨l[j]'(by omega), ?_, rfl⟩, h⟩
  rw [List.mem_take_iff_getElem]
  exact ⟨j, by omega, rfl⟩

theorem fn27 : callable Tryd.prog 27 = true := by kernel_rfl
theorem sz5 : (Tryd.prog.info? 5).map (·.size) = some 1 := by kernel_rfl
theorem rname_any (s : ByteArray) (w : World) : Calls Tryd.prog 27 #[.string s] w fun e w' => e = .returned (.bool (isName s)) ∧ Bel w w' := by
 obtain ⟨c0, e0⟩ := hd_num s
 have hN := Lib.hid (isName_eq s c0 e0)
 refine enter Tryd.func27 Tryd.ntmps27 rfl (Nat.le_of_ble_eq_true rfl) ?_
 have hB : Bel w w := Below.refl _ _
 refine c_seq ?_
 refine c_region ?_
 refine wl (r_as (v := .bool _) rfl) ?_
 refine x_nil ?_
 refine e_S ?_
 refine c_seq ?_
 refine c_seq ?_
 refine c_cut1 [7, 8, 9, 10, 11, 12, 13, 14] 14 (.bool (decide (s.size < 1 ∨ 30 < s.size))) (by simp [undef]) ?_ (fun gq => ?_)
 ·
  refine c_region ?_
  refine wl (r_mv (v := .string _) rfl) ?_
  refine wl (r_lenS Tryd.underlying9 rfl) ?_
  refine wl (r_lss rfl rfl) ?_
  refine wl (r_mv (v := .bool _) rfl) ?_
  refine wl_casesd 10 rfl (fun g10 => ?_) (fun g10 => ?_)
  ·
   refine wlgn 10 rfl rfl rfl ?_
   refine wlgn 10 rfl rfl rfl ?_
   refine wlgn 10 rfl rfl rfl ?_
   refine wl (r_pt (v := .bool _) rfl rfl) ?_
   refine x_nil (e_R ⟨rfl, (by repeat (first | exact ag_refl | exact ag_ovr' | refine ag_upd rfl ?_ | refine ag_sub rfl ?_ | refine ag_kn (by assumption) ?_)), ?_⟩)
   show Value.bool _ = Value.bool _
   first | exact congrArg Value.bool (decide_eq_true (by omega)).symm | exact congrArg Value.bool (decide_eq_false (by omega)).symm | exact congrArg Value.bool (decide_eq_decide.2 (by omega)) | exact congrArg Value.bool ((decide_not).symm.trans (decide_eq_decide.2 (by omega)))
  ·
   refine wl_gd 10 rfl rfl ?_
   refine wl (r_mv (v := .string _) rfl) ?_
   refine wl_gd 10 rfl rfl ?_
   refine wl (r_lenS Tryd.underlying9 rfl) ?_
   refine wl_gd 10 rfl rfl ?_
   refine wl (r_gtr rfl rfl) ?_
   refine wl (r_pf (v := .bool _) rfl rfl) ?_
   refine x_nil (e_R ⟨rfl, (by repeat (first | exact ag_refl | exact ag_ovr' | refine ag_upd rfl ?_ | refine ag_sub rfl ?_ | refine ag_kn (by assumption) ?_)), ?_⟩)
   show Value.bool _ = Value.bool _
   first | exact congrArg Value.bool (decide_eq_true (by omega)).symm | exact congrArg Value.bool (decide_eq_false (by omega)).symm | exact congrArg Value.bool (decide_eq_decide.2 (by omega)) | exact congrArg Value.bool ((decide_not).symm.trans (decide_eq_decide.2 (by omega)))
 refine e_S ?_
 refine c_ifd rfl (fun c14 => ?_) (fun c14 => ?_)
 ·
  refine c_seq ?_
  refine c_region ?_
  refine wl (r_as (v := .bool _) rfl) ?_
  refine x_nil ?_
  refine e_S ?_
  refine c_ret ?_
  refine e_Sr ?_
  refine fin1 (.inl rfl) rfl rfl ?_
  exact ⟨ret_bool (by rw [hN.out]; exact decide_eq_false (fun h => by omega)), hB⟩
 ·
  refine c_skip ?_
  refine e_S ?_
  refine c_seq ?_
  refine c_seq ?_
  refine c_region ?_
  refine wl (r_mv (v := .string _) rfl) ?_
  refine wl_cvB Tryd.underlying9 Tryd.underlying82 Tryd.underlying5 rfl (fun b16 c16 w1 hc16 hs hr => ?_)
  have lo16 := Nat.le_trans (Bel.size hB) hr
  replace hB := hB.tr0 hs
  clear hs
  refine wl (r_len Tryd.underlying82 rfl) ?_
  refine wl (r_mv (v := .int _ _) rfl) ?_
  refine x_nil ?_
  refine e_S ?_
  refine c_block ?_
  refine c_loopS [2, 3, 4, 5, 6, 18, 19, 20, 21, 22, 23, 24, 25, 26, 27, 28, 29, 30, 31, 32, 33, 34, 35, 36, 37, 38, 39, 40, 41, 42, 43, 44, 45, 46, 47, 48, 49, 50, 51, 52, 53] (fun m g w' => ∃ k : Nat, k ≤ s.size ∧ m = s.size - k ∧ g 18 = .int .i64 k ∧ w1 = w' ∧ (0 < k → 97 ≤ c0 ∧ c0 ≤ 122) ∧ (∀ j (hj : j < s.size), j < k → nameCh (s[j]'hj) = true)) (s.size) ?_ (fun m g4 w2 hI => ?_)
  ·
   exact ⟨0, Nat.zero_le _, rfl, rfl, rfl, fun h => by omega, fun j hj h => by omega⟩
  obtain ⟨k, hk, hm, h18, rfl, hz, hall⟩ := hI
  refine c_know 18 (.int .i64 k) h18 (by simp [undef]) ?_
  refine c_seq ?_
  refine c_region ?_
  refine wl (r_lss rfl rfl) ?_
  refine x_nil ?_
  refine e_S ?_
  refine c_seq ?_
  refine c_ifd rfl (fun c19 => ?_) (fun c19 => ?_)
  ·
   refine c_skip ?_
   refine e_S ?_
   refine c_seq ?_
   refine c_block ?_
   refine c_seq ?_
   refine c_region ?_
   refine wl (r_mv (v := .int _ _) rfl) ?_
   refine wl (r_ia (i := k) Tryd.underlying82 sz5 rfl rfl (by omega) rfl) ?_
   refine wl (r_ld1 (v := .int _ _) Tryd.underlying5 rfl rfl (hc16 k (by omega))) ?_
   refine wl (r_as (v := .int _ _) rfl) ?_
   refine wl (r_as (v := .int _ _) rfl) ?_
   refine x_nil ?_
   refine e_S ?_
   refine c_seq ?_
   refine c_cut1 [5, 23, 24, 25, 26, 27, 28] 5 (.bool (decide (97 ≤ (s[k]'(by omega)).toNat ∧ (s[k]'(by omega)).toNat ≤ 122))) (by simp [undef]) ?_ (fun gq => ?_)
   ·
    refine c_region ?_
    refine wl (r_mv (v := .int _ _) rfl) ?_
    refine wl (r_geq rfl rfl) ?_
    refine wl (r_mv (v := .bool _) rfl) ?_
    refine wl_casesd 25 rfl (fun g25 => ?_) (fun g25 => ?_)
    ·
     refine wl_gd 25 rfl rfl ?_
     refine wl (r_mv (v := .int _ _) rfl) ?_
     refine wl_gd 25 rfl rfl ?_
     refine wl (r_leq rfl rfl) ?_
     refine wl (r_pt (v := .bool _) rfl rfl) ?_
     refine wl (r_as (v := .bool _) rfl) ?_
     refine x_nil (e_R ⟨rfl, (by repeat (first | exact ag_refl | exact ag_ovr' | refine ag_upd rfl ?_ | refine ag_sub rfl ?_ | refine ag_kn (by assumption) ?_)), ?_⟩)
     show Value.bool _ = Value.bool _
     first | exact congrArg Value.bool (decide_eq_true (by omega)).symm | exact congrArg Value.bool (decide_eq_false (by omega)).symm | exact congrArg Value.bool (decide_eq_decide.2 (by omega)) | exact congrArg Value.bool ((decide_not).symm.trans (decide_eq_decide.2 (by omega)))
    ·
     refine wlgn 25 rfl rfl rfl ?_
     refine wlgn 25 rfl rfl rfl ?_
     refine wl (r_pf (v := .bool _) rfl rfl) ?_
     refine wl (r_as (v := .bool _) rfl) ?_
     refine x_nil (e_R ⟨rfl, (by repeat (first | exact ag_refl | exact ag_ovr' | refine ag_upd rfl ?_ | refine ag_sub rfl ?_ | refine ag_kn (by assumption) ?_)), ?_⟩)
     show Value.bool _ = Value.bool _
     first | exact congrArg Value.bool (decide_eq_true (by omega)).symm | exact congrArg Value.bool (decide_eq_false (by omega)).symm | exact congrArg Value.bool (decide_eq_decide.2 (by omega)) | exact congrArg Value.bool ((decide_not).symm.trans (decide_eq_decide.2 (by omega)))
   refine e_S ?_
   refine c_seq ?_
   refine c_cut1 [6, 29, 30, 31, 32, 33, 34, 35, 36, 37, 38, 39, 40, 41, 42] 6 (.bool (decide ((48 ≤ (s[k]'(by omega)).toNat ∧ (s[k]'(by omega)).toNat ≤ 57) ∨ (s[k]'(by omega)).toNat = 95 ∨ (s[k]'(by omega)).toNat = 45))) (by simp [undef]) ?_ (fun gq => ?_)
   ·
    refine c_region ?_
    refine wl (r_mv (v := .int _ _) rfl) ?_
    refine wl (r_geq rfl rfl) ?_
    refine wl (r_mv (v := .bool _) rfl) ?_
    refine wl_casesd 31 rfl (fun g31 => ?_) (fun g31 => ?_)
    ·
     refine wl_gd 31 rfl rfl ?_
     refine wl (r_mv (v := .int _ _) rfl) ?_
     refine wl_gd 31 rfl rfl ?_
     refine wl (r_leq rfl rfl) ?_
     refine wl (r_pt (v := .bool _) rfl rfl) ?_
     refine wl (r_mv (v := .bool _) rfl) ?_
     refine wl_casesd 35 rfl (fun g35 => ?_) (fun g35 => ?_)
     ·
      refine wlgn 35 rfl rfl rfl ?_
      refine wlgn 35 rfl rfl rfl ?_
      refine wl (r_pt (v := .bool _) rfl rfl) ?_
      refine wl (r_mv (v := .bool _) rfl) ?_
      refine wlgn 39 rfl rfl rfl ?_
      refine wlgn 39 rfl rfl rfl ?_
      refine wl (r_pt (v := .bool _) rfl rfl) ?_
      refine wl (r_as (v := .bool _) rfl) ?_
      refine x_nil (e_R ⟨rfl, (by repeat (first | exact ag_refl | exact ag_ovr' | refine ag_upd rfl ?_ | refine ag_sub rfl ?_ | refine ag_kn (by assumption) ?_)), ?_⟩)
      show Value.bool _ = Value.bool _
      first | exact congrArg Value.bool (decide_eq_true (by omega)).symm | exact congrArg Value.bool (decide_eq_false (by omega)).symm | exact congrArg Value.bool (decide_eq_decide.2 (by omega)) | exact congrArg Value.bool ((decide_not).symm.trans (decide_eq_decide.2 (by omega)))
     ·
      refine wl_gd 35 rfl rfl ?_
      refine wl (r_mv (v := .int _ _) rfl) ?_
      refine wl_gd 35 rfl rfl ?_
      refine wl (r_eql rfl rfl) ?_
      refine wl (r_pf (v := .bool _) rfl rfl) ?_
      refine wl (r_mv (v := .bool _) rfl) ?_
      refine wl_casesd 39 rfl (fun g39 => ?_) (fun g39 => ?_)
      ·
       refine wlgn 39 rfl rfl rfl ?_
       refine wlgn 39 rfl rfl rfl ?_
       refine wl (r_pt (v := .bool _) rfl rfl) ?_
       refine wl (r_as (v := .bool _) rfl) ?_
       refine x_nil (e_R ⟨rfl, (by repeat (first | exact ag_refl | exact ag_ovr' | refine ag_upd rfl ?_ | refine ag_sub rfl ?_ | refine ag_kn (by assumption) ?_)), ?_⟩)
       show Value.bool _ = Value.bool _
       first | exact congrArg Value.bool (decide_eq_true (by omega)).symm | exact congrArg Value.bool (decide_eq_false (by omega)).symm | exact congrArg Value.bool (decide_eq_decide.2 (by omega)) | exact congrArg Value.bool ((decide_not).symm.trans (decide_eq_decide.2 (by omega)))
      ·
       refine wl_gd 39 rfl rfl ?_
       refine wl (r_mv (v := .int _ _) rfl) ?_
       refine wl_gd 39 rfl rfl ?_
       refine wl (r_eql rfl rfl) ?_
       refine wl (r_pf (v := .bool _) rfl rfl) ?_
       refine wl (r_as (v := .bool _) rfl) ?_
       refine x_nil (e_R ⟨rfl, (by repeat (first | exact ag_refl | exact ag_ovr' | refine ag_upd rfl ?_ | refine ag_sub rfl ?_ | refine ag_kn (by assumption) ?_)), ?_⟩)
       show Value.bool _ = Value.bool _
       first | exact congrArg Value.bool (decide_eq_true (by omega)).symm | exact congrArg Value.bool (decide_eq_false (by omega)).symm | exact congrArg Value.bool (decide_eq_decide.2 (by omega)) | exact congrArg Value.bool ((decide_not).symm.trans (decide_eq_decide.2 (by omega)))
    ·
     refine wlgn 31 rfl rfl rfl ?_
     refine wlgn 31 rfl rfl rfl ?_
     refine wl (r_pf (v := .bool _) rfl rfl) ?_
     refine wl (r_mv (v := .bool _) rfl) ?_
     refine wl_gd 35 rfl rfl ?_
     refine wl (r_mv (v := .int _ _) rfl) ?_
     refine wl_gd 35 rfl rfl ?_
     refine wl (r_eql rfl rfl) ?_
     refine wl (r_pf (v := .bool _) rfl rfl) ?_
     refine wl (r_mv (v := .bool _) rfl) ?_
     refine wl_casesd 39 rfl (fun g39 => ?_) (fun g39 => ?_)
     ·
      refine wlgn 39 rfl rfl rfl ?_
      refine wlgn 39 rfl rfl rfl ?_
      refine wl (r_pt (v := .bool _) rfl rfl) ?_
      refine wl (r_as (v := .bool _) rfl) ?_
      refine x_nil (e_R ⟨rfl, (by repeat (first | exact ag_refl | exact ag_ovr' | refine ag_upd rfl ?_ | refine ag_sub rfl ?_ | refine ag_kn (by assumption) ?_)), ?_⟩)
      show Value.bool _ = Value.bool _
      first | exact congrArg Value.bool (decide_eq_true (by omega)).symm | exact congrArg Value.bool (decide_eq_false (by omega)).symm | exact congrArg Value.bool (decide_eq_decide.2 (by omega)) | exact congrArg Value.bool ((decide_not).symm.trans (decide_eq_decide.2 (by omega)))
     ·
      refine wl_gd 39 rfl rfl ?_
      refine wl (r_mv (v := .int _ _) rfl) ?_
      refine wl_gd 39 rfl rfl ?_
      refine wl (r_eql rfl rfl) ?_
      refine wl (r_pf (v := .bool _) rfl rfl) ?_
      refine wl (r_as (v := .bool _) rfl) ?_
      refine x_nil (e_R ⟨rfl, (by repeat (first | exact ag_refl | exact ag_ovr' | refine ag_upd rfl ?_ | refine ag_sub rfl ?_ | refine ag_kn (by assumption) ?_)), ?_⟩)
      show Value.bool _ = Value.bool _
      first | exact congrArg Value.bool (decide_eq_true (by omega)).symm | exact congrArg Value.bool (decide_eq_false (by omega)).symm | exact congrArg Value.bool (decide_eq_decide.2 (by omega)) | exact congrArg Value.bool ((decide_not).symm.trans (decide_eq_decide.2 (by omega)))
   refine e_S ?_
   refine c_seq ?_
   refine c_cut1 [43, 44, 45, 46, 47, 48, 49, 50, 51, 52] 52 (.bool (decide (¬ (97 ≤ (s[k]'(by omega)).toNat ∧ (s[k]'(by omega)).toNat ≤ 122) ∧ (¬ ((48 ≤ (s[k]'(by omega)).toNat ∧ (s[k]'(by omega)).toNat ≤ 57) ∨ (s[k]'(by omega)).toNat = 95 ∨ (s[k]'(by omega)).toNat = 45) ∨ k = 0)))) (by simp [undef]) ?_ (fun gq => ?_)
   ·
    refine c_region ?_
    refine wl (r_mv (v := .bool _) rfl) ?_
    refine wl (r_notd rfl) ?_
    refine wl (r_mv (v := .bool _) rfl) ?_
    refine wl_casesd 45 rfl (fun g45 => ?_) (fun g45 => ?_)
    ·
     refine wl_gd 45 rfl rfl ?_
     refine wl (r_mv (v := .bool _) rfl) ?_
     refine wl_gd 45 rfl rfl ?_
     refine wl (r_notd rfl) ?_
     refine wl_gd 45 rfl rfl ?_
     refine wl (r_mv (v := .bool _) rfl) ?_
     refine wl_casesd 48 rfl (fun g48 => ?_) (fun g48 => ?_)
     ·
      refine wlgn 48 rfl rfl rfl ?_
      refine wlgn 48 rfl rfl rfl ?_
      refine wl_gd 45 rfl rfl ?_
      refine wl (r_pt (v := .bool _) rfl rfl) ?_
      refine wl (r_pt (v := .bool _) rfl rfl) ?_
      refine x_nil (e_R ⟨rfl, (by repeat (first | exact ag_refl | exact ag_ovr' | refine ag_upd rfl ?_ | refine ag_sub rfl ?_ | refine ag_kn (by assumption) ?_)), ?_⟩)
      show Value.bool _ = Value.bool _
      first | exact congrArg Value.bool (decide_eq_true (by omega)).symm | exact congrArg Value.bool (decide_eq_false (by omega)).symm | exact congrArg Value.bool (decide_eq_decide.2 (by omega)) | exact congrArg Value.bool ((decide_not).symm.trans (decide_eq_decide.2 (by omega)))
     ·
      refine wl_gd 48 rfl rfl ?_
      refine wl (r_mv (v := .int _ _) rfl) ?_
      refine wl_gd 48 rfl rfl ?_
      refine wl (r_eql rfl rfl) ?_
      refine wl_gd 45 rfl rfl ?_
      refine wl (r_pf (v := .bool _) rfl rfl) ?_
      refine wl (r_pt (v := .bool _) rfl rfl) ?_
      refine x_nil (e_R ⟨rfl, (by repeat (first | exact ag_refl | exact ag_ovr' | refine ag_upd rfl ?_ | refine ag_sub rfl ?_ | refine ag_kn (by assumption) ?_)), ?_⟩)
      show Value.bool _ = Value.bool _
      first | exact congrArg Value.bool (decide_eq_true (by omega)).symm | exact congrArg Value.bool (decide_eq_false (by omega)).symm | exact congrArg Value.bool (decide_eq_decide.2 (by omega)) | exact congrArg Value.bool ((decide_not).symm.trans (decide_eq_decide.2 (by omega)))
    ·
     refine wlgn 45 rfl rfl rfl ?_
     refine wlgn 45 rfl rfl rfl ?_
     refine wlgn 45 rfl rfl rfl ?_
     refine wlgu 48 rfl rfl ?_
     refine wlgu 48 rfl rfl ?_
     refine wlgn 45 rfl rfl rfl ?_
     refine wl (r_pf (v := .bool _) rfl rfl) ?_
     refine x_nil (e_R ⟨rfl, (by repeat (first | exact ag_refl | exact ag_ovr' | refine ag_upd rfl ?_ | refine ag_sub rfl ?_ | refine ag_kn (by assumption) ?_)), ?_⟩)
     show Value.bool _ = Value.bool _
     first | exact congrArg Value.bool (decide_eq_true (by omega)).symm | exact congrArg Value.bool (decide_eq_false (by omega)).symm | exact congrArg Value.bool (decide_eq_decide.2 (by omega)) | exact congrArg Value.bool ((decide_not).symm.trans (decide_eq_decide.2 (by omega)))
   refine e_S ?_
   refine c_ifd rfl (fun c52 => ?_) (fun c52 => ?_)
   ·
    have hno : ¬ ((97 ≤ c0 ∧ c0 ≤ 122) ∧ ∀ j (hj : j < s.size), nameCh (s[j]'hj) = true) := fun h => by
      have h1 := (nameCh_iff _).1 (h.2 k (by omega))
      have h2 : k = 0 := by omega
      subst h2
      have := e0 (by omega)
      omega
    refine c_seq ?_
    refine c_region ?_
    refine wl (r_as (v := .bool _) rfl) ?_
    refine x_nil ?_
    refine e_S ?_
    refine c_ret ?_
    refine e_Br ?_
    refine e_Sr ?_
    refine e_LSr ?_
    refine e_Br ?_
    refine e_Sr ?_
    refine fin1 (.inl rfl) rfl rfl ?_
    exact ⟨ret_bool (by rw [hN.out]; exact decide_eq_false (fun h => hno h.2)), hB⟩
   ·
    have hz' : 97 ≤ c0 ∧ c0 ≤ 122 := by
      by_cases e : k = 0
      · subst e; have := e0 (by omega); omega
      · exact hz (by omega)
    have hall' : ∀ j (hj : j < s.size), j < k + 1 → nameCh (s[j]'hj) = true := fun j hj h => by
      by_cases e : j = k
      · subst e; exact (nameCh_iff _).2 (by omega)
      · exact hall j hj (by omega)
    refine c_skip ?_
    refine e_B ?_
    refine e_S ?_
    refine c_region ?_
    refine wl (r_add rfl rfl rfl (by omega)) ?_
    refine wl (r_mv (v := .int _ _) rfl) ?_
    refine x_nil ?_
    refine e_LS (s.size - (k + 1)) (by omega) (by repeat (first | exact ag_refl | exact ag_ovr' | refine ag_upd rfl ?_ | refine ag_sub rfl ?_ | refine ag_kn (by assumption) ?_)) ?_
    exact ⟨k + 1, by omega, rfl, rfl, rfl, fun _ => hz', fun j hj h => hall' j hj h⟩
  ·
   refine c_exit ?_
   refine e_Sx ?_
   refine e_LSx ?_
   refine e_Bx ?_
   refine e_S ?_
   refine c_seq ?_
   refine c_region ?_
   refine wl (r_as (v := .bool _) rfl) ?_
   refine x_nil ?_
   refine e_S ?_
   refine c_ret ?_
   refine fin1 (.inl rfl) rfl rfl ?_
   exact ⟨ret_bool (by rw [hN.out]; exact decide_eq_true ⟨by omega, hz (by omega), fun j hj => hall j hj (by omega)⟩), hB⟩

theorem typesFault_any (A : Option Addr) (c : Nat) (l : List Ty) (w : World) (hc : l.length ≤ c) (hT : TypesIn w A l) : Calls Tryd.prog 7 #[.slice A l.length c] w fun e w' => e = .returned (flV (typesFault l)) ∧ Bel w w' := by
 refine enter Tryd.func7 Tryd.ntmps7 rfl (Nat.le_of_ble_eq_true rfl) ?_
 have hB : Bel w w := Below.refl _ _
 refine c_seq ?_
 refine c_region ?_
 refine wl_al (cs := #[.int .i64 0, .int .i64 0]) ze24 rfl (fun b2 w1 hb2 hs hr => ?_)
 have lo2 := Nat.le_trans (Bel.size hB) hr
 replace hB := hB.tr0 hs
 clear hs
 clear hr
 refine x_nil ?_
 refine e_S ?_
 refine c_seq ?_
 refine c_seq ?_
 refine c_cut1 [9, 10, 11, 12, 13, 14, 15, 16] 16 (.bool (decide (l.length = 0 ∨ 60 < l.length))) (by simp [undef]) ?_ (fun gq => ?_)
 ·
  refine c_region ?_
  refine wl (r_mv (v := .slice _ _ _) rfl) ?_
  refine wl (r_len Tryd.underlying22 rfl) ?_
  refine wl (r_eql rfl rfl) ?_
  refine wl (r_mv (v := .bool _) rfl) ?_
  refine wl_casesd 12 rfl (fun g12 => ?_) (fun g12 => ?_)
  ·
   refine wlgn 12 rfl rfl rfl ?_
   refine wlgn 12 rfl rfl rfl ?_
   refine wlgn 12 rfl rfl rfl ?_
   refine wl (r_pt (v := .bool _) rfl rfl) ?_
   refine x_nil (e_R ⟨rfl, (by repeat (first | exact ag_refl | exact ag_ovr' | refine ag_upd rfl ?_ | refine ag_sub rfl ?_ | refine ag_kn (by assumption) ?_)), ?_⟩)
   show Value.bool _ = Value.bool _
   first | exact congrArg Value.bool (decide_eq_true (by omega)).symm | exact congrArg Value.bool (decide_eq_false (by omega)).symm | exact congrArg Value.bool (decide_eq_decide.2 (by omega)) | exact congrArg Value.bool ((decide_not).symm.trans (decide_eq_decide.2 (by omega)))
  ·
   refine wl_gd 12 rfl rfl ?_
   refine wl (r_mv (v := .slice _ _ _) rfl) ?_
   refine wl_gd 12 rfl rfl ?_
   refine wl (r_len Tryd.underlying22 rfl) ?_
   refine wl_gd 12 rfl rfl ?_
   refine wl (r_gtr rfl rfl) ?_
   refine wl (r_pf (v := .bool _) rfl rfl) ?_
   refine x_nil (e_R ⟨rfl, (by repeat (first | exact ag_refl | exact ag_ovr' | refine ag_upd rfl ?_ | refine ag_sub rfl ?_ | refine ag_kn (by assumption) ?_)), ?_⟩)
   show Value.bool _ = Value.bool _
   first | exact congrArg Value.bool (decide_eq_true (by omega)).symm | exact congrArg Value.bool (decide_eq_false (by omega)).symm | exact congrArg Value.bool (decide_eq_decide.2 (by omega)) | exact congrArg Value.bool ((decide_not).symm.trans (decide_eq_decide.2 (by omega)))
 refine e_S ?_
 refine c_ifd rfl (fun c16 => ?_) (fun c16 => ?_)
 ·
  refine c_seq ?_
  refine c_region ?_
  refine wl (r_bd2 (v0 := .int _ _) (v1 := .int _ _) (fun v0 v1 => #[v0, v1]) rfl rfl (by kernel_rfl)) ?_
  refine wl_stW hb2 rfl rfl sz24 rfl (by repeat (first | rfl | refine one_cons (by first | rfl | assumption) ?_)) (fun w2 hq hs => ?_)
  replace hB := hB.tr1 hs lo2
  clear hs
  replace hb2 := hq
  refine x_nil ?_
  refine e_S ?_
  refine c_ret ?_
  refine e_Sr ?_
  refine fin1 (.inl rfl) rfl (rr_cell Tryd.underlying24 rfl rfl hb2.range0 sz24) ?_
  exact ⟨ret_fl (by simp only [typesFault, if_pos c16]), hB⟩
 ·
  have hR := Lib.hid (show typesFault l = firstF (tyFault l) 0 (l.length - 0) by simp only [typesFault, if_neg c16, Nat.sub_zero])
  refine c_skip ?_
  refine e_S ?_
  refine c_seq ?_
  refine c_seq ?_
  refine c_region ?_
  refine wl (r_mv (v := .slice _ _ _) rfl) ?_
  refine wl (r_len Tryd.underlying22 rfl) ?_
  refine wl (r_mv (v := .int _ _) rfl) ?_
  refine x_nil ?_
  refine e_S ?_
  refine c_block ?_
  refine c_loopS [3, 4, 6, 7, 8, 20, 21, 22, 23, 24, 25, 26, 27, 28, 29, 30, 31, 32, 33, 34, 35, 36, 37, 38, 39, 40, 41, 42, 43, 44, 45, 46, 47, 48, 49, 50, 51, 52, 53, 54, 55, 56, 57, 58, 59, 60, 61, 62, 63, 64, 65, 66, 67, 68, 69, 70, 71, 72, 73, 74, 75, 76, 77, 78, 79, 80, 81, 82, 83, 84, 85, 86, 87, 88] (fun m g w' => ∃ (k : Nat), k ≤ l.length ∧ m = l.length - k ∧ g 20 = .int .i64 k ∧ Bel w w' ∧ Blk w' b2 24 #[.int .i64 0, .int .i64 0] ∧ typesFault l = firstF (tyFault l) k (l.length - k)) (l.length) ?_ (fun m g4 w3 hI => ?_)
  ·
   exact ⟨0, Nat.zero_le _, rfl, rfl, hB, hb2, hR.out⟩
  obtain ⟨k, hk, hm, h20, hB, hb2, hR'⟩ := hI
  refine c_know 20 (.int .i64 k) h20 (by simp [undef]) ?_
  refine c_seq ?_
  refine c_region ?_
  refine wl (r_lss rfl rfl) ?_
  refine x_nil ?_
  refine e_S ?_
  refine c_seq ?_
  refine c_ifd rfl (fun c21 => ?_) (fun c21 => ?_)
  ·
   have hlt : k < l.length := by omega
   obtain ⟨tb, to, A', cp, rfl, htb, htr, hpar⟩ := hT.at_ hB hlt
   refine c_skip ?_
   refine e_S ?_
   refine c_seq ?_
   refine c_block ?_
   refine c_seq ?_
   refine c_region ?_
   refine wl (r_mv (v := .int _ _) rfl) ?_
   refine wl (r_ia (i := k) Tryd.underlying22 sz35 rfl rfl (by omega) rfl) ?_
   refine wl (r_ldS Tryd.underlying35 rfl rfl htr sz35) ?_
   refine wl_al (cs := #[.string ⟨#[]⟩, .slice none 0 0]) ze35 rfl (fun b4 w4 hb4 hs hr => ?_)
   have or_b2_b4 : b2 < b4 := Nat.lt_of_lt_of_le hb2.lt hr
   have lo4 := Nat.le_trans (Bel.size hB) hr
   replace hB := hB.tr0 hs
   replace hb2 := hb2.tr0 hs
   clear hs
   clear hr
   refine wl (r_as (v := .int _ _) rfl) ?_
   refine wl_stW hb4 rfl rfl sz35 rfl (by repeat (first | rfl | refine one_cons (by first | rfl | assumption) ?_)) (fun w5 hq hs => ?_)
   replace hB := hB.tr1 hs lo4
   replace hb2 := hb2.tr1 hs (by omega)
   clear hs
   replace hb4 := hq
   refine x_nil ?_
   refine e_S ?_
   refine c_seq ?_
   refine c_seq ?_
   refine c_region ?_
   refine wl (r_fa Tryd.underlying35 sz9 (by decide) rfl rfl rfl) ?_
   refine wl (r_ld1 (v := .string _) Tryd.underlying9 rfl rfl (hb4.cell rfl)) ?_
   refine wl_cl fn27 (rname_any _ _) rfl (fun e' w6 hr => ?_)
   obtain ⟨rfl, hs⟩ := hr
   replace hs := Same.of_bel hs
   replace hB := hB.tr0 hs
   replace hb2 := hb2.tr0 hs
   replace hb4 := hb4.tr0 hs
   clear hs
   refine ⟨_, rfl, ?_⟩
   refine wl (r_not rfl) ?_
   refine x_nil ?_
   refine e_S ?_
   refine c_if rfl (fun c28 => ?_) (fun c28 => ?_)
   ·
    have hty := ty10 l k hlt (by simpa using c28)
    refine c_seq ?_
    refine c_region ?_
    refine wl (r_mv (v := .int _ _) rfl) ?_
    refine wl (r_bd2 (v0 := .int _ _) (v1 := .int _ _) (fun v0 v1 => #[v0, v1]) rfl rfl (by kernel_rfl)) ?_
    refine wl_stW hb2 rfl rfl sz24 rfl (by repeat (first | rfl | refine one_cons (by first | rfl | assumption) ?_)) (fun w7 hq hs => ?_)
    replace hB := hB.tr1 hs lo2
    replace hb4 := hb4.tr1 hs (by omega)
    clear hs
    replace hb2 := hq
    refine x_nil ?_
    refine e_S ?_
    refine c_ret ?_
    refine e_Sr ?_
    refine e_Br ?_
    refine e_Sr ?_
    refine e_LSr ?_
    refine e_Br ?_
    refine e_Sr ?_
    refine fin1 (.inl rfl) rfl (rr_cell Tryd.underlying24 rfl rfl hb2.range0 sz24) ?_
    exact ⟨ret_fl (hR'.trans (firstF_hit (c := 10) (by omega) hty (by decide))), hB⟩
   ·
    have hnm : isName (l[k]'hlt).name = true := by simpa using c28
    refine c_skip ?_
    refine e_S ?_
    refine c_seq ?_
    refine c_seq ?_
    refine c_region ?_
    refine wl (r_mv (v := .slice _ _ _) rfl) ?_
    refine wl (r_mv (v := .int _ _) rfl) ?_
    refine wl (r_slH (h := k) Tryd.underlying22 sz35 rfl rfl (by omega)) ?_
    refine wl (r_len Tryd.underlying22 rfl) ?_
    refine wl (r_mv (v := .int _ _) rfl) ?_
    refine x_nil ?_
    refine e_S ?_
    refine c_block ?_
    refine c_loopS [6, 35, 36, 37, 38, 39, 40, 41, 42, 43, 44, 45, 46] (fun m g w' => ∃ (j : Nat), j ≤ k ∧ m = k - j ∧ g 35 = .int .i64 j ∧ Bel w w' ∧ Blk w' b2 24 #[.int .i64 0, .int .i64 0] ∧ Blk w' b4 35 #[.string (l[k]'hlt).name, .slice A' (l[k]'hlt).par.length cp] ∧ seen ((l.take j).map (·.name)) (l[k]'hlt).name = false) (k) ?_ (fun m g9 w8 hI => ?_)
    ·
     exact ⟨0, Nat.zero_le _, rfl, rfl, hB, hb2, hb4, rfl⟩
    obtain ⟨j, hj, hmj, h35, hB, hb2, hb4, hse⟩ := hI
    refine c_know 35 (.int .i64 j) h35 (by simp [undef]) ?_
    refine c_seq ?_
    refine c_region ?_
    refine wl (r_lss rfl rfl) ?_
    refine x_nil ?_
    refine e_S ?_
    refine c_seq ?_
    refine c_ifd rfl (fun c36 => ?_) (fun c36 => ?_)
    ·
     have hjt : j < l.length := by omega
     obtain ⟨ub, uo, B', cq, he, hub, hur, _⟩ := hT.at_ hB hjt
     cases he
     refine c_skip ?_
     refine e_S ?_
     refine c_seq ?_
     refine c_block ?_
     refine c_seq ?_
     refine c_region ?_
     refine wl (r_ia (i := j) Tryd.underlying22 sz35 rfl rfl (by omega) rfl) ?_
     refine wl (r_ldS Tryd.underlying35 rfl rfl hur sz35) ?_
     refine wl_al (cs := #[.string ⟨#[]⟩, .slice none 0 0]) ze35 rfl (fun b6 w9 hb6 hs hr => ?_)
     have or_b2_b6 : b2 < b6 := Nat.lt_of_lt_of_le hb2.lt hr
     have or_b4_b6 : b4 < b6 := Nat.lt_of_lt_of_le hb4.lt hr
     have lo6 := Nat.le_trans (Bel.size hB) hr
     replace hB := hB.tr0 hs
     replace hb2 := hb2.tr0 hs
     replace hb4 := hb4.tr0 hs
     clear hs
     clear hr
     refine wl_stW hb6 rfl rfl sz35 rfl (by repeat (first | rfl | refine one_cons (by first | rfl | assumption) ?_)) (fun w10 hq hs => ?_)
     replace hB := hB.tr1 hs lo6
     replace hb2 := hb2.tr1 hs (by omega)
     replace hb4 := hb4.tr1 hs (by omega)
     clear hs
     replace hb6 := hq
     refine x_nil ?_
     refine e_S ?_
     refine c_seq ?_
     refine c_region ?_
     refine wl (r_fa Tryd.underlying35 sz9 (by decide) rfl rfl rfl) ?_
     refine wl (r_ld1 (v := .string _) Tryd.underlying9 rfl rfl (hb6.cell rfl)) ?_
     refine wl (r_fa Tryd.underlying35 sz9 (by decide) rfl rfl rfl) ?_
     refine wl (r_ld1 (v := .string _) Tryd.underlying9 rfl rfl (hb4.cell rfl)) ?_
     refine wl (r_eqlS rfl rfl) ?_
     refine x_nil ?_
     refine e_S ?_
     refine c_ifd rfl (fun c43 => ?_) (fun c43 => ?_)
     ·
      have hty := ty7 l k hlt hnm (seen_yes hlt (by omega) c43)
      refine c_seq ?_
      refine c_region ?_
      refine wl (r_mv (v := .int _ _) rfl) ?_
      refine wl (r_bd2 (v0 := .int _ _) (v1 := .int _ _) (fun v0 v1 => #[v0, v1]) rfl rfl (by kernel_rfl)) ?_
      refine wl_stW hb2 rfl rfl sz24 rfl (by repeat (first | rfl | refine one_cons (by first | rfl | assumption) ?_)) (fun w11 hq hs => ?_)
      replace hB := hB.tr1 hs lo2
      replace hb4 := hb4.tr1 hs (by omega)
      replace hb6 := hb6.tr1 hs (by omega)
      clear hs
      replace hb2 := hq
      refine x_nil ?_
      refine e_S ?_
      refine c_ret ?_
      refine e_Br ?_
      refine e_Sr ?_
      refine e_LSr ?_
      refine e_Br ?_
      refine e_Sr ?_
      refine e_Br ?_
      refine e_Sr ?_
      refine e_LSr ?_
      refine e_Br ?_
      refine e_Sr ?_
      refine fin1 (.inl rfl) rfl (rr_cell Tryd.underlying24 rfl rfl hb2.range0 sz24) ?_
      exact ⟨ret_fl (hR'.trans (firstF_hit (c := 7) (by omega) hty (by decide))), hB⟩
     ·
      have hse' : seen ((l.take (j + 1)).map (·.name)) (l[k]'hlt).name = false := by rw [take_snoc l hjt, List.map_append, List.map_cons, List.map_nil, seen_snoc, hse]; simp [c43]
      refine c_skip ?_
      refine e_B ?_
      refine e_S ?_
      refine c_region ?_
      refine wl (r_add rfl rfl rfl (by omega)) ?_
      refine wl (r_mv (v := .int _ _) rfl) ?_
      refine x_nil ?_
      refine e_LS (k - (j + 1)) (by omega) (by repeat (first | exact ag_refl | exact ag_ovr' | refine ag_upd rfl ?_ | refine ag_sub rfl ?_ | refine ag_kn (by assumption) ?_)) ?_
      exact ⟨j + 1, by omega, rfl, rfl, hB, hb2, hb4, hse'⟩
    ·
     have hsn : seen ((l.take k).map (·.name)) (l[k]'hlt).name = false := by
       have e : k = j := by omega
       subst e; exact hse
     refine c_exit ?_
     refine e_Sx ?_
     refine e_LSx ?_
     refine e_Bx ?_
     refine e_S ?_
     refine c_seq ?_
     refine c_seq ?_
     refine c_region ?_
     refine wl (r_mv (v := .int _ _) rfl) ?_
     refine wl (r_eql rfl rfl) ?_
     refine wl (r_fa Tryd.underlying35 sz33 (by decide) rfl rfl rfl) ?_
     refine wl (r_ld1 (v := .slice _ _ _) Tryd.underlying33 rfl rfl (hb4.cell rfl)) ?_
     refine wl (r_len Tryd.underlying33 rfl) ?_
     refine wl (r_eql rfl rfl) ?_
     refine wl (r_neqB Tryd.underlying4 rfl rfl) ?_
     refine x_nil ?_
     refine e_S ?_
     refine c_if rfl (fun c53 => ?_) (fun c53 => ?_)
     ·
      have hty := ty5 l k hlt hnm hsn (mal_yes c53)
      refine c_seq ?_
      refine c_region ?_
      refine wl (r_mv (v := .int _ _) rfl) ?_
      refine wl (r_bd2 (v0 := .int _ _) (v1 := .int _ _) (fun v0 v1 => #[v0, v1]) rfl rfl (by kernel_rfl)) ?_
      refine wl_stW hb2 rfl rfl sz24 rfl (by repeat (first | rfl | refine one_cons (by first | rfl | assumption) ?_)) (fun w12 hq hs => ?_)
      replace hB := hB.tr1 hs lo2
      replace hb4 := hb4.tr1 hs (by omega)
      clear hs
      replace hb2 := hq
      refine x_nil ?_
      refine e_S ?_
      refine c_ret ?_
      refine e_Sr ?_
      refine e_Br ?_
      refine e_Sr ?_
      refine e_LSr ?_
      refine e_Br ?_
      refine e_Sr ?_
      refine fin1 (.inl rfl) rfl (rr_cell Tryd.underlying24 rfl rfl hb2.range0 sz24) ?_
      exact ⟨ret_fl (hR'.trans (firstF_hit (c := 5) (by omega) hty (by decide))), hB⟩
     ·
      have hmal := mal_no c53
      refine c_skip ?_
      refine e_S ?_
      refine c_seq ?_
      refine c_region ?_
      refine wl (r_fa Tryd.underlying35 sz33 (by decide) rfl rfl rfl) ?_
      refine wl (r_ld1 (v := .slice _ _ _) Tryd.underlying33 rfl rfl (hb4.cell rfl)) ?_
      refine wl (r_len Tryd.underlying33 rfl) ?_
      refine wl (r_mv (v := .int _ _) rfl) ?_
      refine x_nil ?_
      refine e_S ?_
      refine c_block ?_
      refine c_loopS [7, 8, 59, 60, 61, 62, 63, 64, 65, 66, 67, 68, 69, 70, 71, 72, 73, 74, 75, 76, 77, 78, 79, 80, 81, 82, 83, 84, 85, 86, 87] (fun m g w' => ∃ (j : Nat) (last : Int), j ≤ (l[k]'hlt).par.length ∧ m = (l[k]'hlt).par.length - j ∧ g 59 = .int .i64 j ∧ w8 = w' ∧ (j = 0 → last = -1) ∧ (∀ h : 0 < j ∧ j - 1 < (l[k]'hlt).par.length, last = ((l[k]'hlt).par[j - 1]'h.2)) ∧ tyFault l k = parFault k last ((l[k]'hlt).par.drop j)) ((l[k]'hlt).par.length) ?_ (fun m g17 w13 hI => ?_)
      ·
       exact ⟨0, -1, Nat.zero_le _, rfl, rfl, rfl, fun _ => rfl, fun h => by omega, tyF_par l k hlt hnm hsn hmal⟩
      obtain ⟨j, last, hj, hmj, h59, rfl, hl0, hl1, hP⟩ := hI
      refine c_know 59 (.int .i64 j) h59 (by simp [undef]) ?_
      refine c_seq ?_
      refine c_region ?_
      refine wl (r_lss rfl rfl) ?_
      refine x_nil ?_
      refine e_S ?_
      refine c_seq ?_
      refine c_ifd rfl (fun c60 => ?_) (fun c60 => ?_)
      ·
       have hlj : j < (l[k]'hlt).par.length := by omega
       have hmx := hpar.1
       unfold maxI at hmx
       have hpar' := hpar
       obtain ⟨pb, po, rfl, hpb, hpc⟩ := hpar.at_ hlj
       replace hpc := hB.cell hpb hpc
       have hpd : ∀ h : j - 1 < (l[k]'hlt).par.length, w8.cell? ⟨pb, po + (j - 1) * 1, none⟩ = some (.int .i64 ((l[k]'hlt).par[j - 1]'h)) := fun h => by
         obtain ⟨pb2, po2, he, hpb2, hpc2⟩ := hpar'.at_ h
         cases he
         exact hB.cell hpb2 hpc2
       refine c_skip ?_
       refine e_S ?_
       refine c_seq ?_
       refine c_block ?_
       refine c_seq ?_
       refine c_region ?_
       refine wl (r_mv (v := .int _ _) rfl) ?_
       refine wl (r_ia (i := j) Tryd.underlying33 sz3 rfl rfl (by omega) rfl) ?_
       refine wl (r_ld1 (v := .int _ _) Tryd.underlying3 rfl rfl hpc) ?_
       refine wl (r_as (v := .int _ _) rfl) ?_
       refine wl (r_as (v := .int _ _) rfl) ?_
       refine x_nil ?_
       refine e_S ?_
       refine c_seq ?_
       refine c_seq ?_
       refine c_cut1 [64, 65, 66, 67, 68, 69, 70] 70 (.bool (decide ((l[k]'hlt).par[j] < 0 ∨ (k : Int) ≤ (l[k]'hlt).par[j]))) (by simp [undef]) ?_ (fun gq => ?_)
       ·
        refine c_region ?_
        refine wl (r_mv (v := .int _ _) rfl) ?_
        refine wl (r_lss rfl rfl) ?_
        refine wl (r_mv (v := .bool _) rfl) ?_
        refine wl_casesd 66 rfl (fun g66 => ?_) (fun g66 => ?_)
        ·
         refine wlgn 66 rfl rfl rfl ?_
         refine wlgn 66 rfl rfl rfl ?_
         refine wlgn 66 rfl rfl rfl ?_
         refine wl (r_pt (v := .bool _) rfl rfl) ?_
         refine x_nil (e_R ⟨rfl, (by repeat (first | exact ag_refl | exact ag_ovr' | refine ag_upd rfl ?_ | refine ag_sub rfl ?_ | refine ag_kn (by assumption) ?_)), ?_⟩)
         show Value.bool _ = Value.bool _
         first | exact congrArg Value.bool (decide_eq_true (by omega)).symm | exact congrArg Value.bool (decide_eq_false (by omega)).symm | exact congrArg Value.bool (decide_eq_decide.2 (by omega)) | exact congrArg Value.bool ((decide_not).symm.trans (decide_eq_decide.2 (by omega)))
        ·
         refine wl_gd 66 rfl rfl ?_
         refine wl (r_mv (v := .int _ _) rfl) ?_
         refine wl_gd 66 rfl rfl ?_
         refine wl (r_mv (v := .int _ _) rfl) ?_
         refine wl_gd 66 rfl rfl ?_
         refine wl (r_geq rfl rfl) ?_
         refine wl (r_pf (v := .bool _) rfl rfl) ?_
         refine x_nil (e_R ⟨rfl, (by repeat (first | exact ag_refl | exact ag_ovr' | refine ag_upd rfl ?_ | refine ag_sub rfl ?_ | refine ag_kn (by assumption) ?_)), ?_⟩)
         show Value.bool _ = Value.bool _
         first | exact congrArg Value.bool (decide_eq_true (by omega)).symm | exact congrArg Value.bool (decide_eq_false (by omega)).symm | exact congrArg Value.bool (decide_eq_decide.2 (by omega)) | exact congrArg Value.bool ((decide_not).symm.trans (decide_eq_decide.2 (by omega)))
       refine e_S ?_
       refine c_ifd rfl (fun c70 => ?_) (fun c70 => ?_)
       ·
        have hty : tyFault l k = 3 := by rw [hP, List.drop_eq_getElem_cons hlj]; simp only [parFault, if_pos c70]
        refine c_seq ?_
        refine c_region ?_
        refine wl (r_mv (v := .int _ _) rfl) ?_
        refine wl (r_bd2 (v0 := .int _ _) (v1 := .int _ _) (fun v0 v1 => #[v0, v1]) rfl rfl (by kernel_rfl)) ?_
        refine wl_stW hb2 rfl rfl sz24 rfl (by repeat (first | rfl | refine one_cons (by first | rfl | assumption) ?_)) (fun w14 hq hs => ?_)
        replace hB := hB.tr1 hs lo2
        replace hb4 := hb4.tr1 hs (by omega)
        clear hs
        replace hb2 := hq
        refine x_nil ?_
        refine e_S ?_
        refine c_ret ?_
        refine e_Sr ?_
        refine e_Br ?_
        refine e_Sr ?_
        refine e_LSr ?_
        refine e_Br ?_
        refine e_Br ?_
        refine e_Sr ?_
        refine e_LSr ?_
        refine e_Br ?_
        refine e_Sr ?_
        refine fin1 (.inl rfl) rfl (rr_cell Tryd.underlying24 rfl rfl hb2.range0 sz24) ?_
        exact ⟨ret_fl (hR'.trans (firstF_hit (c := 3) (by omega) hty (by decide))), hB⟩
       ·
        refine c_skip ?_
        refine e_S ?_
        refine c_seq ?_
        refine c_cut1 [73, 74, 75, 76, 77, 78, 79, 80, 81, 82, 83, 84] 84 (.bool (decide (0 < j ∧ (l[k]'hlt).par[j] ≤ ((l[k]'hlt).par[j - 1]'(by omega))))) (by simp [undef]) ?_ (fun gq => ?_)
        ·
         refine c_region ?_
         refine wl (r_mv (v := .int _ _) rfl) ?_
         refine wl (r_gtr rfl rfl) ?_
         refine wl (r_mv (v := .bool _) rfl) ?_
         refine wl_casesd 75 rfl (fun g75 => ?_) (fun g75 => ?_)
         ·
          refine wl_gd 75 rfl rfl ?_
          refine wl (r_mv (v := .int _ _) rfl) ?_
          refine wl_gd 75 rfl rfl ?_
          refine wl (r_fa Tryd.underlying35 sz33 (by decide) rfl rfl rfl) ?_
          refine wl_gd 75 rfl rfl ?_
          refine wl (r_ld1 (v := .slice _ _ _) Tryd.underlying33 rfl rfl (hb4.cell rfl)) ?_
          refine wl_gd 75 rfl rfl ?_
          refine wl (r_mv (v := .int _ _) rfl) ?_
          refine wl_gd 75 rfl rfl ?_
          refine wl (r_sub (c := ((j - 1 : Nat) : Int)) rfl rfl (by omega) (by omega)) ?_
          refine wl_gd 75 rfl rfl ?_
          refine wl (r_ia (i := j - 1) Tryd.underlying33 sz3 rfl rfl (by omega) rfl) ?_
          refine wl_gd 75 rfl rfl ?_
          refine wl (r_ld1 (v := .int _ _) Tryd.underlying3 rfl rfl (hpd (by omega))) ?_
          refine wl_gd 75 rfl rfl ?_
          refine wl (r_leq rfl rfl) ?_
          refine wl (r_pt (v := .bool _) rfl rfl) ?_
          refine x_nil (e_R ⟨rfl, (by repeat (first | exact ag_refl | exact ag_ovr' | refine ag_upd rfl ?_ | refine ag_sub rfl ?_ | refine ag_kn (by assumption) ?_)), ?_⟩)
          show Value.bool _ = Value.bool _
          first | exact congrArg Value.bool (decide_eq_true (by omega)).symm | exact congrArg Value.bool (decide_eq_false (by omega)).symm | exact congrArg Value.bool (decide_eq_decide.2 (by omega)) | exact congrArg Value.bool ((decide_not).symm.trans (decide_eq_decide.2 (by omega)))
         ·
          refine wlgn 75 rfl rfl rfl ?_
          refine wlgn 75 rfl rfl rfl ?_
          refine wlgn 75 rfl rfl rfl ?_
          refine wlgn 75 rfl rfl rfl ?_
          refine wlgn 75 rfl rfl rfl ?_
          refine wlgn 75 rfl rfl rfl ?_
          refine wlgn 75 rfl rfl rfl ?_
          refine wlgn 75 rfl rfl rfl ?_
          refine wl (r_pf (v := .bool _) rfl rfl) ?_
          refine x_nil (e_R ⟨rfl, (by repeat (first | exact ag_refl | exact ag_ovr' | refine ag_upd rfl ?_ | refine ag_sub rfl ?_ | refine ag_kn (by assumption) ?_)), ?_⟩)
          show Value.bool _ = Value.bool _
          first | exact congrArg Value.bool (decide_eq_true (by omega)).symm | exact congrArg Value.bool (decide_eq_false (by omega)).symm | exact congrArg Value.bool (decide_eq_decide.2 (by omega)) | exact congrArg Value.bool ((decide_not).symm.trans (decide_eq_decide.2 (by omega)))
        refine e_S ?_
        refine c_ifd rfl (fun c84 => ?_) (fun c84 => ?_)
        ·
         have hty : tyFault l k = 13 := by rw [hP, List.drop_eq_getElem_cons hlj, hl1 ⟨c84.1, by omega⟩]; simp only [parFault, if_neg c70, if_pos c84.2]
         refine c_seq ?_
         refine c_region ?_
         refine wl (r_mv (v := .int _ _) rfl) ?_
         refine wl (r_bd2 (v0 := .int _ _) (v1 := .int _ _) (fun v0 v1 => #[v0, v1]) rfl rfl (by kernel_rfl)) ?_
         refine wl_stW hb2 rfl rfl sz24 rfl (by repeat (first | rfl | refine one_cons (by first | rfl | assumption) ?_)) (fun w15 hq hs => ?_)
         replace hB := hB.tr1 hs lo2
         replace hb4 := hb4.tr1 hs (by omega)
         clear hs
         replace hb2 := hq
         refine x_nil ?_
         refine e_S ?_
         refine c_ret ?_
         refine e_Br ?_
         refine e_Sr ?_
         refine e_LSr ?_
         refine e_Br ?_
         refine e_Br ?_
         refine e_Sr ?_
         refine e_LSr ?_
         refine e_Br ?_
         refine e_Sr ?_
         refine fin1 (.inl rfl) rfl (rr_cell Tryd.underlying24 rfl rfl hb2.range0 sz24) ?_
         exact ⟨ret_fl (hR'.trans (firstF_hit (c := 13) (by omega) hty (by decide))), hB⟩
        ·
         have hP' : tyFault l k = parFault k (l[k]'hlt).par[j] ((l[k]'hlt).par.drop (j + 1)) := by
           have hnl : ¬ (l[k]'hlt).par[j] ≤ last := fun h => by
             by_cases e : j = 0
             · have := hl0 e; omega
             · have := hl1 ⟨by omega, by omega⟩; exact c84 ⟨by omega, by omega⟩
           rw [hP, List.drop_eq_getElem_cons hlj]; simp only [parFault, if_neg c70, if_neg hnl]
         refine c_skip ?_
         refine e_B ?_
         refine e_S ?_
         refine c_region ?_
         refine wl (r_add rfl rfl rfl (by omega)) ?_
         refine wl (r_mv (v := .int _ _) rfl) ?_
         refine x_nil ?_
         refine e_LS ((l[k]'hlt).par.length - (j + 1)) (by omega) (by repeat (first | exact ag_refl | exact ag_ovr' | refine ag_upd rfl ?_ | refine ag_sub rfl ?_ | refine ag_kn (by assumption) ?_)) ?_
         exact ⟨j + 1, (l[k]'hlt).par[j], by omega, rfl, rfl, rfl, fun h => by omega, fun h => rfl, hP'⟩
      ·
       have hty := Lib.hid (show tyFault l k = 0 by rw [hP, List.drop_eq_nil_of_le (by omega)]; rfl)
       refine c_exit ?_
       refine e_Sx ?_
       refine e_LSx ?_
       refine e_Bx ?_
       refine e_B ?_
       refine e_S ?_
       refine c_region ?_
       refine wl (r_add rfl rfl rfl (by omega)) ?_
       refine wl (r_mv (v := .int _ _) rfl) ?_
       refine x_nil ?_
       refine e_LS (l.length - (k + 1)) (by omega) (by repeat (first | exact ag_refl | exact ag_ovr' | refine ag_upd rfl ?_ | refine ag_sub rfl ?_ | refine ag_kn (by assumption) ?_)) ?_
       exact ⟨k + 1, by omega, rfl, rfl, hB, hb2, hR'.trans (firstF_miss hlt hty.out)⟩
  ·
   refine c_exit ?_
   refine e_Sx ?_
   refine e_LSx ?_
   refine e_Bx ?_
   refine e_S ?_
   refine c_seq ?_
   refine c_region ?_
   refine wl (r_bd (vs := #[]) (cs := #[.int .i64 0, .int .i64 0]) (by simp) (by kernel_rfl)) ?_
   refine wl_stW hb2 rfl rfl sz24 rfl (by repeat (first | rfl | refine one_cons (by first | rfl | assumption) ?_)) (fun w16 hq hs => ?_)
   replace hB := hB.tr1 hs lo2
   clear hs
   replace hb2 := hq
   refine x_nil ?_
   refine e_S ?_
   refine c_ret ?_
   refine fin1 (.inl rfl) rfl (rr_cell Tryd.underlying24 rfl rfl hb2.range0 sz24) ?_
   exact ⟨ret_fl (hR'.trans (firstF_end (by omega))), hB⟩
end Go.Proofs.YtahdbbgkgokkhaaDoor
