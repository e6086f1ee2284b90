/- What these functions of the program compute, at every world: glosswright/term.Name, glosswright/hierarchy.fault. -/
import Derived.Test.YtahdbbgkgokkhaaDoorData
import Derived.Test.YtahdbbgkgokkhaaDoorProg
namespace Go.Proofs.YtahdbbgkgokkhaaDoor
open Go.RowKit
def nameCh (c : UInt8) : Bool := decide (97 ≤ c.toNat ∧ c.toNat ≤ 122) || decide (48 ≤ c.toNat ∧ c.toNat ≤ 57) || decide (c.toNat = 95) || decide (c.toNat = 45)
theorem nameCh_iff (c : UInt8) : nameCh c = true ↔ ((97 ≤ c.toNat ∧ c.toNat ≤ 122) ∨ (48 ≤ c.toNat ∧ c.toNat ≤ 57) ∨ c.toNat = 95 ∨ c.toNat = 45) := by simp [nameCh, or_assoc]
def nameHd : List UInt8 → Bool
  | [] => false
  | c :: _ => decide (97 ≤ c.toNat ∧ c.toNat ≤ 122)
def isName (s : ByteArray) : Bool := decide (s.size ≤ 30) && nameHd s.data.toList && s.data.toList.all nameCh
theorem ret_bool {a b : Bool} (h : a = b) : Ending.returned (.bool b) = .returned (.bool a) := by rw [h]
theorem hd_num (s : ByteArray) : ∃ c0 : Nat, ∀ h : 0 < s.size, (s[0]'h).toNat = c0 := by
  by_cases h : 0 < s.size
  · exact ⟨(s[0]'h).toNat, fun _ => rfl⟩
  · exact ⟨0, fun h' => absurd h' h⟩
theorem isName_eq (s : ByteArray) (c0 : Nat) (e0 : ∀ h : 0 < s.size, (s[0]'h).toNat = c0) :
    isName s = decide ((s.size ≠ 0 ∧ s.size ≤ 30) ∧ (97 ≤ c0 ∧ c0 ≤ 122) ∧ (∀ k (hk : k < s.size), nameCh (s[k]'hk) = true)) := by
  have ha : (s.data.toList.all nameCh = true) ↔ (∀ k (hk : k < s.size), nameCh (s[k]'hk) = true) := by
    rw [List.all_eq_true]
    constructor
    · intro h k hk
      exact h _ (List.getElem_mem (l := s.data.toList) (n := k) (by simpa using hk))
    · intro h x hx
      obtain ⟨k, hk, rfl⟩ := List.mem_iff_getElem.1 hx
      exact h k (by simpa using hk)
  have hh : ∀ h : 0 < s.size, nameHd s.data.toList = decide (97 ≤ c0 ∧ c0 ≤ 122) := by
    intro h
    rw [← e0 h]
    obtain ⟨⟨l⟩⟩ := s
    cases l with
    | nil => exact absurd h (by decide)
    | cons c l => rfl
  by_cases h0 : s.size = 0
  · have : s.data.toList = [] := by
      apply List.eq_nil_of_length_eq_zero; simpa using h0
    simp [isName, this, nameHd, h0]
  · have h := hh (by omega)
    rw [Bool.eq_iff_iff]
    simp only [isName, h, Bool.and_eq_true, decide_eq_true_eq, ha]
    constructor
    · rintro ⟨⟨a, b⟩, c⟩; exact ⟨⟨h0, a⟩, b, c⟩
    · rintro ⟨⟨_, a⟩, b, c⟩; exact ⟨⟨a, b⟩, c⟩

theorem sz24 : (Tryd.prog.info? 24).map (·.size) = some 2 := by kernel_rfl
theorem ze24 : (Tryd.prog.info? 24).map (·.zero) = some (some (.agg #[.int .i64 0, .int .i64 0])) := by kernel_rfl
theorem name_any (s : ByteArray) (w : World) : Calls Tryd.prog 37 #[.string s] w fun e w' => e = .returned (.bool (isName s)) ∧ w = w' := by
 obtain ⟨c0, e0⟩ := hd_num s
 have hN := Lib.hid (isName_eq s c0 e0)
 refine enter Tryd.func37 Tryd.ntmps37 rfl (Nat.le_of_ble_eq_true rfl) ?_
 refine c_seq ?_
 refine c_region ?_
 refine wl (r_as (v := .bool _) rfl) ?_
 refine x_nil ?_
 refine e_S ?_
 refine c_seq ?_
 refine c_seq ?_
 refine c_cut1 [5, 6, 7, 8, 9, 10, 11, 12, 13, 14, 15, 16, 17, 18, 19, 20, 21, 22] 22 (.bool (decide (s.size = 0 ∨ 30 < s.size ∨ c0 < 97 ∨ 122 < c0))) (by simp [undef]) ?_ (fun gq => ?_)
 ·
  refine c_region ?_
  refine wl (r_mv (v := .string _) rfl) ?_
  refine wl (r_lenS Tryd.underlying9 rfl) ?_
  refine wl (r_eql rfl rfl) ?_
  refine wl (r_mv (v := .bool _) rfl) ?_
  refine wl_casesd 8 rfl (fun g8 => ?_) (fun g8 => ?_)
  ·
   refine wlgn 8 rfl rfl rfl ?_
   refine wlgn 8 rfl rfl rfl ?_
   refine wlgn 8 rfl rfl rfl ?_
   refine wl (r_pt (v := .bool _) rfl rfl) ?_
   refine wl (r_mv (v := .bool _) rfl) ?_
   refine wlgn 13 rfl rfl rfl ?_
   refine wlgn 13 rfl rfl rfl ?_
   refine wlgn 13 rfl rfl rfl ?_
   refine wl (r_pt (v := .bool _) rfl rfl) ?_
   refine wl (r_mv (v := .bool _) rfl) ?_
   refine wlgn 18 rfl rfl rfl ?_
   refine wlgn 18 rfl rfl rfl ?_
   refine wlgn 18 rfl rfl rfl ?_
   refine wl (r_pt (v := .bool _) rfl rfl) ?_
   refine x_nil (e_R ⟨rfl, (by repeat (first | exact ag_refl | exact ag_ovr' | refine ag_upd rfl ?_ | refine ag_sub rfl ?_ | refine ag_kn (by assumption) ?_)), ?_⟩)
   show Value.bool _ = Value.bool _
   try have e0' := e0 (by omega)
   first | exact congrArg Value.bool (decide_eq_true (by omega)).symm | exact congrArg Value.bool (decide_eq_false (by omega)).symm | exact congrArg Value.bool (decide_eq_decide.2 (by omega)) | exact congrArg Value.bool ((decide_not).symm.trans (decide_eq_decide.2 (by omega)))
  ·
   refine wl_gd 8 rfl rfl ?_
   refine wl (r_mv (v := .string _) rfl) ?_
   refine wl_gd 8 rfl rfl ?_
   refine wl (r_lenS Tryd.underlying9 rfl) ?_
   refine wl_gd 8 rfl rfl ?_
   refine wl (r_gtr rfl rfl) ?_
   refine wl (r_pf (v := .bool _) rfl rfl) ?_
   refine wl (r_mv (v := .bool _) rfl) ?_
   refine wl_casesd 13 rfl (fun g13 => ?_) (fun g13 => ?_)
   ·
    refine wlgn 13 rfl rfl rfl ?_
    refine wlgn 13 rfl rfl rfl ?_
    refine wlgn 13 rfl rfl rfl ?_
    refine wl (r_pt (v := .bool _) rfl rfl) ?_
    refine wl (r_mv (v := .bool _) rfl) ?_
    refine wlgn 18 rfl rfl rfl ?_
    refine wlgn 18 rfl rfl rfl ?_
    refine wlgn 18 rfl rfl rfl ?_
    refine wl (r_pt (v := .bool _) rfl rfl) ?_
    refine x_nil (e_R ⟨rfl, (by repeat (first | exact ag_refl | exact ag_ovr' | refine ag_upd rfl ?_ | refine ag_sub rfl ?_ | refine ag_kn (by assumption) ?_)), ?_⟩)
    show Value.bool _ = Value.bool _
    try have e0' := e0 (by omega)
    first | exact congrArg Value.bool (decide_eq_true (by omega)).symm | exact congrArg Value.bool (decide_eq_false (by omega)).symm | exact congrArg Value.bool (decide_eq_decide.2 (by omega)) | exact congrArg Value.bool ((decide_not).symm.trans (decide_eq_decide.2 (by omega)))
   ·
    refine wl_gd 13 rfl rfl ?_
    refine wl (r_mv (v := .string _) rfl) ?_
    refine wl_gd 13 rfl rfl ?_
    refine wl (r_ixS (i := 0) Tryd.underlying9 rfl rfl (by omega)) ?_
    refine wl_gd 13 rfl rfl ?_
    refine wl (r_lss rfl rfl) ?_
    refine wl (r_pf (v := .bool _) rfl rfl) ?_
    refine wl (r_mv (v := .bool _) rfl) ?_
    refine wl_casesd 18 rfl (fun g18 => ?_) (fun g18 => ?_)
    ·
     refine wlgn 18 rfl rfl rfl ?_
     refine wlgn 18 rfl rfl rfl ?_
     refine wlgn 18 rfl rfl rfl ?_
     refine wl (r_pt (v := .bool _) rfl rfl) ?_
     refine x_nil (e_R ⟨rfl, (by repeat (first | exact ag_refl | exact ag_ovr' | refine ag_upd rfl ?_ | refine ag_sub rfl ?_ | refine ag_kn (by assumption) ?_)), ?_⟩)
     show Value.bool _ = Value.bool _
     try have e0' := e0 (by omega)
     first | exact congrArg Value.bool (decide_eq_true (by omega)).symm | exact congrArg Value.bool (decide_eq_false (by omega)).symm | exact congrArg Value.bool (decide_eq_decide.2 (by omega)) | exact congrArg Value.bool ((decide_not).symm.trans (decide_eq_decide.2 (by omega)))
    ·
     refine wl_gd 18 rfl rfl ?_
     refine wl (r_mv (v := .string _) rfl) ?_
     refine wl_gd 18 rfl rfl ?_
     refine wl (r_ixS (i := 0) Tryd.underlying9 rfl rfl (by omega)) ?_
     refine wl_gd 18 rfl rfl ?_
     refine wl (r_gtr rfl rfl) ?_
     refine wl (r_pf (v := .bool _) rfl rfl) ?_
     refine x_nil (e_R ⟨rfl, (by repeat (first | exact ag_refl | exact ag_ovr' | refine ag_upd rfl ?_ | refine ag_sub rfl ?_ | refine ag_kn (by assumption) ?_)), ?_⟩)
     show Value.bool _ = Value.bool _
     try have e0' := e0 (by omega)
     first | exact congrArg Value.bool (decide_eq_true (by omega)).symm | exact congrArg Value.bool (decide_eq_false (by omega)).symm | exact congrArg Value.bool (decide_eq_decide.2 (by omega)) | exact congrArg Value.bool ((decide_not).symm.trans (decide_eq_decide.2 (by omega)))
 refine e_S ?_
 refine c_ifd rfl (fun c22 => ?_) (fun c22 => ?_)
 ·
  refine c_seq ?_
  refine c_region ?_
  refine wl (r_as (v := .bool _) rfl) ?_
  refine x_nil ?_
  refine e_S ?_
  refine c_ret ?_
  refine e_Sr ?_
  refine fin1 (.inl rfl) rfl rfl ?_
  exact ⟨ret_bool (by rw [hN.out]; exact decide_eq_false (fun h => by omega)), rfl⟩
 ·
  refine c_skip ?_
  refine e_S ?_
  refine c_seq ?_
  refine c_seq ?_
  refine c_region ?_
  refine wl (r_mv (v := .string _) rfl) ?_
  refine wl (r_lenS Tryd.underlying9 rfl) ?_
  refine wl (r_mv (v := .int _ _) rfl) ?_
  refine x_nil ?_
  refine e_S ?_
  refine c_block ?_
  refine c_loopS [2, 3, 4, 25, 26, 27, 28, 29, 30, 31, 32, 33, 34, 35, 36, 37, 38, 39, 40, 41, 42, 43, 44, 45, 46, 47, 48, 49, 50, 51, 52, 53, 54] (fun m g w' => ∃ k : Nat, k ≤ s.size ∧ m = s.size - k ∧ g 25 = .int .i64 k ∧ w = w' ∧ (∀ j (hj : j < s.size), j < k → nameCh (s[j]'hj) = true)) (s.size) ?_ (fun m g4 w1 hI => ?_)
  ·
   exact ⟨0, Nat.zero_le _, rfl, rfl, rfl, fun j hj h => by omega⟩
  obtain ⟨k, hk, hm, h25, rfl, hall⟩ := hI
  refine c_know 25 (.int .i64 k) h25 (by simp [undef]) ?_
  refine c_seq ?_
  refine c_region ?_
  refine wl (r_lss rfl rfl) ?_
  refine x_nil ?_
  refine e_S ?_
  refine c_seq ?_
  refine c_ifd rfl (fun c26 => ?_) (fun c26 => ?_)
  ·
   refine c_skip ?_
   refine e_S ?_
   refine c_seq ?_
   refine c_block ?_
   refine c_seq ?_
   refine c_region ?_
   refine wl (r_mv (v := .int _ _) rfl) ?_
   refine wl (r_as (v := .int _ _) rfl) ?_
   refine x_nil ?_
   refine e_S ?_
   refine c_seq ?_
   refine c_region ?_
   refine wl (r_mv (v := .string _) rfl) ?_
   refine wl (r_mv (v := .int _ _) rfl) ?_
   refine wl (r_ixS (i := k) Tryd.underlying9 rfl rfl (by omega)) ?_
   refine wl (r_as (v := .int _ _) rfl) ?_
   refine x_nil ?_
   refine e_S ?_
   refine c_seq ?_
   refine c_cut1 [31, 32, 33, 34, 35, 36, 37, 38, 39, 40, 41, 42, 43, 44, 45, 46, 47, 48, 49, 50, 51, 52, 53] 53 (.bool (decide (¬ ((97 ≤ (s[k]'(by omega)).toNat ∧ (s[k]'(by omega)).toNat ≤ 122) ∨ (48 ≤ (s[k]'(by omega)).toNat ∧ (s[k]'(by omega)).toNat ≤ 57) ∨ (s[k]'(by omega)).toNat = 95 ∨ (s[k]'(by omega)).toNat = 45)))) (by simp [undef]) ?_ (fun gq => ?_)
   ·
    refine c_region ?_
    refine wl (r_mv (v := .int _ _) rfl) ?_
    refine wl (r_geq rfl rfl) ?_
    refine wl (r_mv (v := .bool _) rfl) ?_
    refine wl_casesd 33 rfl (fun g33 => ?_) (fun g33 => ?_)
    ·
     refine wl_gd 33 rfl rfl ?_
     refine wl (r_mv (v := .int _ _) rfl) ?_
     refine wl_gd 33 rfl rfl ?_
     refine wl (r_leq rfl rfl) ?_
     refine wl (r_pt (v := .bool _) rfl rfl) ?_
     refine wl (r_mv (v := .bool _) rfl) ?_
     refine wl_casesd 37 rfl (fun g37 => ?_) (fun g37 => ?_)
     ·
      refine wlgn 37 rfl rfl rfl ?_
      refine wlgn 37 rfl rfl rfl ?_
      refine wlgn 37 rfl rfl rfl ?_
      refine wlgu 40 rfl rfl ?_
      refine wlgu 40 rfl rfl ?_
      refine wlgn 37 rfl rfl rfl ?_
      refine wl (r_pt (v := .bool _) rfl rfl) ?_
      refine wl (r_mv (v := .bool _) rfl) ?_
      refine wlgn 45 rfl rfl rfl ?_
      refine wlgn 45 rfl rfl rfl ?_
      refine wl (r_pt (v := .bool _) rfl rfl) ?_
      refine wl (r_mv (v := .bool _) rfl) ?_
      refine wlgn 49 rfl rfl rfl ?_
      refine wlgn 49 rfl rfl rfl ?_
      refine wl (r_pt (v := .bool _) rfl rfl) ?_
      refine wl (r_not rfl) ?_
      refine x_nil (e_R ⟨rfl, (by repeat (first | exact ag_refl | exact ag_ovr' | refine ag_upd rfl ?_ | refine ag_sub rfl ?_ | refine ag_kn (by assumption) ?_)), ?_⟩)
      show Value.bool _ = Value.bool _
      first | exact congrArg Value.bool (decide_eq_true (by omega)).symm | exact congrArg Value.bool (decide_eq_false (by omega)).symm | exact congrArg Value.bool (decide_eq_decide.2 (by omega)) | exact congrArg Value.bool ((decide_not).symm.trans (decide_eq_decide.2 (by omega)))
     ·
      refine wl_gd 37 rfl rfl ?_
      refine wl (r_mv (v := .int _ _) rfl) ?_
      refine wl_gd 37 rfl rfl ?_
      refine wl (r_geq rfl rfl) ?_
      refine wl_gd 37 rfl rfl ?_
      refine wl (r_mv (v := .bool _) rfl) ?_
      refine wl_casesd 40 rfl (fun g40 => ?_) (fun g40 => ?_)
      ·
       refine wl_gd 40 rfl rfl ?_
       refine wl (r_mv (v := .int _ _) rfl) ?_
       refine wl_gd 40 rfl rfl ?_
       refine wl (r_leq rfl rfl) ?_
       refine wl_gd 37 rfl rfl ?_
       refine wl (r_pt (v := .bool _) rfl rfl) ?_
       refine wl (r_pf (v := .bool _) rfl rfl) ?_
       refine wl (r_mv (v := .bool _) rfl) ?_
       refine wl_casesd 45 rfl (fun g45 => ?_) (fun g45 => ?_)
       ·
        refine wlgn 45 rfl rfl rfl ?_
        refine wlgn 45 rfl rfl rfl ?_
        refine wl (r_pt (v := .bool _) rfl rfl) ?_
        refine wl (r_mv (v := .bool _) rfl) ?_
        refine wlgn 49 rfl rfl rfl ?_
        refine wlgn 49 rfl rfl rfl ?_
        refine wl (r_pt (v := .bool _) rfl rfl) ?_
        refine wl (r_not rfl) ?_
        refine x_nil (e_R ⟨rfl, (by repeat (first | exact ag_refl | exact ag_ovr' | refine ag_upd rfl ?_ | refine ag_sub rfl ?_ | refine ag_kn (by assumption) ?_)), ?_⟩)
        show Value.bool _ = Value.bool _
        first | exact congrArg Value.bool (decide_eq_true (by omega)).symm | exact congrArg Value.bool (decide_eq_false (by omega)).symm | exact congrArg Value.bool (decide_eq_decide.2 (by omega)) | exact congrArg Value.bool ((decide_not).symm.trans (decide_eq_decide.2 (by omega)))
       ·
        refine wl_gd 45 rfl rfl ?_
        refine wl (r_mv (v := .int _ _) rfl) ?_
        refine wl_gd 45 rfl rfl ?_
        refine wl (r_eql rfl rfl) ?_
        refine wl (r_pf (v := .bool _) rfl rfl) ?_
        refine wl (r_mv (v := .bool _) rfl) ?_
        refine wl_casesd 49 rfl (fun g49 => ?_) (fun g49 => ?_)
        ·
         refine wlgn 49 rfl rfl rfl ?_
         refine wlgn 49 rfl rfl rfl ?_
         refine wl (r_pt (v := .bool _) rfl rfl) ?_
         refine wl (r_not rfl) ?_
         refine x_nil (e_R ⟨rfl, (by repeat (first | exact ag_refl | exact ag_ovr' | refine ag_upd rfl ?_ | refine ag_sub rfl ?_ | refine ag_kn (by assumption) ?_)), ?_⟩)
         show Value.bool _ = Value.bool _
         first | exact congrArg Value.bool (decide_eq_true (by omega)).symm | exact congrArg Value.bool (decide_eq_false (by omega)).symm | exact congrArg Value.bool (decide_eq_decide.2 (by omega)) | exact congrArg Value.bool ((decide_not).symm.trans (decide_eq_decide.2 (by omega)))
        ·
         refine wl_gd 49 rfl rfl ?_
         refine wl (r_mv (v := .int _ _) rfl) ?_
         refine wl_gd 49 rfl rfl ?_
         refine wl (r_eql rfl rfl) ?_
         refine wl (r_pf (v := .bool _) rfl rfl) ?_
         refine wl (r_notd rfl) ?_
         refine x_nil (e_R ⟨rfl, (by repeat (first | exact ag_refl | exact ag_ovr' | refine ag_upd rfl ?_ | refine ag_sub rfl ?_ | refine ag_kn (by assumption) ?_)), ?_⟩)
         show Value.bool _ = Value.bool _
         first | exact congrArg Value.bool (decide_eq_true (by omega)).symm | exact congrArg Value.bool (decide_eq_false (by omega)).symm | exact congrArg Value.bool (decide_eq_decide.2 (by omega)) | exact congrArg Value.bool ((decide_not).symm.trans (decide_eq_decide.2 (by omega)))
      ·
       refine wlgn 40 rfl rfl rfl ?_
       refine wlgn 40 rfl rfl rfl ?_
       refine wl_gd 37 rfl rfl ?_
       refine wl (r_pf (v := .bool _) rfl rfl) ?_
       refine wl (r_pf (v := .bool _) rfl rfl) ?_
       refine wl (r_mv (v := .bool _) rfl) ?_
       refine wl_gd 45 rfl rfl ?_
       refine wl (r_mv (v := .int _ _) rfl) ?_
       refine wl_gd 45 rfl rfl ?_
       refine wl (r_eql rfl rfl) ?_
       refine wl (r_pf (v := .bool _) rfl rfl) ?_
       refine wl (r_mv (v := .bool _) rfl) ?_
       refine wl_casesd 49 rfl (fun g49 => ?_) (fun g49 => ?_)
       ·
        refine wlgn 49 rfl rfl rfl ?_
        refine wlgn 49 rfl rfl rfl ?_
        refine wl (r_pt (v := .bool _) rfl rfl) ?_
        refine wl (r_not rfl) ?_
        refine x_nil (e_R ⟨rfl, (by repeat (first | exact ag_refl | exact ag_ovr' | refine ag_upd rfl ?_ | refine ag_sub rfl ?_ | refine ag_kn (by assumption) ?_)), ?_⟩)
        show Value.bool _ = Value.bool _
        first | exact congrArg Value.bool (decide_eq_true (by omega)).symm | exact congrArg Value.bool (decide_eq_false (by omega)).symm | exact congrArg Value.bool (decide_eq_decide.2 (by omega)) | exact congrArg Value.bool ((decide_not).symm.trans (decide_eq_decide.2 (by omega)))
       ·
        refine wl_gd 49 rfl rfl ?_
        refine wl (r_mv (v := .int _ _) rfl) ?_
        refine wl_gd 49 rfl rfl ?_
        refine wl (r_eql rfl rfl) ?_
        refine wl (r_pf (v := .bool _) rfl rfl) ?_
        refine wl (r_notd rfl) ?_
        refine x_nil (e_R ⟨rfl, (by repeat (first | exact ag_refl | exact ag_ovr' | refine ag_upd rfl ?_ | refine ag_sub rfl ?_ | refine ag_kn (by assumption) ?_)), ?_⟩)
        show Value.bool _ = Value.bool _
        first | exact congrArg Value.bool (decide_eq_true (by omega)).symm | exact congrArg Value.bool (decide_eq_false (by omega)).symm | exact congrArg Value.bool (decide_eq_decide.2 (by omega)) | exact congrArg Value.bool ((decide_not).symm.trans (decide_eq_decide.2 (by omega)))
    ·
     refine wlgn 33 rfl rfl rfl ?_
     refine wlgn 33 rfl rfl rfl ?_
     refine wl (r_pf (v := .bool _) rfl rfl) ?_
     refine wl (r_mv (v := .bool _) rfl) ?_
     refine wl_gd 37 rfl rfl ?_
     refine wl (r_mv (v := .int _ _) rfl) ?_
     refine wl_gd 37 rfl rfl ?_
     refine wl (r_geq rfl rfl) ?_
     refine wl_gd 37 rfl rfl ?_
     refine wl (r_mv (v := .bool _) rfl) ?_
     refine wl_casesd 40 rfl (fun g40 => ?_) (fun g40 => ?_)
     ·
      refine wl_gd 40 rfl rfl ?_
      refine wl (r_mv (v := .int _ _) rfl) ?_
      refine wl_gd 40 rfl rfl ?_
      refine wl (r_leq rfl rfl) ?_
      refine wl_gd 37 rfl rfl ?_
      refine wl (r_pt (v := .bool _) rfl rfl) ?_
      refine wl (r_pf (v := .bool _) rfl rfl) ?_
      refine wl (r_mv (v := .bool _) rfl) ?_
      refine wl_casesd 45 rfl (fun g45 => ?_) (fun g45 => ?_)
      ·
       refine wlgn 45 rfl rfl rfl ?_
       refine wlgn 45 rfl rfl rfl ?_
       refine wl (r_pt (v := .bool _) rfl rfl) ?_
       refine wl (r_mv (v := .bool _) rfl) ?_
       refine wlgn 49 rfl rfl rfl ?_
       refine wlgn 49 rfl rfl rfl ?_
       refine wl (r_pt (v := .bool _) rfl rfl) ?_
       refine wl (r_not rfl) ?_
       refine x_nil (e_R ⟨rfl, (by repeat (first | exact ag_refl | exact ag_ovr' | refine ag_upd rfl ?_ | refine ag_sub rfl ?_ | refine ag_kn (by assumption) ?_)), ?_⟩)
       show Value.bool _ = Value.bool _
       first | exact congrArg Value.bool (decide_eq_true (by omega)).symm | exact congrArg Value.bool (decide_eq_false (by omega)).symm | exact congrArg Value.bool (decide_eq_decide.2 (by omega)) | exact congrArg Value.bool ((decide_not).symm.trans (decide_eq_decide.2 (by omega)))
      ·
       refine wl_gd 45 rfl rfl ?_
       refine wl (r_mv (v := .int _ _) rfl) ?_
       refine wl_gd 45 rfl rfl ?_
       refine wl (r_eql rfl rfl) ?_
       refine wl (r_pf (v := .bool _) rfl rfl) ?_
       refine wl (r_mv (v := .bool _) rfl) ?_
       refine wl_casesd 49 rfl (fun g49 => ?_) (fun g49 => ?_)
       ·
        refine wlgn 49 rfl rfl rfl ?_
        refine wlgn 49 rfl rfl rfl ?_
        refine wl (r_pt (v := .bool _) rfl rfl) ?_
        refine wl (r_not rfl) ?_
        refine x_nil (e_R ⟨rfl, (by repeat (first | exact ag_refl | exact ag_ovr' | refine ag_upd rfl ?_ | refine ag_sub rfl ?_ | refine ag_kn (by assumption) ?_)), ?_⟩)
        show Value.bool _ = Value.bool _
        first | exact congrArg Value.bool (decide_eq_true (by omega)).symm | exact congrArg Value.bool (decide_eq_false (by omega)).symm | exact congrArg Value.bool (decide_eq_decide.2 (by omega)) | exact congrArg Value.bool ((decide_not).symm.trans (decide_eq_decide.2 (by omega)))
       ·
        refine wl_gd 49 rfl rfl ?_
        refine wl (r_mv (v := .int _ _) rfl) ?_
        refine wl_gd 49 rfl rfl ?_
        refine wl (r_eql rfl rfl) ?_
        refine wl (r_pf (v := .bool _) rfl rfl) ?_
        refine wl (r_notd rfl) ?_
        refine x_nil (e_R ⟨rfl, (by repeat (first | exact ag_refl | exact ag_ovr' | refine ag_upd rfl ?_ | refine ag_sub rfl ?_ | refine ag_kn (by assumption) ?_)), ?_⟩)
        show Value.bool _ = Value.bool _
        first | exact congrArg Value.bool (decide_eq_true (by omega)).symm | exact congrArg Value.bool (decide_eq_false (by omega)).symm | exact congrArg Value.bool (decide_eq_decide.2 (by omega)) | exact congrArg Value.bool ((decide_not).symm.trans (decide_eq_decide.2 (by omega)))
     ·
      refine wlgn 40 rfl rfl rfl ?_
      refine wlgn 40 rfl rfl rfl ?_
      refine wl_gd 37 rfl rfl ?_
      refine wl (r_pf (v := .bool _) rfl rfl) ?_
      refine wl (r_pf (v := .bool _) rfl rfl) ?_
      refine wl (r_mv (v := .bool _) rfl) ?_
      refine wl_gd 45 rfl rfl ?_
      refine wl (r_mv (v := .int _ _) rfl) ?_
      refine wl_gd 45 rfl rfl ?_
      refine wl (r_eql rfl rfl) ?_
      refine wl (r_pf (v := .bool _) rfl rfl) ?_
      refine wl (r_mv (v := .bool _) rfl) ?_
      refine wl_casesd 49 rfl (fun g49 => ?_) (fun g49 => ?_)
      ·
       refine wlgn 49 rfl rfl rfl ?_
       refine wlgn 49 rfl rfl rfl ?_
       refine wl (r_pt (v := .bool _) rfl rfl) ?_
       refine wl (r_not rfl) ?_
       refine x_nil (e_R ⟨rfl, (by repeat (first | exact ag_refl | exact ag_ovr' | refine ag_upd rfl ?_ | refine ag_sub rfl ?_ | refine ag_kn (by assumption) ?_)), ?_⟩)
       show Value.bool _ = Value.bool _
       first | exact congrArg Value.bool (decide_eq_true (by omega)).symm | exact congrArg Value.bool (decide_eq_false (by omega)).symm | exact congrArg Value.bool (decide_eq_decide.2 (by omega)) | exact congrArg Value.bool ((decide_not).symm.trans (decide_eq_decide.2 (by omega)))
      ·
       refine wl_gd 49 rfl rfl ?_
       refine wl (r_mv (v := .int _ _) rfl) ?_
       refine wl_gd 49 rfl rfl ?_
       refine wl (r_eql rfl rfl) ?_
       refine wl (r_pf (v := .bool _) rfl rfl) ?_
       refine wl (r_notd rfl) ?_
       refine x_nil (e_R ⟨rfl, (by repeat (first | exact ag_refl | exact ag_ovr' | refine ag_upd rfl ?_ | refine ag_sub rfl ?_ | refine ag_kn (by assumption) ?_)), ?_⟩)
       show Value.bool _ = Value.bool _
       first | exact congrArg Value.bool (decide_eq_true (by omega)).symm | exact congrArg Value.bool (decide_eq_false (by omega)).symm | exact congrArg Value.bool (decide_eq_decide.2 (by omega)) | exact congrArg Value.bool ((decide_not).symm.trans (decide_eq_decide.2 (by omega)))
   refine e_S ?_
   refine c_ifd rfl (fun c53 => ?_) (fun c53 => ?_)
   ·
    refine c_seq ?_
    refine c_region ?_
    refine wl (r_as (v := .bool _) rfl) ?_
    refine x_nil ?_
    refine e_S ?_
    refine c_ret ?_
    refine e_Br ?_
    refine e_Sr ?_
    refine e_LSr ?_
    refine e_Br ?_
    refine e_Sr ?_
    refine fin1 (.inl rfl) rfl rfl ?_
    exact ⟨ret_bool (by rw [hN.out]; exact decide_eq_false (fun h => c53 ((nameCh_iff _).1 (h.2.2 k (by omega))))), rfl⟩
   ·
    have hall' : ∀ j (hj : j < s.size), j < k + 1 → nameCh (s[j]'hj) = true := fun j hj h => by
      by_cases e : j = k
      · subst e; exact (nameCh_iff _).2 (by omega)
      · exact hall j hj (by omega)
    refine c_skip ?_
    refine e_B ?_
    refine e_S ?_
    refine c_region ?_
    refine wl (r_add rfl rfl rfl (by omega)) ?_
    refine wl (r_mv (v := .int _ _) rfl) ?_
    refine x_nil ?_
    refine e_LS (s.size - (k + 1)) (by omega) (by repeat (first | exact ag_refl | exact ag_ovr' | refine ag_upd rfl ?_ | refine ag_sub rfl ?_ | refine ag_kn (by assumption) ?_)) ?_
    exact ⟨k + 1, by omega, rfl, rfl, rfl, fun j hj h => hall' j hj h⟩
  ·
   refine c_exit ?_
   refine e_Sx ?_
   refine e_LSx ?_
   refine e_Bx ?_
   refine e_S ?_
   refine c_seq ?_
   refine c_region ?_
   refine wl (r_as (v := .bool _) rfl) ?_
   refine x_nil ?_
   refine e_S ?_
   refine c_ret ?_
   refine fin1 (.inl rfl) rfl rfl ?_
   exact ⟨ret_bool (by rw [hN.out]; exact decide_eq_true ⟨by omega, by omega, fun j hj => hall j hj (by omega)⟩), rfl⟩

theorem fault_any (a b : Int) (w : World) : Calls Tryd.prog 18 #[.int .i64 a, .int .i64 b] w fun e w' => e = .returned (flV (a, b)) ∧ Bel w w' := by
 refine enter Tryd.func18 Tryd.ntmps18 rfl (Nat.le_of_ble_eq_true rfl) ?_
 have hB : Bel w w := Below.refl _ _
 refine c_seq ?_
 refine c_region ?_
 refine wl_al (cs := #[.int .i64 0, .int .i64 0]) ze24 rfl (fun b4 w1 hb4 hs hr => ?_)
 have lo4 := Nat.le_trans (Bel.size hB) hr
 replace hB := hB.tr0 hs
 clear hs
 clear hr
 refine x_nil ?_
 refine e_S ?_
 refine c_seq ?_
 refine c_region ?_
 refine wl (r_mv (v := .int _ _) rfl) ?_
 refine wl (r_mv (v := .int _ _) rfl) ?_
 refine wl (r_bd2 (v0 := .int _ _) (v1 := .int _ _) (fun v0 v1 => #[v0, v1]) rfl rfl (by kernel_rfl)) ?_
 refine wl_stW hb4 rfl rfl sz24 rfl (by repeat (first | rfl | refine one_cons (by first | rfl | assumption) ?_)) (fun w2 hq hs => ?_)
 replace hB := hB.tr1 hs lo4
 clear hs
 replace hb4 := hq
 refine x_nil ?_
 refine e_S ?_
 refine c_ret ?_
 refine fin1 (.inl rfl) rfl (rr_cell Tryd.underlying24 rfl rfl hb4.range0 sz24) ?_
 exact ⟨rfl, hB⟩
end Go.Proofs.YtahdbbgkgokkhaaDoor
