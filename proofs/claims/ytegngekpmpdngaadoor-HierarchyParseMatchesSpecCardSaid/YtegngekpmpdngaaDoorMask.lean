/- What these functions of the program compute, at every world: glosswright/glosswrightref3.Name, glosswright/glosswrightref3.TypesFault. What these functions of the program compute, at every world: glosswright/glosswrightref3.Sub. Sets of small numbers as bits. -/
import Derived.Test.YtegngekpmpdngaaDoorU
import Derived.Test.YtegngekpmpdngaaDoorTypes
import Derived.Lib.TrailingZeros
namespace Go.Proofs.YtegngekpmpdngaaDoor
open Go.RowKit
theorem seen_yes {l : List Ty} {j k : Nat} {s : ByteArray} (hk : k < l.length) (hj : j < k) (h : (l[j]'om).name = s) : seen ((l.take k).map (·.name)) s = true := by
  simp only [seen, List.any_eq_true, decide_eq_true_eq, List.mem_map]
  refine ⟨_, ⟨l[j]'om, ?_, rfl⟩, h⟩
  rw [List.mem_take_iff_getElem]
  exact ⟨j, by omega, rfl⟩
theorem fn63 : callable Tryd.prog 63 = true := by kernel_rfl
theorem sz5 : (Tryd.prog.info? 5).map (·.size) = some 1 := by kernel_rfl
theorem rname_any (s : ByteArray) (w : World) : Calls Tryd.prog 63 #[.string s] w fun e w' => e = .returned (.bool (isName s)) ∧ Bel w w' := by
 obtain ⟨c0, e0⟩ := hd_num s
 have hN := Lib.hid (isName_eq s c0 e0)
 refine enter Tryd.func63 Tryd.ntmps63 rfl (Nat.le_of_ble_eq_true rfl) ?_
 have hB : Bel w w := Below.refl _ _
 refine c_seq (c_region (waB rfl (x_nil (e_S (c_seq ?_)))))
 refine c_seq ?_
 refine c_cut1 [7, 8, 9, 10, 11, 12, 13, 14] 14 (.bool (decide (s.size < 1 ∨ 30 < s.size))) nu ?_ (fun gq => ?_)
 ·
  refine c_region (wl (r_mv (v := .string _) rfl) (wl (r_lenS U9 rfl) (wl (r_lss rfl rfl) (wmB rfl ?_))))
  refine wl_casesd 10 rfl (fun g10 => ?_) (fun g10 => ?_)
  ·
   refine wlgn 10 rfl rfl rfl (wlgn 10 rfl rfl rfl (wlgn 10 rfl rfl rfl (wl (r_pt (v := .bool _) rfl rfl) ?_)))
   refine x_nil (e_R ⟨rfl, agA, ?_⟩)
   exact clA
  refine wl_gd 10 rfl rfl (wl (r_mv (v := .string _) rfl) (wl_gd 10 rfl rfl (wl (r_lenS U9 rfl) (wl_gd 10 rfl rfl (wl (r_gtr rfl rfl) ?_)))))
  refine wl (r_pf (v := .bool _) rfl rfl) ?_
  refine x_nil (e_R ⟨rfl, agA, ?_⟩)
  exact clA
 refine e_S ?_
 refine c_ifd rfl (fun c14 => ?_) (fun c14 => ?_)
 ·
  refine c_seq (c_region (waB rfl (x_nil (e_S (c_ret ?_)))))
  refine e_Sr (fin1 (.inl rfl) rfl rfl ?_)
  exact ⟨ret_bool (by rw [hN.out]; exact decide_eq_false (fun h => by omega)), hB⟩
 refine c_skip (e_S (c_seq (c_seq (c_region (wl (r_mv (v := .string _) rfl) ?_)))))
 refine wl_cvB U9 Tryd.underlying129 U5 rfl (fun b16 c16 w1 hc16 hs hr => ?_)
 have lo16 := nLT (Bel.size hB) hr
 replace hB := hB.tr0 hs
 clear hs
 refine wl (r_len Tryd.underlying129 rfl) (wmI rfl (x_nil (e_S (c_block ?_))))
 refine c_loopS [2, 3, 4, 5, 6, 18, 19, 20, 21, 22, 23, 24, 25, 26, 27, 28, 29, 30, 31, 32, 33, 34, 35, 36, 37, 38, 39, 40, 41, 42, 43, 44, 45, 46, 47, 48, 49, 50, 51, 52, 53] (fun m g w' => ∃ k : Nat, k ≤ s.size ∧ m = s.size - k ∧ g 18 = .int .i64 k ∧ w1 = w' ∧ (0 < k → 97 ≤ c0 ∧ c0 ≤ 122) ∧ (∀ j (hj : j < s.size), j < k → nameCh (s[j]'hj) = true)) (s.size) ?_ (fun m g4 w2 hI => ?_)
 ·
  exact ⟨0, Nat.zero_le _, rfl, rfl, rfl, fun h => by omega, fun j hj h => by omega⟩
 obtain ⟨k, hk, hm, h18, rfl, hz, hall⟩ := hI
 refine c_know 18 (.int .i64 k) h18 nu (c_seq (c_region (wl (r_lss rfl rfl) (x_nil (e_S ?_)))))
 refine c_seq ?_
 refine c_ifd rfl (fun c19 => ?_) (fun c19 => ?_)
 ·
  refine c_skip (e_S (c_seq (c_block (c_seq (c_region ?_)))))
  refine wmI rfl (wl (r_ia (i := k) Tryd.underlying129 sz5 rfl rfl om rfl) (wl (r_ld1 (v := .int _ _) U5 rfl rfl (hc16 k om)) (waI rfl (waI rfl (x_nil ?_)))))
  refine e_S (c_seq ?_)
  refine c_cut1 [5, 23, 24, 25, 26, 27, 28] 5 (.bool (decide (97 ≤ (s[k]'om).toNat ∧ (s[k]'om).toNat ≤ 122))) nu ?_ (fun gq => ?_)
  ·
   refine c_region (wmI rfl (wl (r_geq rfl rfl) (wmB rfl ?_)))
   refine wl_casesd 25 rfl (fun g25 => ?_) (fun g25 => ?_)
   ·
    refine wl_gd 25 rfl rfl (wmI rfl (wl_gd 25 rfl rfl (wl (r_leq rfl rfl) (wl (r_pt (v := .bool _) rfl rfl) (waB rfl ?_)))))
    refine x_nil (e_R ⟨rfl, agA, ?_⟩)
    exact clA
   refine wlgn 25 rfl rfl rfl (wlgn 25 rfl rfl rfl (wl (r_pf (v := .bool _) rfl rfl) (waB rfl ?_)))
   refine x_nil (e_R ⟨rfl, agA, ?_⟩)
   exact clA
  refine e_S (c_seq ?_)
  refine c_cut1 [6, 29, 30, 31, 32, 33, 34, 35, 36, 37, 38, 39, 40, 41, 42] 6 (.bool (decide ((48 ≤ (s[k]'om).toNat ∧ (s[k]'om).toNat ≤ 57) ∨ (s[k]'om).toNat = 95 ∨ (s[k]'om).toNat = 45))) nu ?_ (fun gq => ?_)
  ·
   refine c_region (wmI rfl (wl (r_geq rfl rfl) (wmB rfl ?_)))
   refine wl_casesd 31 rfl (fun g31 => ?_) (fun g31 => ?_)
   ·
    refine wl_gd 31 rfl rfl (wmI rfl (wl_gd 31 rfl rfl (wl (r_leq rfl rfl) (wl (r_pt (v := .bool _) rfl rfl) (wmB rfl ?_)))))
    refine wl_casesd 35 rfl (fun g35 => ?_) (fun g35 => ?_)
    ·
     refine wlgn 35 rfl rfl rfl (wlgn 35 rfl rfl rfl (wl (r_pt (v := .bool _) rfl rfl) (wmB rfl (wlgn 39 rfl rfl rfl (wlgn 39 rfl rfl rfl ?_)))))
     refine wl (r_pt (v := .bool _) rfl rfl) (waB rfl ?_)
     refine x_nil (e_R ⟨rfl, agA, ?_⟩)
     exact clA
    refine wl_gd 35 rfl rfl (wmI rfl (wl_gd 35 rfl rfl (wl (r_eql rfl rfl) (wl (r_pf (v := .bool _) rfl rfl) (wmB rfl ?_)))))
    refine wl_casesd 39 rfl (fun g39 => ?_) (fun g39 => ?_)
    ·
     refine wlgn 39 rfl rfl rfl (wlgn 39 rfl rfl rfl (wl (r_pt (v := .bool _) rfl rfl) (waB rfl ?_)))
     refine x_nil (e_R ⟨rfl, agA, ?_⟩)
     exact clA
    refine wl_gd 39 rfl rfl (wmI rfl (wl_gd 39 rfl rfl (wl (r_eql rfl rfl) (wl (r_pf (v := .bool _) rfl rfl) (waB rfl ?_)))))
    refine x_nil (e_R ⟨rfl, agA, ?_⟩)
    exact clA
   refine wlgn 31 rfl rfl rfl (wlgn 31 rfl rfl rfl (wl (r_pf (v := .bool _) rfl rfl) (wmB rfl (wl_gd 35 rfl rfl (wmI rfl ?_)))))
   refine wl_gd 35 rfl rfl (wl (r_eql rfl rfl) (wl (r_pf (v := .bool _) rfl rfl) (wmB rfl ?_)))
   refine wl_casesd 39 rfl (fun g39 => ?_) (fun g39 => ?_)
   ·
    refine wlgn 39 rfl rfl rfl (wlgn 39 rfl rfl rfl (wl (r_pt (v := .bool _) rfl rfl) (waB rfl ?_)))
    refine x_nil (e_R ⟨rfl, agA, ?_⟩)
    exact clA
   refine wl_gd 39 rfl rfl (wmI rfl (wl_gd 39 rfl rfl (wl (r_eql rfl rfl) (wl (r_pf (v := .bool _) rfl rfl) (waB rfl ?_)))))
   refine x_nil (e_R ⟨rfl, agA, ?_⟩)
   exact clA
  refine e_S (c_seq ?_)
  refine c_cut1 [43, 44, 45, 46, 47, 48, 49, 50, 51, 52] 52 (.bool (decide (¬ (97 ≤ (s[k]'om).toNat ∧ (s[k]'om).toNat ≤ 122) ∧ (¬ ((48 ≤ (s[k]'om).toNat ∧ (s[k]'om).toNat ≤ 57) ∨ (s[k]'om).toNat = 95 ∨ (s[k]'om).toNat = 45) ∨ k = 0)))) nu ?_ (fun gq => ?_)
  ·
   refine c_region (wmB rfl (wl (r_notd rfl) (wmB rfl ?_)))
   refine wl_casesd 45 rfl (fun g45 => ?_) (fun g45 => ?_)
   ·
    refine wl_gd 45 rfl rfl (wmB rfl (wl_gd 45 rfl rfl (wl (r_notd rfl) (wl_gd 45 rfl rfl (wmB rfl ?_)))))
    refine wl_casesd 48 rfl (fun g48 => ?_) (fun g48 => ?_)
    ·
     refine wlgn 48 rfl rfl rfl (wlgn 48 rfl rfl rfl (wl_gd 45 rfl rfl (wl (r_pt (v := .bool _) rfl rfl) (wl (r_pt (v := .bool _) rfl rfl) ?_))))
     refine x_nil (e_R ⟨rfl, agA, ?_⟩)
     exact clA
    refine wl_gd 48 rfl rfl (wmI rfl (wl_gd 48 rfl rfl (wl (r_eql rfl rfl) (wl_gd 45 rfl rfl (wl (r_pf (v := .bool _) rfl rfl) ?_)))))
    refine wl (r_pt (v := .bool _) rfl rfl) ?_
    refine x_nil (e_R ⟨rfl, agA, ?_⟩)
    exact clA
   refine wlgn 45 rfl rfl rfl (wlgn 45 rfl rfl rfl (wlgn 45 rfl rfl rfl (wlgu 48 rfl rfl (wlgu 48 rfl rfl (wlgn 45 rfl rfl rfl ?_)))))
   refine wl (r_pf (v := .bool _) rfl rfl) ?_
   refine x_nil (e_R ⟨rfl, agA, ?_⟩)
   exact clA
  refine e_S ?_
  refine c_ifd rfl (fun c52 => ?_) (fun c52 => ?_)
  ·
   have hno : ¬ ((97 ≤ c0 ∧ c0 ≤ 122) ∧ ∀ j (hj : j < s.size), nameCh (s[j]'hj) = true) := fun h => by
     have h1 := (nameCh_iff _).1 (h.2 k om)
     have h2 : k = 0 := by omega
     subst h2
     have := e0 om
     omega
   refine c_seq (c_region (waB rfl (x_nil (e_S (c_ret ?_)))))
   refine e_Br (e_Sr (e_LSr (e_Br (e_Sr (fin1 (.inl rfl) rfl rfl ?_)))))
   exact ⟨ret_bool (by rw [hN.out]; exact decide_eq_false (fun h => hno h.2)), hB⟩
  have hz' : 97 ≤ c0 ∧ c0 ≤ 122 := by
    by_cases e : k = 0
    · subst e; have := e0 om; omega
    · exact hz om
  have hall' : ∀ j (hj : j < s.size), j < k + 1 → nameCh (s[j]'hj) = true := fun j hj h => by
    by_cases e : j = k
    · subst e; exact (nameCh_iff _).2 om
    · exact hall j hj om
  refine c_skip (e_B (e_S (c_region (wl (r_add rfl rfl rfl om) (wmI rfl ?_)))))
  refine x_nil (e_LS (s.size - (k + 1)) om agA ?_)
  exact ⟨k + 1, by omega, rfl, rfl, rfl, fun _ => hz', fun j hj h => hall' j hj h⟩
 refine c_exit (e_Sx (e_LSx (e_Bx (e_S (c_seq ?_)))))
 refine c_region (waB rfl (x_nil (e_S (c_ret (fin1 (.inl rfl) rfl rfl ?_)))))
 exact ⟨ret_bool (by rw [hN.out]; exact decide_eq_true ⟨by omega, hz om, fun j hj => hall j hj om⟩), hB⟩
theorem typesFault_any (A : Option Addr) (c : Nat) (l : List Ty) (w : World) (hc : l.length ≤ c) (hT : TypesIn w A l) : Calls Tryd.prog 61 #[.slice A l.length c] w fun e w' => e = .returned (flV (typesFault l)) ∧ Bel w w' := by
 refine enter Tryd.func61 Tryd.ntmps61 rfl (Nat.le_of_ble_eq_true rfl) ?_
 have hB : Bel w w := Below.refl _ _
 refine c_seq (c_region ?_)
 refine wl_al (cs := #[.int .i64 0, .int .i64 0]) ze35 rfl (fun b2 w1 hb2 hs hr => ?_)
 have lo2 := nLT (Bel.size hB) hr
 replace hB := hB.tr0 hs
 clear hs
 clear hr
 refine x_nil (e_S (c_seq (c_seq ?_)))
 refine c_cut1 [9, 10, 11, 12, 13, 14, 15, 16] 16 (.bool (decide (l.length = 0 ∨ 60 < l.length))) nu ?_ (fun gq => ?_)
 ·
  refine c_region (wmS rfl (wl (r_len U22 rfl) (wl (r_eql rfl rfl) (wmB rfl ?_))))
  refine wl_casesd 12 rfl (fun g12 => ?_) (fun g12 => ?_)
  ·
   refine wlgn 12 rfl rfl rfl (wlgn 12 rfl rfl rfl (wlgn 12 rfl rfl rfl (wl (r_pt (v := .bool _) rfl rfl) ?_)))
   refine x_nil (e_R ⟨rfl, agA, ?_⟩)
   exact clA
  refine wl_gd 12 rfl rfl (wmS rfl (wl_gd 12 rfl rfl (wl (r_len U22 rfl) (wl_gd 12 rfl rfl (wl (r_gtr rfl rfl) ?_)))))
  refine wl (r_pf (v := .bool _) rfl rfl) ?_
  refine x_nil (e_R ⟨rfl, agA, ?_⟩)
  exact clA
 refine e_S ?_
 refine c_ifd rfl (fun c16 => ?_) (fun c16 => ?_)
 ·
  refine c_seq (c_region (wl (r_bd2 (v0 := .int _ _) (v1 := .int _ _) (fun v0 v1 => #[v0, v1]) rfl rfl kR) ?_))
  refine wl_stW hb2 rfl rfl sz35 rfl oneA (fun w2 hq hs => ?_)
  replace hB := hB.tr1 hs lo2
  clear hs
  replace hb2 := hq
  refine x_nil (e_S (c_ret (e_Sr (fin1 (.inl rfl) rfl (rr_cell U35 rfl rfl hb2.range0 sz35) ?_))))
  exact ⟨ret_fl (by simp only [typesFault, if_pos c16]), hB⟩
 have hR := Lib.hid (show typesFault l = firstF (tyFault l) 0 (l.length - 0) by simp only [typesFault, if_neg c16, Nat.sub_zero])
 refine c_skip (e_S (c_seq (c_seq (c_region (wmS rfl ?_)))))
 refine wl (r_len U22 rfl) (wmI rfl (x_nil (e_S (c_block ?_))))
 refine c_loopS [3, 4, 6, 7, 8, 20, 21, 22, 23, 24, 25, 26, 27, 28, 29, 30, 31, 32, 33, 34, 35, 36, 37, 38, 39, 40, 41, 42, 43, 44, 45, 46, 47, 48, 49, 50, 51, 52, 53, 54, 55, 56, 57, 58, 59, 60, 61, 62, 63, 64, 65, 66, 67, 68, 69, 70, 71, 72, 73, 74, 75, 76, 77, 78, 79, 80, 81, 82, 83, 84, 85, 86, 87, 88] (fun m g w' => ∃ (k : Nat), k ≤ l.length ∧ m = l.length - k ∧ g 20 = .int .i64 k ∧ Bel w w' ∧ Blk w' b2 35 #[.int .i64 0, .int .i64 0] ∧ typesFault l = firstF (tyFault l) k (l.length - k)) (l.length) ?_ (fun m g4 w3 hI => ?_)
 ·
  exact ⟨0, Nat.zero_le _, rfl, rfl, hB, hb2, hR.out⟩
 obtain ⟨k, hk, hm, h20, hB, hb2, hR'⟩ := hI
 refine c_know 20 (.int .i64 k) h20 nu (c_seq (c_region (wl (r_lss rfl rfl) (x_nil (e_S ?_)))))
 refine c_seq ?_
 refine c_ifd rfl (fun c21 => ?_) (fun c21 => ?_)
 ·
  have hlt : k < l.length := by omega
  obtain ⟨tb, to, A', cp, rfl, htb, htr, hpar⟩ := hT.at_ hB hlt
  refine c_skip (e_S (c_seq (c_block (c_seq (c_region ?_)))))
  refine wmI rfl (wl (r_ia (i := k) U22 sz77 rfl rfl om rfl) (wl (r_ldS U77 rfl rfl htr sz77) ?_))
  refine wl_al (cs := #[.string ⟨#[]⟩, .slice none 0 0]) ze77 rfl (fun b4 w4 hb4 hs hr => ?_)
  have or_b2_b4 : b2 < b4 := nLL hb2.lt hr
  have lo4 := nLT (Bel.size hB) hr
  replace hB := hB.tr0 hs
  replace hb2 := hb2.tr0 hs
  clear hs
  clear hr
  refine waI rfl ?_
  refine wl_stW hb4 rfl rfl sz77 rfl oneA (fun w5 hq hs => ?_)
  replace hB := hB.tr1 hs lo4
  replace hb2 := hb2.tr1 hs om
  clear hs
  replace hb4 := hq
  refine x_nil (e_S (c_seq (c_seq (c_region (wl (r_fa U77 sz9 dE rfl rfl rfl) ?_)))))
  refine wl (r_ld1 (v := .string _) U9 rfl rfl (hb4.cell rfl)) ?_
  refine wl_cl fn63 (rname_any _ _) rfl (fun e' w6 hr => ?_)
  obtain ⟨rfl, hs⟩ := hr
  replace hs := Same.of_bel hs
  replace hB := hB.tr0 hs
  replace hb2 := hb2.tr0 hs
  replace hb4 := hb4.tr0 hs
  clear hs
  refine ⟨_, rfl, ?_⟩
  refine wl (r_not rfl) (x_nil (e_S ?_))
  refine c_if rfl (fun c28 => ?_) (fun c28 => ?_)
  ·
   have hty := ty10 l k hlt (by simpa using c28)
   refine c_seq (c_region (wmI rfl (wl (r_bd2 (v0 := .int _ _) (v1 := .int _ _) (fun v0 v1 => #[v0, v1]) rfl rfl kR) ?_)))
   refine wl_stW hb2 rfl rfl sz35 rfl oneA (fun w7 hq hs => ?_)
   replace hB := hB.tr1 hs lo2
   replace hb4 := hb4.tr1 hs om
   clear hs
   replace hb2 := hq
   refine x_nil (e_S (c_ret (e_Sr (e_Br (e_Sr ?_)))))
   refine e_LSr (e_Br (e_Sr (fin1 (.inl rfl) rfl (rr_cell U35 rfl rfl hb2.range0 sz35) ?_)))
   exact ⟨ret_fl (hR'.trans (firstF_hit (c := 10) om hty dE)), hB⟩
  have hnm : isName (l[k]'hlt).name = true := by simpa using c28
  refine c_skip (e_S (c_seq (c_seq (c_region (wmS rfl ?_)))))
  refine wmI rfl (wl (r_slH (h := k) U22 sz77 rfl rfl om) (wl (r_len U22 rfl) (wmI rfl (x_nil (e_S ?_)))))
  refine c_block ?_
  refine c_loopS [6, 35, 36, 37, 38, 39, 40, 41, 42, 43, 44, 45, 46] (fun m g w' => ∃ (j : Nat), j ≤ k ∧ m = k - j ∧ g 35 = .int .i64 j ∧ Bel w w' ∧ Blk w' b2 35 #[.int .i64 0, .int .i64 0] ∧ Blk w' b4 77 #[.string (l[k]'hlt).name, .slice A' (l[k]'hlt).par.length cp] ∧ seen ((l.take j).map (·.name)) (l[k]'hlt).name = false) (k) ?_ (fun m g9 w8 hI => ?_)
  ·
   exact ⟨0, Nat.zero_le _, rfl, rfl, hB, hb2, hb4, rfl⟩
  obtain ⟨j, hj, hmj, h35, hB, hb2, hb4, hse⟩ := hI
  refine c_know 35 (.int .i64 j) h35 nu (c_seq (c_region (wl (r_lss rfl rfl) (x_nil (e_S ?_)))))
  refine c_seq ?_
  refine c_ifd rfl (fun c36 => ?_) (fun c36 => ?_)
  ·
   have hjt : j < l.length := by omega
   obtain ⟨ub, uo, B', cq, he, hub, hur, _⟩ := hT.at_ hB hjt
   cases he
   refine c_skip (e_S (c_seq (c_block (c_seq (c_region ?_)))))
   refine wl (r_ia (i := j) U22 sz77 rfl rfl om rfl) (wl (r_ldS U77 rfl rfl hur sz77) ?_)
   refine wl_al (cs := #[.string ⟨#[]⟩, .slice none 0 0]) ze77 rfl (fun b6 w9 hb6 hs hr => ?_)
   have or_b2_b6 : b2 < b6 := nLL hb2.lt hr
   have or_b4_b6 : b4 < b6 := nLL hb4.lt hr
   have lo6 := nLT (Bel.size hB) hr
   replace hB := hB.tr0 hs
   replace hb2 := hb2.tr0 hs
   replace hb4 := hb4.tr0 hs
   clear hs
   clear hr
   refine wl_stW hb6 rfl rfl sz77 rfl oneA (fun w10 hq hs => ?_)
   replace hB := hB.tr1 hs lo6
   replace hb2 := hb2.tr1 hs om
   replace hb4 := hb4.tr1 hs om
   clear hs
   replace hb6 := hq
   refine x_nil (e_S (c_seq (c_region (wl (r_fa U77 sz9 dE rfl rfl rfl) (wl (r_ld1 (v := .string _) U9 rfl rfl (hb6.cell rfl)) ?_)))))
   refine wl (r_fa U77 sz9 dE rfl rfl rfl) (wl (r_ld1 (v := .string _) U9 rfl rfl (hb4.cell rfl)) (wl (r_eqlS rfl rfl) (x_nil (e_S ?_))))
   refine c_ifd rfl (fun c43 => ?_) (fun c43 => ?_)
   ·
    have hty := ty7 l k hlt hnm (seen_yes hlt om c43)
    refine c_seq (c_region (wmI rfl (wl (r_bd2 (v0 := .int _ _) (v1 := .int _ _) (fun v0 v1 => #[v0, v1]) rfl rfl kR) ?_)))
    refine wl_stW hb2 rfl rfl sz35 rfl oneA (fun w11 hq hs => ?_)
    replace hB := hB.tr1 hs lo2
    replace hb4 := hb4.tr1 hs om
    replace hb6 := hb6.tr1 hs om
    clear hs
    replace hb2 := hq
    refine x_nil (e_S (c_ret (e_Br (e_Sr (e_LSr ?_)))))
    refine e_Br (e_Sr (e_Br (e_Sr (e_LSr (e_Br ?_)))))
    refine e_Sr (fin1 (.inl rfl) rfl (rr_cell U35 rfl rfl hb2.range0 sz35) ?_)
    exact ⟨ret_fl (hR'.trans (firstF_hit (c := 7) om hty dE)), hB⟩
   have hse' : seen ((l.take (j + 1)).map (·.name)) (l[k]'hlt).name = false := by rw [take_snoc l hjt, List.map_append, List.map_cons, List.map_nil, seen_snoc, hse]; simp [c43]
   refine c_skip (e_B (e_S (c_region (wl (r_add rfl rfl rfl om) (wmI rfl ?_)))))
   refine x_nil (e_LS (k - (j + 1)) om agA ?_)
   exact ⟨j + 1, by omega, rfl, rfl, hB, hb2, hb4, hse'⟩
  have hsn : seen ((l.take k).map (·.name)) (l[k]'hlt).name = false := by
    have e : k = j := by omega
    subst e; exact hse
  refine c_exit (e_Sx (e_LSx (e_Bx (e_S (c_seq ?_)))))
  refine c_seq (c_region (wmI rfl (wl (r_eql rfl rfl) (wl (r_fa U77 sz43 dE rfl rfl rfl) (wl (r_ld1 (v := .slice _ _ _) U43 rfl rfl (hb4.cell rfl)) ?_)))))
  refine wl (r_len U43 rfl) (wl (r_eql rfl rfl) (wl (r_neqB U4 rfl rfl) (x_nil (e_S ?_))))
  refine c_if rfl (fun c53 => ?_) (fun c53 => ?_)
  ·
   have hty := ty5 l k hlt hnm hsn (mal_yes c53)
   refine c_seq (c_region (wmI rfl (wl (r_bd2 (v0 := .int _ _) (v1 := .int _ _) (fun v0 v1 => #[v0, v1]) rfl rfl kR) ?_)))
   refine wl_stW hb2 rfl rfl sz35 rfl oneA (fun w12 hq hs => ?_)
   replace hB := hB.tr1 hs lo2
   replace hb4 := hb4.tr1 hs om
   clear hs
   replace hb2 := hq
   refine x_nil (e_S (c_ret (e_Sr (e_Br (e_Sr ?_)))))
   refine e_LSr (e_Br (e_Sr (fin1 (.inl rfl) rfl (rr_cell U35 rfl rfl hb2.range0 sz35) ?_)))
   exact ⟨ret_fl (hR'.trans (firstF_hit (c := 5) om hty dE)), hB⟩
  have hmal := mal_no c53
  refine c_skip (e_S (c_seq (c_region (wl (r_fa U77 sz43 dE rfl rfl rfl) (wl (r_ld1 (v := .slice _ _ _) U43 rfl rfl (hb4.cell rfl)) ?_)))))
  refine wl (r_len U43 rfl) (wmI rfl (x_nil (e_S (c_block ?_))))
  refine c_loopS [7, 8, 59, 60, 61, 62, 63, 64, 65, 66, 67, 68, 69, 70, 71, 72, 73, 74, 75, 76, 77, 78, 79, 80, 81, 82, 83, 84, 85, 86, 87] (fun m g w' => ∃ (j : Nat) (last : Int), j ≤ (l[k]'hlt).par.length ∧ m = (l[k]'hlt).par.length - j ∧ g 59 = .int .i64 j ∧ w8 = w' ∧ (j = 0 → last = -1) ∧ (∀ h : 0 < j ∧ j - 1 < (l[k]'hlt).par.length, last = ((l[k]'hlt).par[j - 1]'h.2)) ∧ tyFault l k = parFault k last ((l[k]'hlt).par.drop j)) ((l[k]'hlt).par.length) ?_ (fun m g17 w13 hI => ?_)
  ·
   exact ⟨0, -1, Nat.zero_le _, rfl, rfl, rfl, fun _ => rfl, fun h => by omega, tyF_par l k hlt hnm hsn hmal⟩
  obtain ⟨j, last, hj, hmj, h59, rfl, hl0, hl1, hP⟩ := hI
  refine c_know 59 (.int .i64 j) h59 nu (c_seq (c_region (wl (r_lss rfl rfl) (x_nil (e_S ?_)))))
  refine c_seq ?_
  refine c_ifd rfl (fun c60 => ?_) (fun c60 => ?_)
  ·
   have hlj : j < (l[k]'hlt).par.length := by omega
   have hmx := hpar.1
   unfold maxI at hmx
   have hpar' := hpar
   obtain ⟨pb, po, rfl, hpb, hpc⟩ := hpar.at_ hlj
   replace hpc := hB.cell hpb hpc
   have hpd : ∀ h : j - 1 < (l[k]'hlt).par.length, w8.cell? ⟨pb, po + (j - 1) * 1, none⟩ = some (.int .i64 ((l[k]'hlt).par[j - 1]'h)) := fun h => by
     obtain ⟨pb2, po2, he, hpb2, hpc2⟩ := hpar'.at_ h
     cases he
     exact hB.cell hpb2 hpc2
   refine c_skip (e_S (c_seq (c_block (c_seq (c_region ?_)))))
   refine wmI rfl (wl (r_ia (i := j) U43 sz3 rfl rfl om rfl) (wl (r_ld1 (v := .int _ _) U3 rfl rfl hpc) (waI rfl (waI rfl (x_nil ?_)))))
   refine e_S (c_seq (c_seq ?_))
   refine c_cut1 [64, 65, 66, 67, 68, 69, 70] 70 (.bool (decide ((l[k]'hlt).par[j] < 0 ∨ (k : Int) ≤ (l[k]'hlt).par[j]))) nu ?_ (fun gq => ?_)
   ·
    refine c_region (wmI rfl (wl (r_lss rfl rfl) (wmB rfl ?_)))
    refine wl_casesd 66 rfl (fun g66 => ?_) (fun g66 => ?_)
    ·
     refine wlgn 66 rfl rfl rfl (wlgn 66 rfl rfl rfl (wlgn 66 rfl rfl rfl (wl (r_pt (v := .bool _) rfl rfl) ?_)))
     refine x_nil (e_R ⟨rfl, agA, ?_⟩)
     exact clA
    refine wl_gd 66 rfl rfl (wmI rfl (wl_gd 66 rfl rfl (wmI rfl (wl_gd 66 rfl rfl (wl (r_geq rfl rfl) ?_)))))
    refine wl (r_pf (v := .bool _) rfl rfl) ?_
    refine x_nil (e_R ⟨rfl, agA, ?_⟩)
    exact clA
   refine e_S ?_
   refine c_ifd rfl (fun c70 => ?_) (fun c70 => ?_)
   ·
    have hty : tyFault l k = 3 := by rw [hP, List.drop_eq_getElem_cons hlj]; simp only [parFault, if_pos c70]
    refine c_seq (c_region (wmI rfl (wl (r_bd2 (v0 := .int _ _) (v1 := .int _ _) (fun v0 v1 => #[v0, v1]) rfl rfl kR) ?_)))
    refine wl_stW hb2 rfl rfl sz35 rfl oneA (fun w14 hq hs => ?_)
    replace hB := hB.tr1 hs lo2
    replace hb4 := hb4.tr1 hs om
    clear hs
    replace hb2 := hq
    refine x_nil (e_S (c_ret (e_Sr (e_Br (e_Sr ?_)))))
    refine e_LSr (e_Br (e_Br (e_Sr (e_LSr (e_Br ?_)))))
    refine e_Sr (fin1 (.inl rfl) rfl (rr_cell U35 rfl rfl hb2.range0 sz35) ?_)
    exact ⟨ret_fl (hR'.trans (firstF_hit (c := 3) om hty dE)), hB⟩
   refine c_skip (e_S (c_seq ?_))
   refine c_cut1 [73, 74, 75, 76, 77, 78, 79, 80, 81, 82, 83, 84] 84 (.bool (decide (0 < j ∧ (l[k]'hlt).par[j] ≤ ((l[k]'hlt).par[j - 1]'om)))) nu ?_ (fun gq => ?_)
   ·
    refine c_region (wmI rfl (wl (r_gtr rfl rfl) (wmB rfl ?_)))
    refine wl_casesd 75 rfl (fun g75 => ?_) (fun g75 => ?_)
    ·
     refine wl_gd 75 rfl rfl (wmI rfl (wl_gd 75 rfl rfl (wl (r_fa U77 sz43 dE rfl rfl rfl) (wl_gd 75 rfl rfl (wl (r_ld1 (v := .slice _ _ _) U43 rfl rfl (hb4.cell rfl)) ?_)))))
     refine wl_gd 75 rfl rfl (wmI rfl (wl_gd 75 rfl rfl (wl (r_sub (c := ((j - 1 : Nat) : Int)) rfl rfl om om) (wl_gd 75 rfl rfl (wl (r_ia (i := j - 1) U43 sz3 rfl rfl om rfl) ?_)))))
     refine wl_gd 75 rfl rfl (wl (r_ld1 (v := .int _ _) U3 rfl rfl (hpd om)) (wl_gd 75 rfl rfl (wl (r_leq rfl rfl) (wl (r_pt (v := .bool _) rfl rfl) ?_))))
     refine x_nil (e_R ⟨rfl, agA, ?_⟩)
     exact clA
    refine wlgn 75 rfl rfl rfl (wlgn 75 rfl rfl rfl (wlgn 75 rfl rfl rfl (wlgn 75 rfl rfl rfl (wlgn 75 rfl rfl rfl (wlgn 75 rfl rfl rfl ?_)))))
    refine wlgn 75 rfl rfl rfl (wlgn 75 rfl rfl rfl (wl (r_pf (v := .bool _) rfl rfl) ?_))
    refine x_nil (e_R ⟨rfl, agA, ?_⟩)
    exact clA
   refine e_S ?_
   refine c_ifd rfl (fun c84 => ?_) (fun c84 => ?_)
   ·
    have hty : tyFault l k = 13 := by rw [hP, List.drop_eq_getElem_cons hlj, hl1 ⟨c84.1, by omega⟩]; simp only [parFault, if_neg c70, if_pos c84.2]
    refine c_seq (c_region (wmI rfl (wl (r_bd2 (v0 := .int _ _) (v1 := .int _ _) (fun v0 v1 => #[v0, v1]) rfl rfl kR) ?_)))
    refine wl_stW hb2 rfl rfl sz35 rfl oneA (fun w15 hq hs => ?_)
    replace hB := hB.tr1 hs lo2
    replace hb4 := hb4.tr1 hs om
    clear hs
    replace hb2 := hq
    refine x_nil (e_S (c_ret (e_Br (e_Sr (e_LSr ?_)))))
    refine e_Br (e_Br (e_Sr (e_LSr (e_Br (e_Sr ?_)))))
    refine fin1 (.inl rfl) rfl (rr_cell U35 rfl rfl hb2.range0 sz35) ?_
    exact ⟨ret_fl (hR'.trans (firstF_hit (c := 13) om hty dE)), hB⟩
   have hP' : tyFault l k = parFault k (l[k]'hlt).par[j] ((l[k]'hlt).par.drop (j + 1)) := by
     have hnl : ¬ (l[k]'hlt).par[j] ≤ last := fun h => by
       by_cases e : j = 0
       · have := hl0 e; omega
       · have := hl1 ⟨by omega, by omega⟩; exact c84 ⟨by omega, by omega⟩
     rw [hP, List.drop_eq_getElem_cons hlj]; simp only [parFault, if_neg c70, if_neg hnl]
   refine c_skip (e_B (e_S (c_region (wl (r_add rfl rfl rfl om) (wmI rfl ?_)))))
   refine x_nil (e_LS ((l[k]'hlt).par.length - (j + 1)) om agA ?_)
   exact ⟨j + 1, (l[k]'hlt).par[j], by omega, rfl, rfl, rfl, fun h => by omega, fun h => rfl, hP'⟩
  have hty := Lib.hid (show tyFault l k = 0 by rw [hP, List.drop_eq_nil_of_le om]; rfl)
  refine c_exit (e_Sx (e_LSx (e_Bx (e_B (e_S ?_)))))
  refine c_region (wl (r_add rfl rfl rfl om) (wmI rfl (x_nil (e_LS (l.length - (k + 1)) om agA ?_))))
  exact ⟨k + 1, by omega, rfl, rfl, hB, hb2, hR'.trans (firstF_miss hlt hty.out)⟩
 refine c_exit (e_Sx (e_LSx (e_Bx (e_S (c_seq ?_)))))
 refine c_region (wl (r_bd (vs := #[]) (cs := #[.int .i64 0, .int .i64 0]) (by simp) kR) ?_)
 refine wl_stW hb2 rfl rfl sz35 rfl oneA (fun w16 hq hs => ?_)
 replace hB := hB.tr1 hs lo2
 clear hs
 replace hb2 := hq
 refine x_nil (e_S (c_ret (fin1 (.inl rfl) rfl (rr_cell U35 rfl rfl hb2.range0 sz35) ?_)))
 exact ⟨ret_fl (hR'.trans (firstF_end om)), hB⟩
end Go.Proofs.YtegngekpmpdngaaDoor
namespace Go.Proofs.YtegngekpmpdngaaDoor
open Go.RowKit
def parN (l : List Ty) (i : Nat) : List Nat := match l[i]? with
  | none => []
  | some t => t.par.map Int.toNat
def subF (l : List Ty) : Nat → Nat → Nat → Bool
  | 0, a, b => decide (a = b)
  | f + 1, a, b => decide (a = b) || (parN l a).any (fun p => subF l f p b)
def sub (l : List Ty) (a b : Nat) : Bool := subF l a a b
def VT (l : List Ty) : Prop := ∀ i (h : i < l.length), ∀ p ∈ (l[i]).par, 0 ≤ p ∧ p < (i : Int)
theorem VT.par {l : List Ty} (h : VT l) {a p : Nat} (hp : p ∈ parN l a) : p < a := by
  unfold parN at hp
  by_cases ha : a < l.length
  · rw [List.getElem?_eq_getElem ha] at hp
    simp only [List.mem_map] at hp
    obtain ⟨q, hq, rfl⟩ := hp
    have := h a ha q hq
    omega
  · rw [List.getElem?_eq_none om] at hp; cases hp
theorem any_congr' {α : Type} {l : List α} {p q : α → Bool} (h : ∀ x ∈ l, p x = q x) : l.any p = l.any q := by
  induction l with
  | nil => rfl
  | cons a r ih =>
    simp only [List.any_cons]
    rw [h a (by simp), ih (fun x hx => h x (by simp [hx]))]
theorem subF_fuel {l : List Ty} (hv : VT l) (b : Nat) : ∀ (n a : Nat), a ≤ n → ∀ f, a ≤ f → subF l f a b = subF l a a b := by
  intro n
  induction n with
  | zero =>
    intro a ha f hf
    have : a = 0 := by omega
    subst this
    have hp : parN l 0 = [] := by
      cases h : parN l 0 with
      | nil => rfl
      | cons p r => exact absurd (hv.par (a := 0) (p := p) (by rw [h]; simp)) om
    cases f <;> simp [subF, hp]
  | succ n ih =>
    intro a ha f hf
    cases a with
    | zero => exact ih 0 om f om
    | succ a =>
      cases f with
      | zero => omega
      | succ f =>
        simp only [subF]
        congr 1
        apply any_congr'
        intro p hp
        have := hv.par hp
        rw [ih p om f om, ih p om a om]
theorem sub_eq {l : List Ty} (hv : VT l) (a b : Nat) : sub l a b = (decide (a = b) || (parN l a).any (fun p => sub l p b)) := by
  unfold sub
  cases a with
  | zero =>
    have hp : parN l 0 = [] := by
      cases h : parN l 0 with
      | nil => rfl
      | cons p r => exact absurd (hv.par (a := 0) (p := p) (by rw [h]; simp)) om
    simp [subF, hp]
  | succ a =>
    conv => lhs; unfold subF
    congr 1
    apply any_congr'
    intro p hp
    have := hv.par hp
    rw [subF_fuel hv b (a + 1) p om a om]
theorem sub_refl {l : List Ty} (hv : VT l) (a : Nat) : sub l a a = true := by rw [sub_eq hv]; simp
theorem sub_iff {l : List Ty} (hv : VT l) (a b : Nat) : sub l a b = true ↔ a = b ∨ ∃ p ∈ parN l a, sub l p b = true := by
  rw [sub_eq hv]; simp
theorem sub_le {l : List Ty} (hv : VT l) : ∀ (n a b : Nat), a ≤ n → sub l a b = true → b ≤ a := by
  intro n
  induction n with
  | zero =>
    intro a b ha h
    rcases (sub_iff hv a b).1 h with rfl | ⟨p, hp, _⟩
    · omega
    · have := hv.par hp; omega
  | succ n ih =>
    intro a b ha h
    rcases (sub_iff hv a b).1 h with rfl | ⟨p, hp, hs⟩
    · omega
    · have := hv.par hp
      have := ih p b om hs
      omega
theorem sub_le' {l : List Ty} (hv : VT l) {a b : Nat} (h : sub l a b = true) : b ≤ a := sub_le hv a a b (Nat.le_refl _) h
theorem sub_trans {l : List Ty} (hv : VT l) (c : Nat) : ∀ (n a b : Nat), a ≤ n → sub l a b = true → sub l b c = true → sub l a c = true := by
  intro n
  induction n with
  | zero =>
    intro a b ha h h2
    rcases (sub_iff hv a b).1 h with rfl | ⟨p, hp, _⟩
    · exact h2
    · have := hv.par hp; omega
  | succ n ih =>
    intro a b ha h h2
    rcases (sub_iff hv a b).1 h with rfl | ⟨p, hp, hs⟩
    · exact h2
    · have := hv.par hp
      exact (sub_iff hv a c).2 (.inr ⟨p, hp, ih p b om hs h2⟩)
theorem sub_tr {l : List Ty} (hv : VT l) {a b c : Nat} (h : sub l a b = true) (h2 : sub l b c = true) : sub l a c = true := sub_trans hv c a a b (Nat.le_refl _) h h2
theorem sub_par {l : List Ty} (hv : VT l) {i : Nat} (hi : i < l.length) {p : Int} (hp : p ∈ (l[i]).par) : sub l i p.toNat = true := by
  refine (sub_iff hv i _).2 (.inr ⟨p.toNat, ?_, sub_refl hv _⟩)
  simp only [parN, List.getElem?_eq_getElem hi, List.mem_map]
  exact ⟨p, hp, rfl⟩
def parB (ps : List Int) (x : Nat) : Bool := ps.any (fun p => decide (p = (x : Int)))
theorem parB_iff (ps : List Int) (x : Nat) : parB ps x = true ↔ (x : Int) ∈ ps := by simp [parB]
theorem parB_snoc (ps : List Int) {j : Nat} (hj : j < ps.length) (x : Nat) : parB (ps.take (j + 1)) x = (parB (ps.take j) x || decide (ps[j] = (x : Int))) := by
  simp only [parB]
  rw [List.take_succ_eq_append_getElem hj, List.any_append]
  simp
structure Marks (l : List Ty) (a i : Nat) (mk : Nat → Bool) : Prop where
  ok : ∀ j, mk j = true → sub l a j = true
  all : ∀ c, c ≤ i → sub l a c = true → ∃ j, j ≤ i ∧ mk j = true ∧ sub l j c = true
theorem Marks.start {l : List Ty} (hv : VT l) (a : Nat) : Marks l a a (fun j => if j = a then true else false) :=
  ⟨fun j h => by
    by_cases e : j = a
    · subst e; exact sub_refl hv _
    · simp [e] at h, fun c _ h => ⟨a, Nat.le_refl _, by simp, h⟩⟩
theorem Marks.yes {l : List Ty} (hv : VT l) {a i : Nat} {mk : Nat → Bool} (h : Marks l a i mk) (hi : i < l.length) (hm : mk i = true) : Marks l a (i - 1) (fun x => mk x || parB (l[i]).par x) :=
  ⟨fun j hj => by
    simp only [Bool.or_eq_true] at hj
    rcases hj with hj | hj
    · exact h.ok j hj
    · have := sub_par hv hi ((parB_iff _ _).1 hj)
      simp only [Int.toNat_natCast] at this
      exact sub_tr hv (h.ok i hm) this, fun c hc hs => by
    by_cases hi0 : i = 0
    · subst hi0
      obtain ⟨j, hj, h1, h2⟩ := h.all c om hs
      exact ⟨j, by omega, by simp [h1], h2⟩
    obtain ⟨j, hj, h1, h2⟩ := h.all c om hs
    by_cases e : j = i
    · subst e
      rcases (sub_iff hv j c).1 h2 with rfl | ⟨p, hp, hps⟩
      · omega
      · have hlt := hv.par hp
        refine ⟨p, by omega, ?_, hps⟩
        simp only [parN, List.getElem?_eq_getElem hi, List.mem_map] at hp
        obtain ⟨q, hq, rfl⟩ := hp
        have := hv j hi q hq
        have hq' : ((q.toNat : Nat) : Int) ∈ (l[j]).par := by rw [Int.toNat_of_nonneg this.1]; exact hq
        simp only [Bool.or_eq_true]
        exact .inr ((parB_iff _ _).2 hq')
    · exact ⟨j, by omega, by simp [h1], h2⟩⟩
theorem Marks.no {l : List Ty} {a i : Nat} {mk : Nat → Bool} (h : Marks l a i mk) (hm : mk i = false) : Marks l a (i - 1) mk :=
  ⟨h.ok, fun c hc hs => by
    obtain ⟨j, hj, h1, h2⟩ := h.all c om hs
    by_cases e : j = i
    · subst e; rw [hm] at h1; cases h1
    · exact ⟨j, by omega, h1, h2⟩⟩
theorem Marks.end_ {l : List Ty} (hv : VT l) {a b i : Nat} {mk : Nat → Bool} (h : Marks l a i mk) (hi : i ≤ b) (hb : b ≤ a → b ≤ i) : mk b = sub l a b := by
  cases hs : sub l a b
  · cases hm : mk b
    · rfl
    · rw [h.ok b hm] at hs; cases hs
  · have hle := sub_le' hv hs
    have hib : i = b := Nat.le_antisymm hi (hb hle)
    subst hib
    obtain ⟨j, hj, h1, h2⟩ := h.all i (Nat.le_refl _) hs
    have := sub_le' hv h2
    have : j = i := by omega
    subst this; exact h1
theorem in4 : (Tryd.prog.info? 4).map (fun i => (i.zero, i.size, i.bytes)) = some (some (.bool false), 1, 1) := by kernel_rfl
theorem sz4 : (Tryd.prog.info? 4).map (·.size) = some 1 := by kernel_rfl
theorem sub_any (A : Option Addr) (c : Nat) (l : List Ty) (a b : Nat) (w : World) (hT : TypesIn w A l) (hv : VT l) (h60 : l.length ≤ 60) (ha : a < l.length) (hb : b < l.length) : Calls Tryd.prog 58 #[.slice A l.length c, .int .i64 a, .int .i64 b] w fun e w' => e = .returned (.bool (sub l a b)) ∧ Bel w w' := by
 have hmx := hT.1
 unfold maxI at hmx
 refine enter Tryd.func58 Tryd.ntmps58 rfl (Nat.le_of_ble_eq_true rfl) ?_
 have hB : Bel w w := Below.refl _ _
 refine c_seq (c_region (waB rfl (x_nil (e_S (c_seq ?_)))))
 refine c_region (wmS rfl (wl (r_len U22 rfl) ?_))
 refine wl_mkR (m := l.length) U82 in4 rfl rfl rfl om hmx (fun b13 w1 hb13 hs hr => ?_)
 have lo13 := nLT (Bel.size hB) hr
 replace hB := hB.tr0 hs
 clear hs
 clear hr
 refine waS rfl (x_nil (e_S (c_seq (c_region (wmS rfl ?_)))))
 refine wmI rfl (wl (r_ia (i := a) U82 sz4 rfl rfl om rfl) ?_)
 refine wl_st1 (v := .bool _) hb13 rfl rfl sz4 (by rw [row_size]; omega) rfl row_set (fun w2 hq hs => ?_)
 replace hB := hB.tr1 hs lo13
 clear hs
 replace hb13 := hq
 refine x_nil (e_S (c_seq (c_seq ?_)))
 have hb13' : Blk w2 b13 4 (row l.length (fun j => .bool (if j = a then true else false))) := by
   rw [show (row l.length (fun j => Value.bool (if j = a then true else false))) = row l.length (fun j => if j = a then Value.bool true else Value.bool false) from row_congr (fun j _ => by split <;> rfl)]
   exact hb13
 refine c_region (wmI rfl (waI rfl (x_nil (e_S (c_block ?_)))))
 refine c_loopS [8, 10, 18, 19, 20, 21, 22, 23, 24, 25, 26, 27, 28, 29, 30, 31, 32, 33, 34, 35, 36, 37, 38, 39, 40] (fun m g w' => ∃ (i : Nat) (mk : Nat → Bool), i ≤ a ∧ m = i ∧ g 8 = .int .i64 i ∧ (b ≤ a → b ≤ i) ∧ Bel w w' ∧ Blk w' b13 4 (row l.length (fun j => .bool (mk j))) ∧ Marks l a i mk) (a) ?_ (fun m g4 w3 hI => ?_)
 ·
  exact ⟨a, _, Nat.le_refl _, rfl, rfl, fun h => h, hB, hb13', Marks.start hv a⟩
 obtain ⟨i, mk, hi, hm, h8, hbi, hB, hb13, hM⟩ := hI
 refine c_know 8 (.int .i64 i) h8 nu (c_seq (c_seq (c_region (wmI rfl (wmI rfl ?_)))))
 refine wl (r_gtr rfl rfl) (x_nil (e_S ?_))
 refine c_ifd rfl (fun c20 => ?_) (fun c20 => ?_)
 ·
  refine c_skip (e_S (c_seq (c_block (c_seq (c_region ?_)))))
  refine wmS rfl (wmI rfl (wl (r_ia (i := i) U82 sz4 rfl rfl om rfl) (wl (r_ld1 (v := .bool _) U4 rfl rfl (hb13.cell (row_get om))) (x_nil (e_S ?_)))))
  refine c_if rfl (fun c26 => ?_) (fun c26 => ?_)
  ·
   have hil : i < l.length := by omega
   obtain ⟨tb, to, A', cp, rfl, htb, htr, hpar⟩ := hT.at_ hB hil
   have hpx := hpar.1
   unfold maxI at hpx
   refine c_seq (c_region (wmS rfl (wmI rfl (wl (r_ia (i := i) U22 sz77 rfl rfl om rfl) (wl (r_fa U77 sz43 dE rfl rfl rfl) ?_)))))
   refine wl (r_ld1 (v := .slice _ _ _) U43 rfl rfl (htr 1 _ rfl)) (wl (r_len U43 rfl) (wmI rfl (x_nil (e_S (c_block ?_)))))
   refine c_loopS [10, 33, 34, 35, 36, 37, 38, 39, 40] (fun m g w' => ∃ (j : Nat), j ≤ (l[i]'hil).par.length ∧ m = (l[i]'hil).par.length - j ∧ g 33 = .int .i64 j ∧ Bel w w' ∧ Blk w' b13 4 (row l.length (fun x => .bool (mk x || parB ((l[i]'hil).par.take j) x)))) ((l[i]'hil).par.length) ?_ (fun m g8 w4 hI => ?_)
   ·
    refine ⟨0, Nat.zero_le _, rfl, rfl, hB, ?_⟩
    rw [show (row l.length (fun x => Value.bool (mk x || parB ((l[i]'hil).par.take 0) x))) = row l.length (fun j => .bool (mk j)) from row_congr (fun x _ => by simp [parB])]
    exact hb13
   obtain ⟨j, hj, hmj, h33, hB, hb13⟩ := hI
   refine c_know 33 (.int .i64 j) h33 nu (c_seq (c_region (wl (r_lss rfl rfl) (x_nil (e_S ?_)))))
   refine c_seq ?_
   refine c_ifd rfl (fun c34 => ?_) (fun c34 => ?_)
   ·
    have hlj : j < (l[i]'hil).par.length := by omega
    obtain ⟨pb, po, rfl, hpb, hpc⟩ := hpar.at_ hlj
    replace hpc := hB.cell hpb hpc
    have hpr := hv i hil _ (List.getElem_mem hlj)
    refine c_skip (e_S (c_seq (c_block (c_seq (c_region ?_)))))
    refine wl (r_ia (i := j) U43 sz3 rfl rfl om rfl) (wl (r_ld1 (v := .int _ _) U3 rfl rfl hpc) (waI rfl (x_nil (e_S (c_region ?_)))))
    refine wmS rfl (wmI rfl (wl (r_ia (i := ((l[i]'hil).par[j]).toNat) U82 sz4 rfl (show ev _ _ _ = _ from congrArg (Value.int .i64) (Int.toNat_of_nonneg hpr.1).symm) om rfl) ?_))
    refine wl_st1 (v := .bool _) hb13 rfl rfl sz4 (by rw [row_size]; omega) rfl row_set (fun w5 hq hs => ?_)
    replace hB := hB.tr1 hs lo13
    clear hs
    replace hb13 := hq
    refine x_nil (e_B (e_S (c_region (wl (r_add rfl rfl rfl om) (wmI rfl ?_)))))
    refine x_nil (e_LS ((l[i]'hil).par.length - (j + 1)) om agA ?_)
    refine ⟨j + 1, by omega, rfl, rfl, hB, ?_⟩
    rw [show (row l.length (fun x => Value.bool (mk x || parB ((l[i]'hil).par.take (j + 1)) x))) = row l.length (fun x => if x = ((l[i]'hil).par[j]).toNat then Value.bool true else .bool (mk x || parB ((l[i]'hil).par.take j) x)) from row_congr (fun x _ => by
      rw [parB_snoc _ hlj]
      by_cases e : x = ((l[i]'hil).par[j]).toNat
      · rw [if_pos e]; have : (l[i]'hil).par[j] = (x : Int) := by omega
        simp [this]
      · rw [if_neg e]; have : ¬ (l[i]'hil).par[j] = (x : Int) := by omega
        simp [this])]
    exact hb13
   have hM' := hM.yes hv hil c26
   have hjl : j = (l[i]'hil).par.length := by omega
   rw [hjl, List.take_length] at hb13
   obtain ⟨mk', hmk'⟩ : ∃ mk' : Nat → Bool, mk' = fun x => mk x || parB (l[i]'hil).par x := ⟨_, rfl⟩
   rw [show (row l.length (fun x => Value.bool (mk x || parB (l[i]'hil).par x))) = row l.length (fun x => .bool (mk' x)) from row_congr (fun x _ => by rw [hmk'])] at hb13
   rw [← hmk'] at hM'
   refine c_exit (e_Sx (e_LSx (e_Bx (e_B (e_S ?_)))))
   refine c_region (wmI rfl (wl (r_sub (c := ((i - 1 : Nat) : Int)) rfl rfl om om) (waI rfl (x_nil (e_LS (i - 1) om agA ?_)))))
   exact ⟨i - 1, mk', by omega, rfl, rfl, fun h => by omega, hB, hb13, hM'⟩
  have hM' := hM.no c26
  obtain ⟨mk', hmk'⟩ : ∃ mk', mk' = mk := ⟨_, rfl⟩
  rw [← hmk'] at hM' hb13
  clear hmk'
  refine c_skip (e_B (e_S (c_region (wmI rfl (wl (r_sub (c := ((i - 1 : Nat) : Int)) rfl rfl om om) ?_)))))
  refine waI rfl (x_nil (e_LS (i - 1) om agA ?_))
  exact ⟨i - 1, mk', by omega, rfl, rfl, fun h => by omega, hB, hb13, hM'⟩
 refine c_exit (e_Sx (e_LSx (e_Bx (e_S (c_seq ?_)))))
 refine c_region (wmS rfl (wmI rfl (wl (r_ia (i := b) U82 sz4 rfl rfl om rfl) (wl (r_ld1 (v := .bool _) U4 rfl rfl (hb13.cell (row_get om))) (waB rfl ?_)))))
 refine x_nil (e_S (c_ret (fin1 (.inl rfl) rfl rfl ?_)))
 exact ⟨ret_bool (hM.end_ hv om hbi).symm, hB⟩
end Go.Proofs.YtegngekpmpdngaaDoor
namespace Go.Proofs.YtegngekpmpdngaaDoor
open Go.RowKit
def mask (p : Nat → Bool) : Nat → Nat
  | 0 => 0
  | n + 1 => mask p n ||| (if p n then 2 ^ n else 0)
theorem mask_bit (p : Nat → Bool) : ∀ (n j : Nat), (mask p n).testBit j = (decide (j < n) && p j)
  | 0, j => by simp [mask]
  | n + 1, j => by
    rw [mask, Nat.testBit_or, mask_bit p n j]
    by_cases h : j = n
    · subst h
      cases hp : p j <;> simp [Nat.testBit_two_pow_self]
    · have h1 : (if p n then 2 ^ n else 0 : Nat).testBit j = false := by
        cases hp : p n
        · simp
        · simp [Ne.symm h]
      have h2 : decide (j < n + 1) = decide (j < n) := by simp; omega
      rw [h1, h2]; simp
theorem mask_lt (p : Nat → Bool) (n : Nat) : mask p n < 2 ^ n := by
  apply Nat.lt_pow_two_of_testBit
  intro i hi
  rw [mask_bit]
  simp; omega
theorem mask_lt64 (p : Nat → Bool) {n : Nat} (h : n ≤ 60) : mask p n < 18446744073709551616 := by
  have h1 := mask_lt p n
  have h2 : 2 ^ n ≤ 2 ^ 60 := Nat.pow_le_pow_right dE h
  have h3 : (2 : Nat) ^ 60 = 1152921504606846976 := by decide
  omega
theorem mask_ext {x : Nat} {p : Nat → Bool} {n : Nat} (h : ∀ j, x.testBit j = (decide (j < n) && p j)) : x = mask p n :=
  Nat.eq_of_testBit_eq (fun j => by rw [h, mask_bit])
theorem mask_congr {p q : Nat → Bool} {n : Nat} (h : ∀ j, j < n → p j = q j) : mask p n = mask q n := by
  apply mask_ext
  intro j
  rw [mask_bit]
  by_cases hj : j < n
  · rw [h j hj]
  · simp [hj]
theorem mask_or (p q : Nat → Bool) (n : Nat) : mask p n ||| mask q n = mask (fun j => p j || q j) n :=
  mask_ext (fun j => by rw [Nat.testBit_or, mask_bit, mask_bit]; cases decide (j < n) <;> simp)
theorem mask_and (p q : Nat → Bool) (n : Nat) : mask p n &&& mask q n = mask (fun j => p j && q j) n :=
  mask_ext (fun j => by rw [Nat.testBit_and, mask_bit, mask_bit]; cases decide (j < n) <;> simp)
theorem mask_one {k n : Nat} (h : k < n) : 2 ^ k = mask (fun j => decide (j = k)) n := by
  apply mask_ext
  intro j
  rw [Nat.testBit_two_pow]
  by_cases e : k = j
  · subst e; simp [h]
  · simp [e, Ne.symm e]
theorem mask_zero (n : Nat) : mask (fun _ => false) n = 0 := by
  symm; apply mask_ext; intro j; simp
theorem mask_eq_zero {p : Nat → Bool} {n : Nat} : mask p n = 0 ↔ ∀ j, j < n → p j = false := by
  constructor
  · intro h j hj
    have := mask_bit p n j
    rw [h] at this
    simpa [hj] using this.symm
  · intro h
    rw [← mask_zero n]; exact mask_congr h
theorem mask_inj {p q : Nat → Bool} {n : Nat} : mask p n = mask q n ↔ ∀ j, j < n → p j = q j := by
  constructor
  · intro h j hj
    have h1 := mask_bit p n j
    have h2 := mask_bit q n j
    rw [h] at h1
    rw [h1] at h2
    simpa [hj] using h2
  · exact mask_congr
theorem shift_bit (x j : Nat) : decide (((x >>> j) &&& 1) = 1) = x.testBit j := by
  rw [Nat.testBit_eq_decide_div_mod_eq, Nat.shiftRight_eq_div_pow, Nat.and_one_is_mod]
theorem ctz_mask {p : Nat → Bool} {n : Nat} (hn : n ≤ 60) (h0 : mask p n ≠ 0) : Lib.ctz 64 (mask p n) < n ∧ p (Lib.ctz 64 (mask p n)) = true ∧ ∀ j, j < Lib.ctz 64 (mask p n) → p j = false := by
  have hlt : mask p n < 2 ^ 64 := by
    have h1 := mask_lt64 p hn
    have h2 : (2 : Nat) ^ 64 = 18446744073709551616 := by decide
    omega
  obtain ⟨m, hm, hk⟩ := Lib.ctzFrom_spec 64 (mask p n) om hlt
  have e : Lib.ctz 64 (mask p n) = Lib.ctzFrom 64 (mask p n) := by simp [Lib.ctz, h0]
  rw [e]
  generalize hc : Lib.ctzFrom 64 (mask p n) = c at *
  have hb : ∀ j, (mask p n).testBit j = (decide (c ≤ j) && (2 * m + 1).testBit (j - c)) := by
    intro j
    rw [hm, Nat.mul_comm, Nat.testBit_mul_two_pow]
  have hcb : (mask p n).testBit c = true := by rw [hb]; simp
  rw [mask_bit] at hcb
  simp only [Bool.and_eq_true, decide_eq_true_eq] at hcb
  refine ⟨hcb.1, hcb.2, fun j hj => ?_⟩
  have := hb j
  rw [mask_bit] at this
  have hcj : ¬ c ≤ j := by omega
  simp only [hcj, decide_false, Bool.false_and] at this
  have hjn : j < n := by omega
  simpa [hjn] using this
def TabIn (w : World) : Prop := 0 < w.heap.size ∧ ∀ k, k < 64 → w.cell? ⟨0, 0 + k * 1, none⟩ = some (.int .u8 ((Lib.deBruijn64tab.getD k 0 : Nat) : Int))
theorem TabIn.mono {w w' : World} (h : TabIn w) (hb : Bel w w') : TabIn w' := ⟨nLL h.1 hb.size, fun k hk => hb.cell h.1 (h.2 k hk)⟩
theorem ctz_eq {x c : Nat} (h0 : x ≠ 0) (hx : x < 18446744073709551616) (hc : 18446744073709551616 - x = c) : x &&& c = 2 ^ Lib.ctz 64 x ∧ Lib.ctz 64 x < 64 := by
  subst hc
  exact Lib.lowest_bit 64 x h0 (by have : (2 : Nat) ^ 64 = 18446744073709551616 := by decide
                                   omega)
def tzI (x : Nat) : Nat := ((x &&& (18446744073709551616 - x)) * 285870213051353865 % 18446744073709551616) >>> 58
theorem tzI_spec {x : Nat} (h0 : x ≠ 0) (hx : x < 18446744073709551616) : tzI x < 64 ∧ Lib.deBruijn64tab.getD (tzI x) 0 = Lib.ctz 64 x := by
  have h := ctz_eq h0 hx rfl
  have h2 := Lib.deBruijn64_at (Lib.ctz 64 x) h.2
  unfold tzI
  rw [h.1, Nat.shiftRight_eq_div_pow]
  exact h2
def upN (l : List Ty) (i : Nat) : Nat := mask (fun j => sub l i j) l.length
def downN (l : List Ty) (j : Nat) : Nat := mask (fun i => sub l i j) l.length
def rU (n : Nat) (g : Nat → Nat) : Array Value := row n (fun i => .int .u64 (g i))
def TableIn (w : World) (l : List Ty) (bu bd : Nat) : Prop := Blk w bu 122 (rU l.length (upN l)) ∧ Blk w bd 122 (rU l.length (downN l))
theorem Blk.bel {w w' : World} {b : Nat} {t : TypeId} {cs : Array Value} (h : Blk w b t cs) (hb : Bel w w') : Blk w' b t cs := (hb.block b h.lt).trans h
theorem TableIn.mono {w w' : World} {l : List Ty} {bu bd : Nat} (h : TableIn w l bu bd) (hb : Bel w w') : TableIn w' l bu bd := ⟨h.1.bel hb, h.2.bel hb⟩
theorem TableIn.up {w : World} {l : List Ty} {bu bd i : Nat} (h : TableIn w l bu bd) (hi : i < l.length) : w.cell? ⟨bu, 0 + i * 1, none⟩ = some (.int .u64 (upN l i)) := h.1.cell (row_get hi)
theorem TableIn.down {w : World} {l : List Ty} {bu bd i : Nat} (h : TableIn w l bu bd) (hi : i < l.length) : w.cell? ⟨bd, 0 + i * 1, none⟩ = some (.int .u64 (downN l i)) := h.2.cell (row_get hi)
theorem upN_lt {l : List Ty} (h : l.length ≤ 60) (i : Nat) : upN l i < 18446744073709551616 := mask_lt64 _ h
theorem downN_lt {l : List Ty} (h : l.length ≤ 60) (i : Nat) : downN l i < 18446744073709551616 := mask_lt64 _ h
def tabV (n bu bd : Nat) : Value := .agg #[.slice (some ⟨bu, 0, none⟩) n n, .slice (some ⟨bd, 0, none⟩) n n]
def comm (l : List Ty) (a b : Nat) (i : Nat) : Bool := sub l i a && sub l i b
def commN (l : List Ty) (a b : Nat) : Nat := mask (comm l a b) l.length
theorem comm_and (l : List Ty) (a b : Nat) : downN l a &&& downN l b = commN l a b := mask_and _ _ _
def meet (l : List Ty) (a b : Nat) : Nat × Bool × Bool :=
  if commN l a b = 0 then (0, false, false)
  else if downN l (Lib.ctz 64 (commN l a b)) ≠ commN l a b then (0, false, true)
  else (Lib.ctz 64 (commN l a b), true, false)
def meetV (r : Nat × Bool × Bool) : Value := .tuple #[.int .i64 r.1, .bool r.2.1, .bool r.2.2]
theorem ret_meet {m : Nat} {p q : Bool} {r : Nat × Bool × Bool} (h : r = (m, p, q)) : Ending.returned (.tuple #[.int .i64 (m : Int), .bool p, .bool q]) = .returned (meetV r) := by rw [h]; rfl
end Go.Proofs.YtegngekpmpdngaaDoor
