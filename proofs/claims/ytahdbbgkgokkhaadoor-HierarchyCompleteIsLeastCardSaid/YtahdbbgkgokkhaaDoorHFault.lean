/- What these functions of the program compute, at every world: glosswright/glosswrightref3.HierarchyFault. -/
import Derived.Test.YtahdbbgkgokkhaaDoorUnmet
namespace Go.Proofs.YtahdbbgkgokkhaaDoor
open Go.RowKit

theorem fseen_yes {l : List Ft} {j k : Nat} {s : ByteArray} (hk : k < l.length) (hj : j < k) (h : (l[j]'(by omega)).name = s) : seen ((l.take k).map (·.name)) s = true := by
  simp only [seen, List.any_eq_true, decide_eq_true_eq, List.mem_map]
  refine ⟨_, ⟨l[j]'(by omega), ?_, rfl⟩, h⟩
  rw [List.mem_take_iff_getElem]
  exact ⟨j, by omega, rfl⟩
theorem firstF_cases (f : Nat → Int) : ∀ (m i : Nat), firstF f i m = (0, 0) ∨ ∃ j : Nat, firstF f i m = (f j, (j : Int)) ∧ f j ≠ 0
  | 0, _ => .inl rfl
  | m + 1, i => by
    unfold firstF
    by_cases h : f i ≠ 0
    · exact .inr ⟨i, by rw [if_pos h], h⟩
    · rw [if_neg h]; exact firstF_cases f m (i + 1)
theorem unmetF_cases (l : List Ty) : unmetF l = (0, 0) ∨ ∃ j : Nat, unmetF l = (16, (j : Int)) := by
  rcases firstF_cases (unmF l) l.length 0 with h | ⟨j, h, hne⟩
  · exact .inl h
  · refine .inr ⟨j, ?_⟩
    have h16 : unmF l j = 16 := by
      unfold unmF at hne ⊢
      split
      · rfl
      · rename_i hx; rw [if_neg hx] at hne; exact absurd rfl hne
    rw [← h16]; exact h
theorem unmI_geq {l : List Ty} (h : 0 ≤ unmI l) : unmetF l = (16, unmI l) := by
  rcases unmetF_cases l with e | ⟨j, e⟩
  · rw [unmI_no e] at h; omega
  · rw [unmI_yes e, e]
theorem unmI_lss {l : List Ty} (h : ¬ 0 ≤ unmI l) : unmetF l = (0, 0) := by
  rcases unmetF_cases l with e | ⟨j, e⟩
  · exact e
  · rw [unmI_yes e] at h; omega

theorem fn27_HFault : callable Tryd.prog 27 = true := by kernel_rfl
theorem fn28 : callable Tryd.prog 28 = true := by kernel_rfl
theorem fn7 : callable Tryd.prog 7 = true := by kernel_rfl
theorem sz22 : (Tryd.prog.info? 22).map (·.size) = some 1 := by kernel_rfl
theorem sz24_HFault : (Tryd.prog.info? 24).map (·.size) = some 2 := by kernel_rfl
theorem sz30 : (Tryd.prog.info? 30).map (·.size) = some 1 := by kernel_rfl
theorem sz64 : (Tryd.prog.info? 64).map (·.size) = some 3 := by kernel_rfl
theorem sz9_HFault : (Tryd.prog.info? 9).map (·.size) = some 1 := by kernel_rfl
theorem ze24_HFault : (Tryd.prog.info? 24).map (·.zero) = some (some (.agg #[.int .i64 0, .int .i64 0])) := by kernel_rfl
theorem ze64 : (Tryd.prog.info? 64).map (·.zero) = some (some (.agg #[.string ⟨#[]⟩, .int .i64 0, .int .i64 0])) := by kernel_rfl
theorem hierFault_any (A B : Option Addr) (c d : Nat) (l : List Ty) (fs : List Ft) (w : World) (hc : l.length ≤ c) (hd : fs.length ≤ d) (hT : TypesIn w A l) (hF : FeatsIn w B fs) : Calls Tryd.prog 8 #[.agg #[.slice A l.length c, .slice B fs.length d]] w fun e w' => e = .returned (flV (hierFault l fs)) ∧ Bel w w' := by
 refine enter Tryd.func8 Tryd.ntmps8 rfl (Nat.le_of_ble_eq_true rfl) ?_
 have hB : Bel w w := Below.refl _ _
 refine c_seq ?_
 refine c_region ?_
 refine wl_bx (v := .agg #[_, _]) (cs := #[_, _]) rfl rfl (fun b1 w1 hb1 hs hr => ?_)
 have lo1 := Nat.le_trans (Bel.size hB) hr
 replace hB := hB.tr0 hs
 clear hs
 clear hr
 refine wl_al (cs := #[.int .i64 0, .int .i64 0]) ze24_HFault rfl (fun b2 w2 hb2 hs hr => ?_)
 have or_b1_b2 : b1 < b2 := Nat.lt_of_lt_of_le hb1.lt hr
 have lo2 := Nat.le_trans (Bel.size hB) hr
 replace hB := hB.tr0 hs
 replace hb1 := hb1.tr0 hs
 clear hs
 clear hr
 refine x_nil ?_
 refine e_S ?_
 refine c_seq ?_
 refine c_seq ?_
 refine c_region ?_
 refine wl (r_fa Tryd.underlying32 sz30 (by decide) rfl rfl rfl) ?_
 refine wl (r_ld1 (v := .slice _ _ _) Tryd.underlying30 rfl rfl (hb1.cell rfl)) ?_
 refine wl (r_len Tryd.underlying30 rfl) ?_
 refine wl (r_gtr rfl rfl) ?_
 refine x_nil ?_
 refine e_S ?_
 refine c_ifd rfl (fun c12 => ?_) (fun c12 => ?_)
 ·
  refine c_seq ?_
  refine c_region ?_
  refine wl (r_bd2 (v0 := .int _ _) (v1 := .int _ _) (fun v0 v1 => #[v0, v1]) rfl rfl (by kernel_rfl)) ?_
  refine wl_stW hb2 rfl rfl sz24_HFault rfl (by repeat (first | rfl | refine one_cons (by first | rfl | assumption) ?_)) (fun w3 hq hs => ?_)
  replace hB := hB.tr1 hs lo2
  replace hb1 := hb1.tr1 hs (by omega)
  clear hs
  replace hb2 := hq
  refine x_nil ?_
  refine e_S ?_
  refine c_ret ?_
  refine e_Sr ?_
  refine fin1 (.inl rfl) rfl (rr_cell Tryd.underlying24 rfl rfl hb2.range0 sz24_HFault) ?_
  exact ⟨ret_fl (hf_size (.inr (.inr (by omega)))), hB⟩
 ·
  refine c_skip ?_
  refine e_S ?_
  refine c_seq ?_
  refine c_seq ?_
  refine c_region ?_
  refine wl (r_fa Tryd.underlying32 sz22 (by decide) rfl rfl rfl) ?_
  refine wl (r_ld1 (v := .slice _ _ _) Tryd.underlying22 rfl rfl (hb1.cell rfl)) ?_
  refine wl_cl fn7 (typesFault_any _ _ _ _ hc (hT.mono hB)) rfl (fun e' w4 hr => ?_)
  obtain ⟨rfl, hs⟩ := hr
  replace hs := Same.of_bel hs
  replace hB := hB.tr0 hs
  replace hb1 := hb1.tr0 hs
  replace hb2 := hb2.tr0 hs
  clear hs
  refine ⟨_, rfl, ?_⟩
  refine wl_al (cs := #[.int .i64 0, .int .i64 0]) ze24_HFault rfl (fun b3 w5 hb3 hs hr => ?_)
  have or_b1_b3 : b1 < b3 := Nat.lt_of_lt_of_le hb1.lt hr
  have or_b2_b3 : b2 < b3 := Nat.lt_of_lt_of_le hb2.lt hr
  have lo3 := Nat.le_trans (Bel.size hB) hr
  replace hB := hB.tr0 hs
  replace hb1 := hb1.tr0 hs
  replace hb2 := hb2.tr0 hs
  clear hs
  clear hr
  refine wl_stW hb3 rfl rfl sz24_HFault rfl (by repeat (first | rfl | refine one_cons (by first | rfl | assumption) ?_)) (fun w6 hq hs => ?_)
  replace hB := hB.tr1 hs lo3
  replace hb1 := hb1.tr1 hs (by omega)
  replace hb2 := hb2.tr1 hs (by omega)
  clear hs
  replace hb3 := hq
  refine x_nil ?_
  refine e_S ?_
  refine c_seq ?_
  refine c_region ?_
  refine wl (r_fa Tryd.underlying24 sz3_Tables (by decide) rfl rfl rfl) ?_
  refine wl (r_ld1 (v := .int _ _) Tryd.underlying3 rfl rfl (hb3.cell rfl)) ?_
  refine wl (r_neq rfl rfl) ?_
  refine x_nil ?_
  refine e_S ?_
  refine c_ifd rfl (fun c19 => ?_) (fun c19 => ?_)
  ·
   refine c_seq ?_
   refine c_region ?_
   refine wl (r_ldS Tryd.underlying24 rfl rfl hb3.range0 sz24_HFault) ?_
   refine wl_stW hb2 rfl rfl sz24_HFault rfl (by repeat (first | rfl | refine one_cons (by first | rfl | assumption) ?_)) (fun w7 hq hs => ?_)
   replace hB := hB.tr1 hs lo2
   replace hb1 := hb1.tr1 hs (by omega)
   replace hb3 := hb3.tr1 hs (by omega)
   clear hs
   replace hb2 := hq
   refine x_nil ?_
   refine e_S ?_
   refine c_ret ?_
   refine e_Sr ?_
   refine fin1 (.inl rfl) rfl (rr_cell Tryd.underlying24 rfl rfl hb2.range0 sz24_HFault) ?_
   exact ⟨ret_fl (hf_types (by omega) (by omega)), hB⟩
  ·
   have ht0 : (typesFault l).1 = 0 := by omega
   have hv := vt_of ht0
   have htl := types_len ht0
   refine c_skip ?_
   refine e_S ?_
   refine c_seq ?_
   refine c_seq ?_
   refine c_region ?_
   refine wl (r_fa Tryd.underlying32 sz22 (by decide) rfl rfl rfl) ?_
   refine wl (r_ld1 (v := .slice _ _ _) Tryd.underlying22 rfl rfl (hb1.cell rfl)) ?_
   refine wl_cl fn28 (unmetR_any _ _ _ _ (hT.mono hB) hv (by omega)) rfl (fun e' w8 hr => ?_)
   obtain ⟨rfl, hs⟩ := hr
   replace hs := Same.of_bel hs
   replace hB := hB.tr0 hs
   replace hb1 := hb1.tr0 hs
   replace hb2 := hb2.tr0 hs
   replace hb3 := hb3.tr0 hs
   clear hs
   refine ⟨_, rfl, ?_⟩
   refine wl (r_as (v := .int _ _) rfl) ?_
   refine x_nil ?_
   refine e_S ?_
   refine c_seq ?_
   refine c_region ?_
   refine wl (r_mv (v := .int _ _) rfl) ?_
   refine wl (r_geq rfl rfl) ?_
   refine x_nil ?_
   refine e_S ?_
   refine c_ifd rfl (fun c25 => ?_) (fun c25 => ?_)
   ·
    have hfin := hf_unmet (fs := fs) (by omega) ht0 (unmI_geq c25)
    refine c_seq ?_
    refine c_region ?_
    refine wl (r_mv (v := .int _ _) rfl) ?_
    refine wl (r_bd2 (v0 := .int _ _) (v1 := .int _ _) (fun v0 v1 => #[v0, v1]) rfl rfl (by kernel_rfl)) ?_
    refine wl_stW hb2 rfl rfl sz24_HFault rfl (by repeat (first | rfl | refine one_cons (by first | rfl | assumption) ?_)) (fun w9 hq hs => ?_)
    replace hB := hB.tr1 hs lo2
    replace hb1 := hb1.tr1 hs (by omega)
    replace hb3 := hb3.tr1 hs (by omega)
    clear hs
    replace hb2 := hq
    refine x_nil ?_
    refine e_S ?_
    refine c_ret ?_
    refine e_Sr ?_
    refine fin1 (.inl rfl) rfl (rr_cell Tryd.underlying24 rfl rfl hb2.range0 sz24_HFault) ?_
    exact ⟨ret_fl hfin, hB⟩
   ·
    have hR := Lib.hid (hf_rest (fs := fs) (by omega) ht0 (unmI_lss c25))
    refine c_skip ?_
    refine e_S ?_
    refine c_seq ?_
    refine c_seq ?_
    refine c_region ?_
    refine wl (r_fa Tryd.underlying32 sz30 (by decide) rfl rfl rfl) ?_
    refine wl (r_ld1 (v := .slice _ _ _) Tryd.underlying30 rfl rfl (hb1.cell rfl)) ?_
    refine wl (r_len Tryd.underlying30 rfl) ?_
    refine wl (r_mv (v := .int _ _) rfl) ?_
    refine x_nil ?_
    refine e_S ?_
    refine c_block ?_
    refine c_loopS [5, 6, 8, 31, 32, 33, 34, 35, 36, 37, 38, 39, 40, 41, 42, 43, 44, 45, 46, 47, 48, 49, 50, 51, 52, 53, 54, 55, 56, 57, 58, 59, 60, 61, 62, 63, 64, 65, 66, 67, 68, 69, 70, 71, 72, 73, 74, 75, 76, 77, 78, 79, 80, 81, 82, 83, 84, 85] (fun m g w' => ∃ (k : Nat), k ≤ fs.length ∧ m = fs.length - k ∧ g 31 = .int .i64 k ∧ Bel w w' ∧ Blk w' b1 32 #[.slice A l.length c, .slice B fs.length d] ∧ Blk w' b2 24 #[.int .i64 0, .int .i64 0] ∧ hierFault l fs = firstF (ftFault l.length fs) k (fs.length - k)) (fs.length) ?_ (fun m g10 w10 hI => ?_)
    ·
     exact ⟨0, Nat.zero_le _, rfl, rfl, hB, hb1, hb2, hR.out⟩
    obtain ⟨k, hk, hm, h31, hB, hb1, hb2, hR'⟩ := hI
    refine c_know 31 (.int .i64 k) h31 (by simp [undef]) ?_
    refine c_seq ?_
    refine c_region ?_
    refine wl (r_lss rfl rfl) ?_
    refine x_nil ?_
    refine e_S ?_
    refine c_seq ?_
    refine c_ifd rfl (fun c32 => ?_) (fun c32 => ?_)
    ·
     have hlt : k < fs.length := by omega
     obtain ⟨tb, to, rfl, htb, htr⟩ := hF.at_ hB hlt
     refine c_skip ?_
     refine e_S ?_
     refine c_seq ?_
     refine c_block ?_
     refine c_seq ?_
     refine c_region ?_
     refine wl (r_mv (v := .int _ _) rfl) ?_
     refine wl (r_ia (i := k) Tryd.underlying30 sz64 rfl rfl (by omega) rfl) ?_
     refine wl (r_ldS Tryd.underlying64 rfl rfl htr sz64) ?_
     refine wl_al (cs := #[.string ⟨#[]⟩, .int .i64 0, .int .i64 0]) ze64 rfl (fun b6 w11 hb6 hs hr => ?_)
     have or_b1_b6 : b1 < b6 := Nat.lt_of_lt_of_le hb1.lt hr
     have or_b2_b6 : b2 < b6 := Nat.lt_of_lt_of_le hb2.lt hr
     have lo6 := Nat.le_trans (Bel.size hB) hr
     replace hB := hB.tr0 hs
     replace hb1 := hb1.tr0 hs
     replace hb2 := hb2.tr0 hs
     clear hs
     clear hr
     refine wl (r_as (v := .int _ _) rfl) ?_
     refine wl_stW hb6 rfl rfl sz64 rfl (by repeat (first | rfl | refine one_cons (by first | rfl | assumption) ?_)) (fun w12 hq hs => ?_)
     replace hB := hB.tr1 hs lo6
     replace hb1 := hb1.tr1 hs (by omega)
     replace hb2 := hb2.tr1 hs (by omega)
     clear hs
     replace hb6 := hq
     refine x_nil ?_
     refine e_S ?_
     refine c_seq ?_
     refine c_seq ?_
     refine c_region ?_
     refine wl (r_fa Tryd.underlying64 sz9_HFault (by decide) rfl rfl rfl) ?_
     refine wl (r_ld1 (v := .string _) Tryd.underlying9 rfl rfl (hb6.cell rfl)) ?_
     refine wl_cl fn27_HFault (rname_any _ _) rfl (fun e' w13 hr => ?_)
     obtain ⟨rfl, hs⟩ := hr
     replace hs := Same.of_bel hs
     replace hB := hB.tr0 hs
     replace hb1 := hb1.tr0 hs
     replace hb2 := hb2.tr0 hs
     replace hb6 := hb6.tr0 hs
     clear hs
     refine ⟨_, rfl, ?_⟩
     refine wl (r_not rfl) ?_
     refine x_nil ?_
     refine e_S ?_
     refine c_if rfl (fun c39 => ?_) (fun c39 => ?_)
     ·
      have hty := ft10 l.length fs k hlt (by simpa using c39)
      refine c_seq ?_
      refine c_region ?_
      refine wl (r_mv (v := .int _ _) rfl) ?_
      refine wl (r_bd2 (v0 := .int _ _) (v1 := .int _ _) (fun v0 v1 => #[v0, v1]) rfl rfl (by kernel_rfl)) ?_
      refine wl_stW hb2 rfl rfl sz24_HFault rfl (by repeat (first | rfl | refine one_cons (by first | rfl | assumption) ?_)) (fun w14 hq hs => ?_)
      replace hB := hB.tr1 hs lo2
      replace hb1 := hb1.tr1 hs (by omega)
      replace hb6 := hb6.tr1 hs (by omega)
      clear hs
      replace hb2 := hq
      refine x_nil ?_
      refine e_S ?_
      refine c_ret ?_
      refine e_Sr ?_
      refine e_Br ?_
      refine e_Sr ?_
      refine e_LSr ?_
      refine e_Br ?_
      refine e_Sr ?_
      refine fin1 (.inl rfl) rfl (rr_cell Tryd.underlying24 rfl rfl hb2.range0 sz24_HFault) ?_
      exact ⟨ret_fl (hR'.trans (firstF_hit (c := 10) (by omega) hty (by decide))), hB⟩
     ·
      have hnm : isName (fs[k]'hlt).name = true := by simpa using c39
      refine c_skip ?_
      refine e_S ?_
      refine c_seq ?_
      refine c_seq ?_
      refine c_region ?_
      refine wl (r_fa Tryd.underlying32 sz30 (by decide) rfl rfl rfl) ?_
      refine wl (r_ld1 (v := .slice _ _ _) Tryd.underlying30 rfl rfl (hb1.cell rfl)) ?_
      refine wl (r_mv (v := .int _ _) rfl) ?_
      refine wl (r_slH (h := k) Tryd.underlying30 sz64 rfl rfl (by omega)) ?_
      refine wl (r_len Tryd.underlying30 rfl) ?_
      refine wl (r_mv (v := .int _ _) rfl) ?_
      refine x_nil ?_
      refine e_S ?_
      refine c_block ?_
      refine c_loopS [8, 47, 48, 49, 50, 51, 52, 53, 54, 55, 56, 57, 58] (fun m g w' => ∃ (j : Nat), j ≤ k ∧ m = k - j ∧ g 47 = .int .i64 j ∧ Bel w w' ∧ Blk w' b1 32 #[.slice A l.length c, .slice (some ⟨tb, to, none⟩) fs.length d] ∧ Blk w' b2 24 #[.int .i64 0, .int .i64 0] ∧ Blk w' b6 64 #[.string (fs[k]'hlt).name, .int .i64 (fs[k]'hlt).of, .int .i64 (fs[k]'hlt).val] ∧ seen ((fs.take j).map (·.name)) (fs[k]'hlt).name = false) (k) ?_ (fun m g15 w15 hI => ?_)
      ·
       exact ⟨0, Nat.zero_le _, rfl, rfl, hB, hb1, hb2, hb6, rfl⟩
      obtain ⟨j, hj, hmj, h47, hB, hb1, hb2, hb6, hse⟩ := hI
      refine c_know 47 (.int .i64 j) h47 (by simp [undef]) ?_
      refine c_seq ?_
      refine c_region ?_
      refine wl (r_lss rfl rfl) ?_
      refine x_nil ?_
      refine e_S ?_
      refine c_seq ?_
      refine c_ifd rfl (fun c48 => ?_) (fun c48 => ?_)
      ·
       have hjt : j < fs.length := by omega
       obtain ⟨ub, uo, he, hub, hur⟩ := hF.at_ hB hjt
       cases he
       refine c_skip ?_
       refine e_S ?_
       refine c_seq ?_
       refine c_block ?_
       refine c_seq ?_
       refine c_region ?_
       refine wl (r_ia (i := j) Tryd.underlying30 sz64 rfl rfl (by omega) rfl) ?_
       refine wl (r_ldS Tryd.underlying64 rfl rfl hur sz64) ?_
       refine wl_al (cs := #[.string ⟨#[]⟩, .int .i64 0, .int .i64 0]) ze64 rfl (fun b8 w16 hb8 hs hr => ?_)
       have or_b1_b8 : b1 < b8 := Nat.lt_of_lt_of_le hb1.lt hr
       have or_b2_b8 : b2 < b8 := Nat.lt_of_lt_of_le hb2.lt hr
       have or_b6_b8 : b6 < b8 := Nat.lt_of_lt_of_le hb6.lt hr
       have lo8 := Nat.le_trans (Bel.size hB) hr
       replace hB := hB.tr0 hs
       replace hb1 := hb1.tr0 hs
       replace hb2 := hb2.tr0 hs
       replace hb6 := hb6.tr0 hs
       clear hs
       clear hr
       refine wl_stW hb8 rfl rfl sz64 rfl (by repeat (first | rfl | refine one_cons (by first | rfl | assumption) ?_)) (fun w17 hq hs => ?_)
       replace hB := hB.tr1 hs lo8
       replace hb1 := hb1.tr1 hs (by omega)
       replace hb2 := hb2.tr1 hs (by omega)
       replace hb6 := hb6.tr1 hs (by omega)
       clear hs
       replace hb8 := hq
       refine x_nil ?_
       refine e_S ?_
       refine c_seq ?_
       refine c_region ?_
       refine wl (r_fa Tryd.underlying64 sz9_HFault (by decide) rfl rfl rfl) ?_
       refine wl (r_ld1 (v := .string _) Tryd.underlying9 rfl rfl (hb8.cell rfl)) ?_
       refine wl (r_fa Tryd.underlying64 sz9_HFault (by decide) rfl rfl rfl) ?_
       refine wl (r_ld1 (v := .string _) Tryd.underlying9 rfl rfl (hb6.cell rfl)) ?_
       refine wl (r_eqlS rfl rfl) ?_
       refine x_nil ?_
       refine e_S ?_
       refine c_ifd rfl (fun c55 => ?_) (fun c55 => ?_)
       ·
        have hty := ft7 l.length fs k hlt hnm (fseen_yes hlt (by omega) c55)
        refine c_seq ?_
        refine c_region ?_
        refine wl (r_mv (v := .int _ _) rfl) ?_
        refine wl (r_bd2 (v0 := .int _ _) (v1 := .int _ _) (fun v0 v1 => #[v0, v1]) rfl rfl (by kernel_rfl)) ?_
        refine wl_stW hb2 rfl rfl sz24_HFault rfl (by repeat (first | rfl | refine one_cons (by first | rfl | assumption) ?_)) (fun w18 hq hs => ?_)
        replace hB := hB.tr1 hs lo2
        replace hb1 := hb1.tr1 hs (by omega)
        replace hb6 := hb6.tr1 hs (by omega)
        replace hb8 := hb8.tr1 hs (by omega)
        clear hs
        replace hb2 := hq
        refine x_nil ?_
        refine e_S ?_
        refine c_ret ?_
        refine e_Br ?_
        refine e_Sr ?_
        refine e_LSr ?_
        refine e_Br ?_
        refine e_Sr ?_
        refine e_Br ?_
        refine e_Sr ?_
        refine e_LSr ?_
        refine e_Br ?_
        refine e_Sr ?_
        refine fin1 (.inl rfl) rfl (rr_cell Tryd.underlying24 rfl rfl hb2.range0 sz24_HFault) ?_
        exact ⟨ret_fl (hR'.trans (firstF_hit (c := 7) (by omega) hty (by decide))), hB⟩
       ·
        have hse' : seen ((fs.take (j + 1)).map (·.name)) (fs[k]'hlt).name = false := by rw [take_snoc fs hjt, List.map_append, List.map_cons, List.map_nil, seen_snoc, hse]; simp [c55]
        refine c_skip ?_
        refine e_B ?_
        refine e_S ?_
        refine c_region ?_
        refine wl (r_add rfl rfl rfl (by omega)) ?_
        refine wl (r_mv (v := .int _ _) rfl) ?_
        refine x_nil ?_
        refine e_LS (k - (j + 1)) (by omega) (by repeat (first | exact ag_refl | exact ag_ovr' | refine ag_upd rfl ?_ | refine ag_sub rfl ?_ | refine ag_kn (by assumption) ?_)) ?_
        exact ⟨j + 1, by omega, rfl, rfl, hB, hb1, hb2, hb6, hse'⟩
      ·
       have hsn : seen ((fs.take k).map (·.name)) (fs[k]'hlt).name = false := by
         have e : k = j := by omega
         subst e; exact hse
       refine c_exit ?_
       refine e_Sx ?_
       refine e_LSx ?_
       refine e_Bx ?_
       refine e_S ?_
       refine c_seq ?_
       refine c_cut1 [59, 60, 61, 62, 63, 64, 65, 66, 67, 68, 69, 70, 71, 72, 73, 74, 75, 76, 77, 78, 79, 80, 81, 82] 82 (.bool (decide ((fs[k]'hlt).of < 0 ∨ (l.length : Int) ≤ (fs[k]'hlt).of ∨ (fs[k]'hlt).val < 0 ∨ (l.length : Int) ≤ (fs[k]'hlt).val))) (by simp [undef]) ?_ (fun gq => ?_)
       ·
        refine c_region ?_
        refine wl (r_fa Tryd.underlying64 sz3_Tables (by decide) rfl rfl rfl) ?_
        refine wl (r_ld1 (v := .int _ _) Tryd.underlying3 rfl rfl (hb6.cell rfl)) ?_
        refine wl (r_lss rfl rfl) ?_
        refine wl (r_mv (v := .bool _) rfl) ?_
        refine wl_casesd 62 rfl (fun g62 => ?_) (fun g62 => ?_)
        ·
         refine wlgn 62 rfl rfl rfl ?_
         refine wlgn 62 rfl rfl rfl ?_
         refine wlgn 62 rfl rfl rfl ?_
         refine wlgn 62 rfl rfl rfl ?_
         refine wlgn 62 rfl rfl rfl ?_
         refine wlgn 62 rfl rfl rfl ?_
         refine wl (r_pt (v := .bool _) rfl rfl) ?_
         refine wl (r_mv (v := .bool _) rfl) ?_
         refine wlgn 70 rfl rfl rfl ?_
         refine wlgn 70 rfl rfl rfl ?_
         refine wlgn 70 rfl rfl rfl ?_
         refine wl (r_pt (v := .bool _) rfl rfl) ?_
         refine wl (r_mv (v := .bool _) rfl) ?_
         refine wlgn 75 rfl rfl rfl ?_
         refine wlgn 75 rfl rfl rfl ?_
         refine wlgn 75 rfl rfl rfl ?_
         refine wlgn 75 rfl rfl rfl ?_
         refine wlgn 75 rfl rfl rfl ?_
         refine wlgn 75 rfl rfl rfl ?_
         refine wl (r_pt (v := .bool _) rfl rfl) ?_
         refine x_nil (e_R ⟨rfl, (by repeat (first | exact ag_refl | exact ag_ovr' | refine ag_upd rfl ?_ | refine ag_sub rfl ?_ | refine ag_kn (by assumption) ?_)), ?_⟩)
         show Value.bool _ = Value.bool _
         first | exact congrArg Value.bool (decide_eq_true (by omega)).symm | exact congrArg Value.bool (decide_eq_false (by omega)).symm | exact congrArg Value.bool (decide_eq_decide.2 (by omega)) | exact congrArg Value.bool ((decide_not).symm.trans (decide_eq_decide.2 (by omega)))
        ·
         refine wl_gd 62 rfl rfl ?_
         refine wl (r_fa Tryd.underlying64 sz3_Tables (by decide) rfl rfl rfl) ?_
         refine wl_gd 62 rfl rfl ?_
         refine wl (r_ld1 (v := .int _ _) Tryd.underlying3 rfl rfl (hb6.cell rfl)) ?_
         refine wl_gd 62 rfl rfl ?_
         refine wl (r_fa Tryd.underlying32 sz22 (by decide) rfl rfl rfl) ?_
         refine wl_gd 62 rfl rfl ?_
         refine wl (r_ld1 (v := .slice _ _ _) Tryd.underlying22 rfl rfl (hb1.cell rfl)) ?_
         refine wl_gd 62 rfl rfl ?_
         refine wl (r_len Tryd.underlying22 rfl) ?_
         refine wl_gd 62 rfl rfl ?_
         refine wl (r_geq rfl rfl) ?_
         refine wl (r_pf (v := .bool _) rfl rfl) ?_
         refine wl (r_mv (v := .bool _) rfl) ?_
         refine wl_casesd 70 rfl (fun g70 => ?_) (fun g70 => ?_)
         ·
          refine wlgn 70 rfl rfl rfl ?_
          refine wlgn 70 rfl rfl rfl ?_
          refine wlgn 70 rfl rfl rfl ?_
          refine wl (r_pt (v := .bool _) rfl rfl) ?_
          refine wl (r_mv (v := .bool _) rfl) ?_
          refine wlgn 75 rfl rfl rfl ?_
          refine wlgn 75 rfl rfl rfl ?_
          refine wlgn 75 rfl rfl rfl ?_
          refine wlgn 75 rfl rfl rfl ?_
          refine wlgn 75 rfl rfl rfl ?_
          refine wlgn 75 rfl rfl rfl ?_
          refine wl (r_pt (v := .bool _) rfl rfl) ?_
          refine x_nil (e_R ⟨rfl, (by repeat (first | exact ag_refl | exact ag_ovr' | refine ag_upd rfl ?_ | refine ag_sub rfl ?_ | refine ag_kn (by assumption) ?_)), ?_⟩)
          show Value.bool _ = Value.bool _
          first | exact congrArg Value.bool (decide_eq_true (by omega)).symm | exact congrArg Value.bool (decide_eq_false (by omega)).symm | exact congrArg Value.bool (decide_eq_decide.2 (by omega)) | exact congrArg Value.bool ((decide_not).symm.trans (decide_eq_decide.2 (by omega)))
         ·
          refine wl_gd 70 rfl rfl ?_
          refine wl (r_fa Tryd.underlying64 sz3_Tables (by decide) rfl rfl rfl) ?_
          refine wl_gd 70 rfl rfl ?_
          refine wl (r_ld1 (v := .int _ _) Tryd.underlying3 rfl rfl (hb6.cell rfl)) ?_
          refine wl_gd 70 rfl rfl ?_
          refine wl (r_lss rfl rfl) ?_
          refine wl (r_pf (v := .bool _) rfl rfl) ?_
          refine wl (r_mv (v := .bool _) rfl) ?_
          refine wl_casesd 75 rfl (fun g75 => ?_) (fun g75 => ?_)
          ·
           refine wlgn 75 rfl rfl rfl ?_
           refine wlgn 75 rfl rfl rfl ?_
           refine wlgn 75 rfl rfl rfl ?_
           refine wlgn 75 rfl rfl rfl ?_
           refine wlgn 75 rfl rfl rfl ?_
           refine wlgn 75 rfl rfl rfl ?_
           refine wl (r_pt (v := .bool _) rfl rfl) ?_
           refine x_nil (e_R ⟨rfl, (by repeat (first | exact ag_refl | exact ag_ovr' | refine ag_upd rfl ?_ | refine ag_sub rfl ?_ | refine ag_kn (by assumption) ?_)), ?_⟩)
           show Value.bool _ = Value.bool _
           first | exact congrArg Value.bool (decide_eq_true (by omega)).symm | exact congrArg Value.bool (decide_eq_false (by omega)).symm | exact congrArg Value.bool (decide_eq_decide.2 (by omega)) | exact congrArg Value.bool ((decide_not).symm.trans (decide_eq_decide.2 (by omega)))
          ·
           refine wl_gd 75 rfl rfl ?_
           refine wl (r_fa Tryd.underlying64 sz3_Tables (by decide) rfl rfl rfl) ?_
           refine wl_gd 75 rfl rfl ?_
           refine wl (r_ld1 (v := .int _ _) Tryd.underlying3 rfl rfl (hb6.cell rfl)) ?_
           refine wl_gd 75 rfl rfl ?_
           refine wl (r_fa Tryd.underlying32 sz22 (by decide) rfl rfl rfl) ?_
           refine wl_gd 75 rfl rfl ?_
           refine wl (r_ld1 (v := .slice _ _ _) Tryd.underlying22 rfl rfl (hb1.cell rfl)) ?_
           refine wl_gd 75 rfl rfl ?_
           refine wl (r_len Tryd.underlying22 rfl) ?_
           refine wl_gd 75 rfl rfl ?_
           refine wl (r_geq rfl rfl) ?_
           refine wl (r_pf (v := .bool _) rfl rfl) ?_
           refine x_nil (e_R ⟨rfl, (by repeat (first | exact ag_refl | exact ag_ovr' | refine ag_upd rfl ?_ | refine ag_sub rfl ?_ | refine ag_kn (by assumption) ?_)), ?_⟩)
           show Value.bool _ = Value.bool _
           first | exact congrArg Value.bool (decide_eq_true (by omega)).symm | exact congrArg Value.bool (decide_eq_false (by omega)).symm | exact congrArg Value.bool (decide_eq_decide.2 (by omega)) | exact congrArg Value.bool ((decide_not).symm.trans (decide_eq_decide.2 (by omega)))
       refine e_S ?_
       refine c_ifd rfl (fun c82 => ?_) (fun c82 => ?_)
       ·
        have hty := ft3 l.length fs k hlt hnm hsn c82
        refine c_seq ?_
        refine c_region ?_
        refine wl (r_mv (v := .int _ _) rfl) ?_
        refine wl (r_bd2 (v0 := .int _ _) (v1 := .int _ _) (fun v0 v1 => #[v0, v1]) rfl rfl (by kernel_rfl)) ?_
        refine wl_stW hb2 rfl rfl sz24_HFault rfl (by repeat (first | rfl | refine one_cons (by first | rfl | assumption) ?_)) (fun w19 hq hs => ?_)
        replace hB := hB.tr1 hs lo2
        replace hb1 := hb1.tr1 hs (by omega)
        replace hb6 := hb6.tr1 hs (by omega)
        clear hs
        replace hb2 := hq
        refine x_nil ?_
        refine e_S ?_
        refine c_ret ?_
        refine e_Br ?_
        refine e_Sr ?_
        refine e_LSr ?_
        refine e_Br ?_
        refine e_Sr ?_
        refine fin1 (.inl rfl) rfl (rr_cell Tryd.underlying24 rfl rfl hb2.range0 sz24_HFault) ?_
        exact ⟨ret_fl (hR'.trans (firstF_hit (c := 3) (by omega) hty (by decide))), hB⟩
       ·
        have hty := ft0 l.length fs k hlt hnm hsn c82
        refine c_skip ?_
        refine e_B ?_
        refine e_S ?_
        refine c_region ?_
        refine wl (r_add rfl rfl rfl (by omega)) ?_
        refine wl (r_mv (v := .int _ _) rfl) ?_
        refine x_nil ?_
        refine e_LS (fs.length - (k + 1)) (by omega) (by repeat (first | exact ag_refl | exact ag_ovr' | refine ag_upd rfl ?_ | refine ag_sub rfl ?_ | refine ag_kn (by assumption) ?_)) ?_
        exact ⟨k + 1, by omega, rfl, rfl, hB, hb1, hb2, hR'.trans (firstF_miss hlt hty)⟩
    ·
     refine c_exit ?_
     refine e_Sx ?_
     refine e_LSx ?_
     refine e_Bx ?_
     refine e_S ?_
     refine c_seq ?_
     refine c_region ?_
     refine wl (r_bd (vs := #[]) (cs := #[.int .i64 0, .int .i64 0]) (by simp) (by kernel_rfl)) ?_
     refine wl_stW hb2 rfl rfl sz24_HFault rfl (by repeat (first | rfl | refine one_cons (by first | rfl | assumption) ?_)) (fun w20 hq hs => ?_)
     replace hB := hB.tr1 hs lo2
     replace hb1 := hb1.tr1 hs (by omega)
     clear hs
     replace hb2 := hq
     refine x_nil ?_
     refine e_S ?_
     refine c_ret ?_
     refine fin1 (.inl rfl) rfl (rr_cell Tryd.underlying24 rfl rfl hb2.range0 sz24_HFault) ?_
     exact ⟨ret_fl (hR'.trans (firstF_end (by omega))), hB⟩
end Go.Proofs.YtahdbbgkgokkhaaDoor
