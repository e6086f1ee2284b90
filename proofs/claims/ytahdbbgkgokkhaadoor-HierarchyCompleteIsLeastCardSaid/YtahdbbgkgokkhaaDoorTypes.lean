/- What these functions of the program compute, at every world: glosswright/hierarchy.Types. -/
import Derived.Test.YtahdbbgkgokkhaaDoorName
namespace Go.Proofs.YtahdbbgkgokkhaaDoor
open Go.RowKit

def tyFault (l : List Ty) (i : Nat) : Int := match l[i]? with
  | none => 0
  | some t => if isName t.name = false then 10 else if seen ((l.take i).map (·.name)) t.name = true then 7 else if (decide (i = 0) == t.par.isEmpty) = false then 5 else parFault i (-1) t.par
def typesFault (l : List Ty) : Fl := if l.length = 0 ∨ 60 < l.length then (2, -1) else firstF (tyFault l) 0 l.length
theorem len_zero_dec (xs : List Int) : decide ((xs.length : Int) = 0) = xs.isEmpty := by cases xs <;> simp; omega
theorem mal_yes {k : Nat} {xs : List Int} (h : (!(decide ((k : Int) = 0) == decide ((xs.length : Int) = 0))) = true) : (decide (k = 0) == xs.isEmpty) = false := by
  rw [len_zero_dec] at h
  simpa using h
theorem mal_no {k : Nat} {xs : List Int} (h : (!(decide ((k : Int) = 0) == decide ((xs.length : Int) = 0))) = false) : (decide (k = 0) == xs.isEmpty) = true := by
  rw [len_zero_dec] at h
  simpa using h
theorem ty10 (l : List Ty) (k : Nat) (hlt : k < l.length) (h1 : isName l[k].name = false) : tyFault l k = 10 := by
  simp only [tyFault, List.getElem?_eq_getElem hlt, h1, if_true]
theorem ty7 (l : List Ty) (k : Nat) (hlt : k < l.length) (h1 : isName l[k].name = true) (h2 : seen ((l.take k).map (·.name)) l[k].name = true) : tyFault l k = 7 := by
  simp only [tyFault, List.getElem?_eq_getElem hlt, h1, h2, if_true]; rfl
theorem ty5 (l : List Ty) (k : Nat) (hlt : k < l.length) (h1 : isName l[k].name = true) (h2 : seen ((l.take k).map (·.name)) l[k].name = false) (h3 : (decide (k = 0) == l[k].par.isEmpty) = false) : tyFault l k = 5 := by
  simp only [tyFault, List.getElem?_eq_getElem hlt, h1, h2, h3, if_true]; rfl
theorem tyF_par (l : List Ty) (k : Nat) (hlt : k < l.length) (h1 : isName l[k].name = true) (h2 : seen ((l.take k).map (·.name)) l[k].name = false) (h3 : (decide (k = 0) == l[k].par.isEmpty) = true) : tyFault l k = parFault k (-1) (l[k].par.drop 0) := by
  simp only [tyFault, List.getElem?_eq_getElem hlt, h1, h2, h3, List.drop_zero]; rfl

theorem fn18 : callable Tryd.prog 18 = true := by kernel_rfl
theorem fn37 : callable Tryd.prog 37 = true := by kernel_rfl
theorem sz3 : (Tryd.prog.info? 3).map (·.size) = some 1 := by kernel_rfl
theorem sz33 : (Tryd.prog.info? 33).map (·.size) = some 1 := by kernel_rfl
theorem sz35 : (Tryd.prog.info? 35).map (·.size) = some 2 := by kernel_rfl
theorem sz9 : (Tryd.prog.info? 9).map (·.size) = some 1 := by kernel_rfl
theorem ze3 : (Tryd.prog.info? 3).map (·.zero) = some (some (.int .i64 0)) := by kernel_rfl
theorem ze35 : (Tryd.prog.info? 35).map (·.zero) = some (some (.agg #[.string ⟨#[]⟩, .slice none 0 0])) := by kernel_rfl
theorem types_any (A : Option Addr) (c : Nat) (l : List Ty) (w : World) (hT : TypesIn w A l) : Calls Tryd.prog 14 #[.slice A l.length c] w fun e w' => e = .returned (flV (typesFault l)) ∧ Bel w w' := by
 refine enter Tryd.func14 Tryd.ntmps14 rfl (Nat.le_of_ble_eq_true rfl) ?_
 have hB : Bel w w := Below.refl _ _
 refine c_seq ?_
 refine c_region ?_
 refine wl_al (cs := #[.int .i64 0, .int .i64 0]) ze24 rfl (fun b2 w1 hb2 hs hr => ?_)
 have lo2 := Nat.le_trans (Bel.size hB) hr
 replace hB := hB.tr0 hs
 clear hs
 clear hr
 refine x_nil ?_
 refine e_S ?_
 refine c_seq ?_
 refine c_seq ?_
 refine c_cut1 [11, 12, 13, 14, 15, 16, 17, 18] 18 (.bool (decide (l.length = 0 ∨ 60 < l.length))) (by simp [undef]) ?_ (fun gq => ?_)
 ·
  refine c_region ?_
  refine wl (r_mv (v := .slice _ _ _) rfl) ?_
  refine wl (r_len Tryd.underlying22 rfl) ?_
  refine wl (r_eql rfl rfl) ?_
  refine wl (r_mv (v := .bool _) rfl) ?_
  refine wl_casesd 14 rfl (fun g14 => ?_) (fun g14 => ?_)
  ·
   refine wlgn 14 rfl rfl rfl ?_
   refine wlgn 14 rfl rfl rfl ?_
   refine wlgn 14 rfl rfl rfl ?_
   refine wl (r_pt (v := .bool _) rfl rfl) ?_
   refine x_nil (e_R ⟨rfl, (by repeat (first | exact ag_refl | exact ag_ovr' | refine ag_upd rfl ?_ | refine ag_sub rfl ?_ | refine ag_kn (by assumption) ?_)), ?_⟩)
   show Value.bool _ = Value.bool _
   first | exact congrArg Value.bool (decide_eq_true (by omega)).symm | exact congrArg Value.bool (decide_eq_false (by omega)).symm | exact congrArg Value.bool (decide_eq_decide.2 (by omega)) | exact congrArg Value.bool ((decide_not).symm.trans (decide_eq_decide.2 (by omega)))
  ·
   refine wl_gd 14 rfl rfl ?_
   refine wl (r_mv (v := .slice _ _ _) rfl) ?_
   refine wl_gd 14 rfl rfl ?_
   refine wl (r_len Tryd.underlying22 rfl) ?_
   refine wl_gd 14 rfl rfl ?_
   refine wl (r_gtr rfl rfl) ?_
   refine wl (r_pf (v := .bool _) rfl rfl) ?_
   refine x_nil (e_R ⟨rfl, (by repeat (first | exact ag_refl | exact ag_ovr' | refine ag_upd rfl ?_ | refine ag_sub rfl ?_ | refine ag_kn (by assumption) ?_)), ?_⟩)
   show Value.bool _ = Value.bool _
   first | exact congrArg Value.bool (decide_eq_true (by omega)).symm | exact congrArg Value.bool (decide_eq_false (by omega)).symm | exact congrArg Value.bool (decide_eq_decide.2 (by omega)) | exact congrArg Value.bool ((decide_not).symm.trans (decide_eq_decide.2 (by omega)))
 refine e_S ?_
 refine c_ifd rfl (fun c18 => ?_) (fun c18 => ?_)
 ·
  refine c_seq ?_
  refine c_region ?_
  refine wl_cl fn18 (fault_any _ _ _) rfl (fun e' w2 hr => ?_)
  obtain ⟨rfl, hs⟩ := hr
  replace hs := Same.of_bel hs
  replace hB := hB.tr0 hs
  replace hb2 := hb2.tr0 hs
  clear hs
  refine ⟨_, rfl, ?_⟩
  refine wl_stW hb2 rfl rfl sz24 rfl (by repeat (first | rfl | refine one_cons (by first | rfl | assumption) ?_)) (fun w3 hq hs => ?_)
  replace hB := hB.tr1 hs lo2
  clear hs
  replace hb2 := hq
  refine x_nil ?_
  refine e_S ?_
  refine c_ret ?_
  refine e_Sr ?_
  refine fin1 (.inl rfl) rfl (rr_cell Tryd.underlying24 rfl rfl hb2.range0 sz24) ?_
  exact ⟨ret_fl (by simp only [typesFault, if_pos c18]), hB⟩
 ·
  have hR := Lib.hid (show typesFault l = firstF (tyFault l) 0 (l.length - 0) by simp only [typesFault, if_neg c18, Nat.sub_zero])
  refine c_skip ?_
  refine e_S ?_
  refine c_seq ?_
  refine c_region ?_
  refine wl_mm (fun b20 w4 hb20 hs hr => ?_)
  have or_b2_b20 : b2 < b20 := Nat.lt_of_lt_of_le hb2.lt hr
  have lo20 := Nat.le_trans (Bel.size hB) hr
  replace hB := hB.tr0 hs
  replace hb2 := hb2.tr0 hs
  clear hs
  clear hr
  refine wl (r_as (v := .map _) rfl) ?_
  refine x_nil ?_
  refine e_S ?_
  refine c_seq ?_
  refine c_seq ?_
  refine c_region ?_
  refine wl (r_mv (v := .slice _ _ _) rfl) ?_
  refine wl (r_len Tryd.underlying22 rfl) ?_
  refine wl (r_mv (v := .int _ _) rfl) ?_
  refine x_nil ?_
  refine e_S ?_
  refine c_block ?_
  refine c_loopS [4, 5, 6, 7, 8, 10, 23, 24, 25, 26, 27, 28, 29, 30, 31, 32, 33, 34, 35, 36, 37, 38, 39, 40, 41, 42, 43, 44, 45, 46, 47, 48, 49, 50, 51, 52, 53, 54, 55, 56, 57, 58, 59, 60, 61, 62, 63, 64, 65, 66, 67, 68, 69, 70, 71, 72, 73, 74, 75, 76, 77, 78, 79, 80] (fun m g w' => ∃ (k : Nat) (mp : List (ByteArray × Value)), k ≤ l.length ∧ m = l.length - k ∧ g 23 = .int .i64 k ∧ Bel w w' ∧ Blk w' b2 24 #[.int .i64 0, .int .i64 0] ∧ MapS w' b20 mp ∧ (∀ s, lkB mp s = seen ((l.take k).map (·.name)) s) ∧ typesFault l = firstF (tyFault l) k (l.length - k)) (l.length) ?_ (fun m g5 w5 hI => ?_)
  ·
   exact ⟨0, [], Nat.zero_le _, rfl, rfl, hB, hb2, hb20, fun s => rfl, hR.out⟩
  obtain ⟨k, mp, hk, hm, h23, hB, hb2, hb20, hmp, hR'⟩ := hI
  refine c_know 23 (.int .i64 k) h23 (by simp [undef]) ?_
  refine c_seq ?_
  refine c_region ?_
  refine wl (r_lss rfl rfl) ?_
  refine x_nil ?_
  refine e_S ?_
  refine c_seq ?_
  refine c_ifd rfl (fun c24 => ?_) (fun c24 => ?_)
  ·
   have hlt : k < l.length := by omega
   obtain ⟨tb, to, A', cp, rfl, htb, htr, hpar⟩ := hT.at_ hB hlt
   refine c_skip ?_
   refine e_S ?_
   refine c_seq ?_
   refine c_block ?_
   refine c_seq ?_
   refine c_region ?_
   refine wl (r_mv (v := .int _ _) rfl) ?_
   refine wl (r_ia (i := k) Tryd.underlying22 sz35 rfl rfl (by omega) rfl) ?_
   refine wl (r_ldS Tryd.underlying35 rfl rfl htr sz35) ?_
   refine wl_al (cs := #[.string ⟨#[]⟩, .slice none 0 0]) ze35 rfl (fun b5 w6 hb5 hs hr => ?_)
   have or_b2_b5 : b2 < b5 := Nat.lt_of_lt_of_le hb2.lt hr
   have or_b20_b5 : b20 < b5 := Nat.lt_of_lt_of_le hb20.lt hr
   have lo5 := Nat.le_trans (Bel.size hB) hr
   replace hB := hB.tr0 hs
   replace hb2 := hb2.tr0 hs
   replace hb20 := hb20.tr0 hs
   clear hs
   clear hr
   refine wl (r_as (v := .int _ _) rfl) ?_
   refine wl_stW hb5 rfl rfl sz35 rfl (by repeat (first | rfl | refine one_cons (by first | rfl | assumption) ?_)) (fun w7 hq hs => ?_)
   replace hB := hB.tr1 hs lo5
   replace hb2 := hb2.tr1 hs (by omega)
   replace hb20 := hb20.tr1 hs (by omega)
   clear hs
   replace hb5 := hq
   refine x_nil ?_
   refine e_S ?_
   refine c_seq ?_
   refine c_seq ?_
   refine c_region ?_
   refine wl (r_fa Tryd.underlying35 sz9 (by decide) rfl rfl rfl) ?_
   refine wl (r_ld1 (v := .string _) Tryd.underlying9 rfl rfl (hb5.cell rfl)) ?_
   refine wl_cl fn37 (name_any _ _) rfl (fun e' w8 hr => ?_)
   obtain ⟨rfl, rfl⟩ := hr
   refine ⟨_, rfl, ?_⟩
   refine wl (r_not rfl) ?_
   refine x_nil ?_
   refine e_S ?_
   refine c_if rfl (fun c31 => ?_) (fun c31 => ?_)
   ·
    have hty := ty10 l k hlt (by simpa using c31)
    refine c_seq ?_
    refine c_region ?_
    refine wl (r_mv (v := .int _ _) rfl) ?_
    refine wl_cl fn18 (fault_any _ _ _) rfl (fun e' w9 hr => ?_)
    obtain ⟨rfl, hs⟩ := hr
    replace hs := Same.of_bel hs
    replace hB := hB.tr0 hs
    replace hb2 := hb2.tr0 hs
    replace hb20 := hb20.tr0 hs
    replace hb5 := hb5.tr0 hs
    clear hs
    refine ⟨_, rfl, ?_⟩
    refine wl_stW hb2 rfl rfl sz24 rfl (by repeat (first | rfl | refine one_cons (by first | rfl | assumption) ?_)) (fun w10 hq hs => ?_)
    replace hB := hB.tr1 hs lo2
    replace hb20 := hb20.tr1 hs (by omega)
    replace hb5 := hb5.tr1 hs (by omega)
    clear hs
    replace hb2 := hq
    refine x_nil ?_
    refine e_S ?_
    refine c_ret ?_
    refine e_Sr ?_
    refine e_Br ?_
    refine e_Sr ?_
    refine e_LSr ?_
    refine e_Br ?_
    refine e_Sr ?_
    refine fin1 (.inl rfl) rfl (rr_cell Tryd.underlying24 rfl rfl hb2.range0 sz24) ?_
    exact ⟨ret_fl (hR'.trans (firstF_hit (c := 10) (by omega) hty (by decide))), hB⟩
   ·
    have hnm : isName (l[k]'hlt).name = true := by simpa using c31
    refine c_skip ?_
    refine e_S ?_
    refine c_seq ?_
    refine c_seq ?_
    refine c_region ?_
    refine wl (r_mv (v := .map _) rfl) ?_
    refine wl (r_fa Tryd.underlying35 sz9 (by decide) rfl rfl rfl) ?_
    refine wl (r_ld1 (v := .string _) Tryd.underlying9 rfl rfl (hb5.cell rfl)) ?_
    refine wl (r_lkS hb20 Tryd.underlying58 Tryd.underlying9 ze3 rfl rfl) ?_
    refine wl (r_mv (v := .tuple _) rfl) ?_
    refine wl (r_ex (v := _) rfl rfl) ?_
    refine wl (r_ex (v := .bool _) rfl rfl) ?_
    refine wl (r_as (v := _) rfl) ?_
    refine wl (r_as (v := .bool _) rfl) ?_
    refine x_nil ?_
    refine e_S ?_
    refine c_seq ?_
    refine c_region ?_
    refine wl (r_mv (v := .bool _) rfl) ?_
    refine x_nil ?_
    refine e_S ?_
    refine c_if rfl (fun c41 => ?_) (fun c41 => ?_)
    ·
     have hty := ty7 l k hlt hnm ((hmp _).symm.trans c41)
     refine c_seq ?_
     refine c_region ?_
     refine wl (r_mv (v := .int _ _) rfl) ?_
     refine wl_cl fn18 (fault_any _ _ _) rfl (fun e' w11 hr => ?_)
     obtain ⟨rfl, hs⟩ := hr
     replace hs := Same.of_bel hs
     replace hB := hB.tr0 hs
     replace hb2 := hb2.tr0 hs
     replace hb20 := hb20.tr0 hs
     replace hb5 := hb5.tr0 hs
     clear hs
     refine ⟨_, rfl, ?_⟩
     refine wl_stW hb2 rfl rfl sz24 rfl (by repeat (first | rfl | refine one_cons (by first | rfl | assumption) ?_)) (fun w12 hq hs => ?_)
     replace hB := hB.tr1 hs lo2
     replace hb20 := hb20.tr1 hs (by omega)
     replace hb5 := hb5.tr1 hs (by omega)
     clear hs
     replace hb2 := hq
     refine x_nil ?_
     refine e_S ?_
     refine c_ret ?_
     refine e_Sr ?_
     refine e_Br ?_
     refine e_Sr ?_
     refine e_LSr ?_
     refine e_Br ?_
     refine e_Sr ?_
     refine fin1 (.inl rfl) rfl (rr_cell Tryd.underlying24 rfl rfl hb2.range0 sz24) ?_
     exact ⟨ret_fl (hR'.trans (firstF_hit (c := 7) (by omega) hty (by decide))), hB⟩
    ·
     have hsn : seen ((l.take k).map (·.name)) (l[k]'hlt).name = false := by rw [← hmp]; exact c41
     have hmp' : ∀ s, lkB (setS mp (l[k]'hlt).name (.int .i64 k)) s = seen ((l.take (k + 1)).map (·.name)) s := fun s => by
       rw [lkB_false_set _ _ _ c41, take_snoc l hlt, List.map_append, List.map_cons, List.map_nil, seen_snoc, ← hmp]
       simp [lkB]
     refine c_skip ?_
     refine e_S ?_
     refine c_seq ?_
     refine c_region ?_
     refine wl (r_mv (v := .map _) rfl) ?_
     refine wl (r_fa Tryd.underlying35 sz9 (by decide) rfl rfl rfl) ?_
     refine wl (r_ld1 (v := .string _) Tryd.underlying9 rfl rfl (hb5.cell rfl)) ?_
     refine wl (r_mv (v := .int _ _) rfl) ?_
     refine wl_muS (v := .int _ _) hb20 Tryd.underlying58 Tryd.underlying9 rfl rfl rfl (fun w13 hq hs => ?_)
     replace hB := hB.tr1 hs lo20
     replace hb2 := hb2.tr1 hs (by omega)
     replace hb5 := hb5.tr1 hs (by omega)
     clear hs
     replace hb20 := hq
     refine x_nil ?_
     refine e_S ?_
     refine c_seq ?_
     refine c_seq ?_
     refine c_region ?_
     refine wl (r_mv (v := .int _ _) rfl) ?_
     refine wl (r_eql rfl rfl) ?_
     refine wl (r_fa Tryd.underlying35 sz33 (by decide) rfl rfl rfl) ?_
     refine wl (r_ld1 (v := .slice _ _ _) Tryd.underlying33 rfl rfl (hb5.cell rfl)) ?_
     refine wl (r_len Tryd.underlying33 rfl) ?_
     refine wl (r_eql rfl rfl) ?_
     refine wl (r_neqB Tryd.underlying4 rfl rfl) ?_
     refine x_nil ?_
     refine e_S ?_
     refine c_if rfl (fun c54 => ?_) (fun c54 => ?_)
     ·
      have hty := ty5 l k hlt hnm hsn (mal_yes c54)
      refine c_seq ?_
      refine c_region ?_
      refine wl (r_mv (v := .int _ _) rfl) ?_
      refine wl_cl fn18 (fault_any _ _ _) rfl (fun e' w14 hr => ?_)
      obtain ⟨rfl, hs⟩ := hr
      replace hs := Same.of_bel hs
      replace hB := hB.tr0 hs
      replace hb2 := hb2.tr0 hs
      replace hb20 := hb20.tr0 hs
      replace hb5 := hb5.tr0 hs
      clear hs
      refine ⟨_, rfl, ?_⟩
      refine wl_stW hb2 rfl rfl sz24 rfl (by repeat (first | rfl | refine one_cons (by first | rfl | assumption) ?_)) (fun w15 hq hs => ?_)
      replace hB := hB.tr1 hs lo2
      replace hb20 := hb20.tr1 hs (by omega)
      replace hb5 := hb5.tr1 hs (by omega)
      clear hs
      replace hb2 := hq
      refine x_nil ?_
      refine e_S ?_
      refine c_ret ?_
      refine e_Sr ?_
      refine e_Br ?_
      refine e_Sr ?_
      refine e_LSr ?_
      refine e_Br ?_
      refine e_Sr ?_
      refine fin1 (.inl rfl) rfl (rr_cell Tryd.underlying24 rfl rfl hb2.range0 sz24) ?_
      exact ⟨ret_fl (hR'.trans (firstF_hit (c := 5) (by omega) hty (by decide))), hB⟩
     ·
      have hmal := mal_no c54
      refine c_skip ?_
      refine e_S ?_
      refine c_seq ?_
      refine c_region ?_
      refine wl (r_as (v := .int _ _) rfl) ?_
      refine x_nil ?_
      refine e_S ?_
      refine c_seq ?_
      refine c_region ?_
      refine wl (r_fa Tryd.underlying35 sz33 (by decide) rfl rfl rfl) ?_
      refine wl (r_ld1 (v := .slice _ _ _) Tryd.underlying33 rfl rfl (hb5.cell rfl)) ?_
      refine wl (r_len Tryd.underlying33 rfl) ?_
      refine wl (r_mv (v := .int _ _) rfl) ?_
      refine x_nil ?_
      refine e_S ?_
      refine c_block ?_
      refine c_loopS [8, 10, 60, 61, 62, 63, 64, 65, 66, 67, 68, 69, 70, 71, 72, 73, 74, 75, 76, 77, 78, 79] (fun m g w' => ∃ (j : Nat) (last : Int), j ≤ (l[k]'hlt).par.length ∧ m = (l[k]'hlt).par.length - j ∧ g 60 = .int .i64 j ∧ g 8 = .int .i64 last ∧ w13 = w' ∧ tyFault l k = parFault k last ((l[k]'hlt).par.drop j)) ((l[k]'hlt).par.length) ?_ (fun m g17 w16 hI => ?_)
      ·
       exact ⟨0, -1, Nat.zero_le _, rfl, rfl, rfl, rfl, tyF_par l k hlt hnm hsn hmal⟩
      obtain ⟨j, last, hj, hmj, h60, h8, rfl, hP⟩ := hI
      refine c_know 60 (.int .i64 j) h60 (by simp [undef]) ?_
      refine c_know 8 (.int .i64 last) h8 (by simp [undef]) ?_
      refine c_seq ?_
      refine c_region ?_
      refine wl (r_lss rfl rfl) ?_
      refine x_nil ?_
      refine e_S ?_
      refine c_seq ?_
      refine c_ifd rfl (fun c61 => ?_) (fun c61 => ?_)
      ·
       have hlj : j < (l[k]'hlt).par.length := by omega
       have hmx := hpar.1
       unfold maxI at hmx
       obtain ⟨pb, po, rfl, hpb, hpc⟩ := hpar.at_ hlj
       replace hpc := hB.cell hpb hpc
       refine c_skip ?_
       refine e_S ?_
       refine c_seq ?_
       refine c_block ?_
       refine c_seq ?_
       refine c_region ?_
       refine wl (r_ia (i := j) Tryd.underlying33 sz3 rfl rfl (by omega) rfl) ?_
       refine wl (r_ld1 (v := .int _ _) Tryd.underlying3 rfl rfl hpc) ?_
       refine wl (r_as (v := .int _ _) rfl) ?_
       refine x_nil ?_
       refine e_S ?_
       refine c_seq ?_
       refine c_seq ?_
       refine c_cut1 [64, 65, 66, 67, 68, 69, 70] 70 (.bool (decide ((l[k]'hlt).par[j] < 0 ∨ (k : Int) ≤ (l[k]'hlt).par[j]))) (by simp [undef]) ?_ (fun gq => ?_)
       ·
        refine c_region ?_
        refine wl (r_mv (v := .int _ _) rfl) ?_
        refine wl (r_lss rfl rfl) ?_
        refine wl (r_mv (v := .bool _) rfl) ?_
        refine wl_casesd 66 rfl (fun g66 => ?_) (fun g66 => ?_)
        ·
         refine wlgn 66 rfl rfl rfl ?_
         refine wlgn 66 rfl rfl rfl ?_
         refine wlgn 66 rfl rfl rfl ?_
         refine wl (r_pt (v := .bool _) rfl rfl) ?_
         refine x_nil (e_R ⟨rfl, (by repeat (first | exact ag_refl | exact ag_ovr' | refine ag_upd rfl ?_ | refine ag_sub rfl ?_ | refine ag_kn (by assumption) ?_)), ?_⟩)
         show Value.bool _ = Value.bool _
         first | exact congrArg Value.bool (decide_eq_true (by omega)).symm | exact congrArg Value.bool (decide_eq_false (by omega)).symm | exact congrArg Value.bool (decide_eq_decide.2 (by omega)) | exact congrArg Value.bool ((decide_not).symm.trans (decide_eq_decide.2 (by omega)))
        ·
         refine wl_gd 66 rfl rfl ?_
         refine wl (r_mv (v := .int _ _) rfl) ?_
         refine wl_gd 66 rfl rfl ?_
         refine wl (r_mv (v := .int _ _) rfl) ?_
         refine wl_gd 66 rfl rfl ?_
         refine wl (r_geq rfl rfl) ?_
         refine wl (r_pf (v := .bool _) rfl rfl) ?_
         refine x_nil (e_R ⟨rfl, (by repeat (first | exact ag_refl | exact ag_ovr' | refine ag_upd rfl ?_ | refine ag_sub rfl ?_ | refine ag_kn (by assumption) ?_)), ?_⟩)
         show Value.bool _ = Value.bool _
         first | exact congrArg Value.bool (decide_eq_true (by omega)).symm | exact congrArg Value.bool (decide_eq_false (by omega)).symm | exact congrArg Value.bool (decide_eq_decide.2 (by omega)) | exact congrArg Value.bool ((decide_not).symm.trans (decide_eq_decide.2 (by omega)))
       refine e_S ?_
       refine c_ifd rfl (fun c70 => ?_) (fun c70 => ?_)
       ·
        have hty : tyFault l k = 3 := by rw [hP, List.drop_eq_getElem_cons hlj]; simp only [parFault, if_pos c70]
        refine c_seq ?_
        refine c_region ?_
        refine wl (r_mv (v := .int _ _) rfl) ?_
        refine wl_cl fn18 (fault_any _ _ _) rfl (fun e' w17 hr => ?_)
        obtain ⟨rfl, hs⟩ := hr
        replace hs := Same.of_bel hs
        replace hB := hB.tr0 hs
        replace hb2 := hb2.tr0 hs
        replace hb20 := hb20.tr0 hs
        replace hb5 := hb5.tr0 hs
        clear hs
        refine ⟨_, rfl, ?_⟩
        refine wl_stW hb2 rfl rfl sz24 rfl (by repeat (first | rfl | refine one_cons (by first | rfl | assumption) ?_)) (fun w18 hq hs => ?_)
        replace hB := hB.tr1 hs lo2
        replace hb20 := hb20.tr1 hs (by omega)
        replace hb5 := hb5.tr1 hs (by omega)
        clear hs
        replace hb2 := hq
        refine x_nil ?_
        refine e_S ?_
        refine c_ret ?_
        refine e_Sr ?_
        refine e_Br ?_
        refine e_Sr ?_
        refine e_LSr ?_
        refine e_Br ?_
        refine e_Br ?_
        refine e_Sr ?_
        refine e_LSr ?_
        refine e_Br ?_
        refine e_Sr ?_
        refine fin1 (.inl rfl) rfl (rr_cell Tryd.underlying24 rfl rfl hb2.range0 sz24) ?_
        exact ⟨ret_fl (hR'.trans (firstF_hit (c := 3) (by omega) hty (by decide))), hB⟩
       ·
        refine c_skip ?_
        refine e_S ?_
        refine c_seq ?_
        refine c_seq ?_
        refine c_region ?_
        refine wl (r_mv (v := .int _ _) rfl) ?_
        refine wl (r_mv (v := .int _ _) rfl) ?_
        refine wl (r_leq rfl rfl) ?_
        refine x_nil ?_
        refine e_S ?_
        refine c_ifd rfl (fun c75 => ?_) (fun c75 => ?_)
        ·
         have hty : tyFault l k = 13 := by rw [hP, List.drop_eq_getElem_cons hlj]; simp only [parFault, if_neg c70, if_pos c75]
         refine c_seq ?_
         refine c_region ?_
         refine wl (r_mv (v := .int _ _) rfl) ?_
         refine wl_cl fn18 (fault_any _ _ _) rfl (fun e' w19 hr => ?_)
         obtain ⟨rfl, hs⟩ := hr
         replace hs := Same.of_bel hs
         replace hB := hB.tr0 hs
         replace hb2 := hb2.tr0 hs
         replace hb20 := hb20.tr0 hs
         replace hb5 := hb5.tr0 hs
         clear hs
         refine ⟨_, rfl, ?_⟩
         refine wl_stW hb2 rfl rfl sz24 rfl (by repeat (first | rfl | refine one_cons (by first | rfl | assumption) ?_)) (fun w20 hq hs => ?_)
         replace hB := hB.tr1 hs lo2
         replace hb20 := hb20.tr1 hs (by omega)
         replace hb5 := hb5.tr1 hs (by omega)
         clear hs
         replace hb2 := hq
         refine x_nil ?_
         refine e_S ?_
         refine c_ret ?_
         refine e_Sr ?_
         refine e_Br ?_
         refine e_Sr ?_
         refine e_LSr ?_
         refine e_Br ?_
         refine e_Br ?_
         refine e_Sr ?_
         refine e_LSr ?_
         refine e_Br ?_
         refine e_Sr ?_
         refine fin1 (.inl rfl) rfl (rr_cell Tryd.underlying24 rfl rfl hb2.range0 sz24) ?_
         exact ⟨ret_fl (hR'.trans (firstF_hit (c := 13) (by omega) hty (by decide))), hB⟩
        ·
         have hP' : tyFault l k = parFault k (l[k]'hlt).par[j] ((l[k]'hlt).par.drop (j + 1)) := by rw [hP, List.drop_eq_getElem_cons hlj]; simp only [parFault, if_neg c70, if_neg c75]
         refine c_skip ?_
         refine e_S ?_
         refine c_region ?_
         refine wl (r_mv (v := .int _ _) rfl) ?_
         refine wl (r_as (v := .int _ _) rfl) ?_
         refine x_nil ?_
         refine e_B ?_
         refine e_S ?_
         refine c_region ?_
         refine wl (r_add rfl rfl rfl (by omega)) ?_
         refine wl (r_mv (v := .int _ _) rfl) ?_
         refine x_nil ?_
         refine e_LS ((l[k]'hlt).par.length - (j + 1)) (by omega) (by repeat (first | exact ag_refl | exact ag_ovr' | refine ag_upd rfl ?_ | refine ag_sub rfl ?_ | refine ag_kn (by assumption) ?_)) ?_
         exact ⟨j + 1, (l[k]'hlt).par[j], by omega, rfl, rfl, rfl, rfl, hP'⟩
      ·
       have hty := Lib.hid (show tyFault l k = 0 by rw [hP, List.drop_eq_nil_of_le (by omega)]; rfl)
       refine c_exit ?_
       refine e_Sx ?_
       refine e_LSx ?_
       refine e_Bx ?_
       refine e_B ?_
       refine e_S ?_
       refine c_region ?_
       refine wl (r_add rfl rfl rfl (by omega)) ?_
       refine wl (r_mv (v := .int _ _) rfl) ?_
       refine x_nil ?_
       refine e_LS (l.length - (k + 1)) (by omega) (by repeat (first | exact ag_refl | exact ag_ovr' | refine ag_upd rfl ?_ | refine ag_sub rfl ?_ | refine ag_kn (by assumption) ?_)) ?_
       exact ⟨k + 1, setS mp (l[k]'hlt).name (.int .i64 k), by omega, rfl, rfl, hB, hb2, hb20, hmp', hR'.trans (firstF_miss hlt hty.out)⟩
  ·
   refine c_exit ?_
   refine e_Sx ?_
   refine e_LSx ?_
   refine e_Bx ?_
   refine e_S ?_
   refine c_seq ?_
   refine c_region ?_
   refine wl (r_bd (vs := #[]) (cs := #[.int .i64 0, .int .i64 0]) (by simp) (by kernel_rfl)) ?_
   refine wl_stW hb2 rfl rfl sz24 rfl (by repeat (first | rfl | refine one_cons (by first | rfl | assumption) ?_)) (fun w21 hq hs => ?_)
   replace hB := hB.tr1 hs lo2
   replace hb20 := hb20.tr1 hs (by omega)
   clear hs
   replace hb2 := hq
   refine x_nil ?_
   refine e_S ?_
   refine c_ret ?_
   refine fin1 (.inl rfl) rfl (rr_cell Tryd.underlying24 rfl rfl hb2.range0 sz24) ?_
   exact ⟨ret_fl (hR'.trans (firstF_end (by omega))), hB⟩
end Go.Proofs.YtahdbbgkgokkhaaDoor
