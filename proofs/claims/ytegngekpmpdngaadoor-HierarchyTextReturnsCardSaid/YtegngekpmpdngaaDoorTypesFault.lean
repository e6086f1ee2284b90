/- What these functions of the program compute, at every world: glosswright/hierarchy.Types. What these functions of the program compute, at every world: glosswright/glosswrightref3.Name, glosswright/glosswrightref3.TypesFault. -/
import Derived.Test.YtegngekpmpdngaaDoorU
import Derived.Test.YtegngekpmpdngaaDoorName
namespace Go.Proofs.YtegngekpmpdngaaDoor
open Go.RowKit
def tyFault (l : List Ty) (i : Nat) : Int := match l[i]? with
  | none => 0
  | some t => if isName t.name = false then 10 else if seen ((l.take i).map (·.name)) t.name = true then 7 else if (decide (i = 0) == t.par.isEmpty) = false then 5 else parFault i (-1) t.par
def typesFault (l : List Ty) : Fl := if l.length = 0 ∨ 60 < l.length then (2, -1) else firstF (tyFault l) 0 l.length
theorem len_zero_dec (xs : List Int) : decide ((xs.length : Int) = 0) = xs.isEmpty := by cases xs <;> simp; omega
theorem mal_yes {k : Nat} {xs : List Int} (h : (!(decide ((k : Int) = 0) == decide ((xs.length : Int) = 0))) = true) : (decide (k = 0) == xs.isEmpty) = false := by
  rw [len_zero_dec] at h
  simpa using h
theorem mal_no {k : Nat} {xs : List Int} (h : (!(decide ((k : Int) = 0) == decide ((xs.length : Int) = 0))) = false) : (decide (k = 0) == xs.isEmpty) = true := by
  rw [len_zero_dec] at h
  simpa using h
theorem ty10 (l : List Ty) (k : Nat) (hlt : k < l.length) (h1 : isName l[k].name = false) : tyFault l k = 10 := by
  simp only [tyFault, List.getElem?_eq_getElem hlt, h1, if_true]
theorem ty7 (l : List Ty) (k : Nat) (hlt : k < l.length) (h1 : isName l[k].name = true) (h2 : seen ((l.take k).map (·.name)) l[k].name = true) : tyFault l k = 7 := by
  simp only [tyFault, List.getElem?_eq_getElem hlt, h1, h2, if_true]; rfl
theorem ty5 (l : List Ty) (k : Nat) (hlt : k < l.length) (h1 : isName l[k].name = true) (h2 : seen ((l.take k).map (·.name)) l[k].name = false) (h3 : (decide (k = 0) == l[k].par.isEmpty) = false) : tyFault l k = 5 := by
  simp only [tyFault, List.getElem?_eq_getElem hlt, h1, h2, h3, if_true]; rfl
theorem tyF_par (l : List Ty) (k : Nat) (hlt : k < l.length) (h1 : isName l[k].name = true) (h2 : seen ((l.take k).map (·.name)) l[k].name = false) (h3 : (decide (k = 0) == l[k].par.isEmpty) = true) : tyFault l k = parFault k (-1) (l[k].par.drop 0) := by
  simp only [tyFault, List.getElem?_eq_getElem hlt, h1, h2, h3, List.drop_zero]; rfl
theorem fn41 : callable Tryd.prog 41 = true := by kernel_rfl
theorem fn81 : callable Tryd.prog 81 = true := by kernel_rfl
theorem sz3 : (Tryd.prog.info? 3).map (·.size) = some 1 := by kernel_rfl
theorem sz43 : (Tryd.prog.info? 43).map (·.size) = some 1 := by kernel_rfl
theorem sz77 : (Tryd.prog.info? 77).map (·.size) = some 2 := by kernel_rfl
theorem sz9 : (Tryd.prog.info? 9).map (·.size) = some 1 := by kernel_rfl
theorem ze3 : (Tryd.prog.info? 3).map (·.zero) = some (some (.int .i64 0)) := by kernel_rfl
theorem ze77 : (Tryd.prog.info? 77).map (·.zero) = some (some (.agg #[.string ⟨#[]⟩, .slice none 0 0])) := by kernel_rfl
theorem types_any (A : Option Addr) (c : Nat) (l : List Ty) (w : World) (hT : TypesIn w A l) : Calls Tryd.prog 79 #[.slice A l.length c] w fun e w' => e = .returned (flV (typesFault l)) ∧ Bel w w' := by
 refine enter Tryd.func79 Tryd.ntmps79 rfl (Nat.le_of_ble_eq_true rfl) ?_
 have hB : Bel w w := Below.refl _ _
 refine c_seq (c_region ?_)
 refine wl_al (cs := #[.int .i64 0, .int .i64 0]) ze35 rfl (fun b2 w1 hb2 hs hr => ?_)
 have lo2 := nLT (Bel.size hB) hr
 replace hB := hB.tr0 hs
 clear hs
 clear hr
 refine x_nil (e_S (c_seq (c_seq ?_)))
 refine c_cut1 [11, 12, 13, 14, 15, 16, 17, 18] 18 (.bool (decide (l.length = 0 ∨ 60 < l.length))) nu ?_ (fun gq => ?_)
 ·
  refine c_region (wmS rfl (wl (r_len U22 rfl) (wl (r_eql rfl rfl) (wmB rfl ?_))))
  refine wl_casesd 14 rfl (fun g14 => ?_) (fun g14 => ?_)
  ·
   refine wlgn 14 rfl rfl rfl (wlgn 14 rfl rfl rfl (wlgn 14 rfl rfl rfl (wl (r_pt (v := .bool _) rfl rfl) ?_)))
   refine x_nil (e_R ⟨rfl, agA, ?_⟩)
   exact clA
  refine wl_gd 14 rfl rfl (wmS rfl (wl_gd 14 rfl rfl (wl (r_len U22 rfl) (wl_gd 14 rfl rfl (wl (r_gtr rfl rfl) ?_)))))
  refine wl (r_pf (v := .bool _) rfl rfl) ?_
  refine x_nil (e_R ⟨rfl, agA, ?_⟩)
  exact clA
 refine e_S ?_
 refine c_ifd rfl (fun c18 => ?_) (fun c18 => ?_)
 ·
  refine c_seq (c_region ?_)
  refine wl_cl fn41 (fault_any _ _ _) rfl (fun e' w2 hr => ?_)
  obtain ⟨rfl, hs⟩ := hr
  replace hs := Same.of_bel hs
  replace hB := hB.tr0 hs
  replace hb2 := hb2.tr0 hs
  clear hs
  refine ⟨_, rfl, ?_⟩
  refine wl_stW hb2 rfl rfl sz35 rfl oneA (fun w3 hq hs => ?_)
  replace hB := hB.tr1 hs lo2
  clear hs
  replace hb2 := hq
  refine x_nil (e_S (c_ret (e_Sr (fin1 (.inl rfl) rfl (rr_cell U35 rfl rfl hb2.range0 sz35) ?_))))
  exact ⟨ret_fl (by simp only [typesFault, if_pos c18]), hB⟩
 have hR := Lib.hid (show typesFault l = firstF (tyFault l) 0 (l.length - 0) by simp only [typesFault, if_neg c18, Nat.sub_zero])
 refine c_skip (e_S (c_seq (c_region ?_)))
 refine wl_mm (fun b20 w4 hb20 hs hr => ?_)
 have or_b2_b20 : b2 < b20 := nLL hb2.lt hr
 have lo20 := nLT (Bel.size hB) hr
 replace hB := hB.tr0 hs
 replace hb2 := hb2.tr0 hs
 clear hs
 clear hr
 refine wl (r_as (v := .map _) rfl) (x_nil (e_S (c_seq (c_seq (c_region ?_)))))
 refine wmS rfl (wl (r_len U22 rfl) (wmI rfl (x_nil (e_S (c_block ?_)))))
 refine c_loopS [4, 5, 6, 7, 8, 10, 23, 24, 25, 26, 27, 28, 29, 30, 31, 32, 33, 34, 35, 36, 37, 38, 39, 40, 41, 42, 43, 44, 45, 46, 47, 48, 49, 50, 51, 52, 53, 54, 55, 56, 57, 58, 59, 60, 61, 62, 63, 64, 65, 66, 67, 68, 69, 70, 71, 72, 73, 74, 75, 76, 77, 78, 79, 80] (fun m g w' => ∃ (k : Nat) (mp : List (ByteArray × Value)), k ≤ l.length ∧ m = l.length - k ∧ g 23 = .int .i64 k ∧ Bel w w' ∧ Blk w' b2 35 #[.int .i64 0, .int .i64 0] ∧ MapS w' b20 mp ∧ (∀ s, lkB mp s = seen ((l.take k).map (·.name)) s) ∧ typesFault l = firstF (tyFault l) k (l.length - k)) (l.length) ?_ (fun m g5 w5 hI => ?_)
 ·
  exact ⟨0, [], Nat.zero_le _, rfl, rfl, hB, hb2, hb20, fun s => rfl, hR.out⟩
 obtain ⟨k, mp, hk, hm, h23, hB, hb2, hb20, hmp, hR'⟩ := hI
 refine c_know 23 (.int .i64 k) h23 nu (c_seq (c_region (wl (r_lss rfl rfl) (x_nil (e_S ?_)))))
 refine c_seq ?_
 refine c_ifd rfl (fun c24 => ?_) (fun c24 => ?_)
 ·
  have hlt : k < l.length := by omega
  obtain ⟨tb, to, A', cp, rfl, htb, htr, hpar⟩ := hT.at_ hB hlt
  refine c_skip (e_S (c_seq (c_block (c_seq (c_region ?_)))))
  refine wmI rfl (wl (r_ia (i := k) U22 sz77 rfl rfl om rfl) (wl (r_ldS U77 rfl rfl htr sz77) ?_))
  refine wl_al (cs := #[.string ⟨#[]⟩, .slice none 0 0]) ze77 rfl (fun b5 w6 hb5 hs hr => ?_)
  have or_b2_b5 : b2 < b5 := nLL hb2.lt hr
  have or_b20_b5 : b20 < b5 := nLL hb20.lt hr
  have lo5 := nLT (Bel.size hB) hr
  replace hB := hB.tr0 hs
  replace hb2 := hb2.tr0 hs
  replace hb20 := hb20.tr0 hs
  clear hs
  clear hr
  refine waI rfl ?_
  refine wl_stW hb5 rfl rfl sz77 rfl oneA (fun w7 hq hs => ?_)
  replace hB := hB.tr1 hs lo5
  replace hb2 := hb2.tr1 hs om
  replace hb20 := hb20.tr1 hs om
  clear hs
  replace hb5 := hq
  refine x_nil (e_S (c_seq (c_seq (c_region (wl (r_fa U77 sz9 dE rfl rfl rfl) ?_)))))
  refine wl (r_ld1 (v := .string _) U9 rfl rfl (hb5.cell rfl)) ?_
  refine wl_cl fn81 (name_any _ _) rfl (fun e' w8 hr => ?_)
  obtain ⟨rfl, rfl⟩ := hr
  refine ⟨_, rfl, ?_⟩
  refine wl (r_not rfl) (x_nil (e_S ?_))
  refine c_if rfl (fun c31 => ?_) (fun c31 => ?_)
  ·
   have hty := ty10 l k hlt (by simpa using c31)
   refine c_seq (c_region (wmI rfl ?_))
   refine wl_cl fn41 (fault_any _ _ _) rfl (fun e' w9 hr => ?_)
   obtain ⟨rfl, hs⟩ := hr
   replace hs := Same.of_bel hs
   replace hB := hB.tr0 hs
   replace hb2 := hb2.tr0 hs
   replace hb20 := hb20.tr0 hs
   replace hb5 := hb5.tr0 hs
   clear hs
   refine ⟨_, rfl, ?_⟩
   refine wl_stW hb2 rfl rfl sz35 rfl oneA (fun w10 hq hs => ?_)
   replace hB := hB.tr1 hs lo2
   replace hb20 := hb20.tr1 hs om
   replace hb5 := hb5.tr1 hs om
   clear hs
   replace hb2 := hq
   refine x_nil (e_S (c_ret (e_Sr (e_Br (e_Sr ?_)))))
   refine e_LSr (e_Br (e_Sr (fin1 (.inl rfl) rfl (rr_cell U35 rfl rfl hb2.range0 sz35) ?_)))
   exact ⟨ret_fl (hR'.trans (firstF_hit (c := 10) om hty dE)), hB⟩
  have hnm : isName (l[k]'hlt).name = true := by simpa using c31
  refine c_skip (e_S (c_seq (c_seq (c_region (wl (r_mv (v := .map _) rfl) ?_)))))
  refine wl (r_fa U77 sz9 dE rfl rfl rfl) (wl (r_ld1 (v := .string _) U9 rfl rfl (hb5.cell rfl)) (wl (r_lkS hb20 Tryd.underlying120 U9 ze3 rfl rfl) (wmT rfl (wl (r_ex (v := _) rfl rfl) (wl (r_ex (v := .bool _) rfl rfl) ?_)))))
  refine wl (r_as (v := _) rfl) (waB rfl (x_nil (e_S (c_seq (c_region ?_)))))
  refine wmB rfl (x_nil (e_S ?_))
  refine c_if rfl (fun c41 => ?_) (fun c41 => ?_)
  ·
   have hty := ty7 l k hlt hnm ((hmp _).symm.trans c41)
   refine c_seq (c_region (wmI rfl ?_))
   refine wl_cl fn41 (fault_any _ _ _) rfl (fun e' w11 hr => ?_)
   obtain ⟨rfl, hs⟩ := hr
   replace hs := Same.of_bel hs
   replace hB := hB.tr0 hs
   replace hb2 := hb2.tr0 hs
   replace hb20 := hb20.tr0 hs
   replace hb5 := hb5.tr0 hs
   clear hs
   refine ⟨_, rfl, ?_⟩
   refine wl_stW hb2 rfl rfl sz35 rfl oneA (fun w12 hq hs => ?_)
   replace hB := hB.tr1 hs lo2
   replace hb20 := hb20.tr1 hs om
   replace hb5 := hb5.tr1 hs om
   clear hs
   replace hb2 := hq
   refine x_nil (e_S (c_ret (e_Sr (e_Br (e_Sr ?_)))))
   refine e_LSr (e_Br (e_Sr (fin1 (.inl rfl) rfl (rr_cell U35 rfl rfl hb2.range0 sz35) ?_)))
   exact ⟨ret_fl (hR'.trans (firstF_hit (c := 7) om hty dE)), hB⟩
  have hsn : seen ((l.take k).map (·.name)) (l[k]'hlt).name = false := by rw [← hmp]; exact c41
  have hmp' : ∀ s, lkB (setS mp (l[k]'hlt).name (.int .i64 k)) s = seen ((l.take (k + 1)).map (·.name)) s := fun s => by
    rw [lkB_false_set _ _ _ c41, take_snoc l hlt, List.map_append, List.map_cons, List.map_nil, seen_snoc, ← hmp]
    simp [lkB]
  refine c_skip (e_S (c_seq (c_region (wl (r_mv (v := .map _) rfl) (wl (r_fa U77 sz9 dE rfl rfl rfl) ?_)))))
  refine wl (r_ld1 (v := .string _) U9 rfl rfl (hb5.cell rfl)) (wmI rfl ?_)
  refine wl_muS (v := .int _ _) hb20 Tryd.underlying120 U9 rfl rfl rfl (fun w13 hq hs => ?_)
  replace hB := hB.tr1 hs lo20
  replace hb2 := hb2.tr1 hs om
  replace hb5 := hb5.tr1 hs om
  clear hs
  replace hb20 := hq
  refine x_nil (e_S (c_seq (c_seq (c_region (wmI rfl ?_)))))
  refine wl (r_eql rfl rfl) (wl (r_fa U77 sz43 dE rfl rfl rfl) (wl (r_ld1 (v := .slice _ _ _) U43 rfl rfl (hb5.cell rfl)) (wl (r_len U43 rfl) (wl (r_eql rfl rfl) (wl (r_neqB U4 rfl rfl) ?_)))))
  refine x_nil (e_S ?_)
  refine c_if rfl (fun c54 => ?_) (fun c54 => ?_)
  ·
   have hty := ty5 l k hlt hnm hsn (mal_yes c54)
   refine c_seq (c_region (wmI rfl ?_))
   refine wl_cl fn41 (fault_any _ _ _) rfl (fun e' w14 hr => ?_)
   obtain ⟨rfl, hs⟩ := hr
   replace hs := Same.of_bel hs
   replace hB := hB.tr0 hs
   replace hb2 := hb2.tr0 hs
   replace hb20 := hb20.tr0 hs
   replace hb5 := hb5.tr0 hs
   clear hs
   refine ⟨_, rfl, ?_⟩
   refine wl_stW hb2 rfl rfl sz35 rfl oneA (fun w15 hq hs => ?_)
   replace hB := hB.tr1 hs lo2
   replace hb20 := hb20.tr1 hs om
   replace hb5 := hb5.tr1 hs om
   clear hs
   replace hb2 := hq
   refine x_nil (e_S (c_ret (e_Sr (e_Br (e_Sr ?_)))))
   refine e_LSr (e_Br (e_Sr (fin1 (.inl rfl) rfl (rr_cell U35 rfl rfl hb2.range0 sz35) ?_)))
   exact ⟨ret_fl (hR'.trans (firstF_hit (c := 5) om hty dE)), hB⟩
  have hmal := mal_no c54
  refine c_skip (e_S (c_seq (c_region (waI rfl (x_nil ?_)))))
  refine e_S (c_seq (c_region (wl (r_fa U77 sz43 dE rfl rfl rfl) (wl (r_ld1 (v := .slice _ _ _) U43 rfl rfl (hb5.cell rfl)) (wl (r_len U43 rfl) ?_)))))
  refine wmI rfl (x_nil (e_S (c_block ?_)))
  refine c_loopS [8, 10, 60, 61, 62, 63, 64, 65, 66, 67, 68, 69, 70, 71, 72, 73, 74, 75, 76, 77, 78, 79] (fun m g w' => ∃ (j : Nat) (last : Int), j ≤ (l[k]'hlt).par.length ∧ m = (l[k]'hlt).par.length - j ∧ g 60 = .int .i64 j ∧ g 8 = .int .i64 last ∧ w13 = w' ∧ tyFault l k = parFault k last ((l[k]'hlt).par.drop j)) ((l[k]'hlt).par.length) ?_ (fun m g17 w16 hI => ?_)
  ·
   exact ⟨0, -1, Nat.zero_le _, rfl, rfl, rfl, rfl, tyF_par l k hlt hnm hsn hmal⟩
  obtain ⟨j, last, hj, hmj, h60, h8, rfl, hP⟩ := hI
  refine c_know 60 (.int .i64 j) h60 nu (c_know 8 (.int .i64 last) h8 nu (c_seq (c_region (wl (r_lss rfl rfl) (x_nil ?_)))))
  refine e_S (c_seq ?_)
  refine c_ifd rfl (fun c61 => ?_) (fun c61 => ?_)
  ·
   have hlj : j < (l[k]'hlt).par.length := by omega
   have hmx := hpar.1
   unfold maxI at hmx
   obtain ⟨pb, po, rfl, hpb, hpc⟩ := hpar.at_ hlj
   replace hpc := hB.cell hpb hpc
   refine c_skip (e_S (c_seq (c_block (c_seq (c_region ?_)))))
   refine wl (r_ia (i := j) U43 sz3 rfl rfl om rfl) (wl (r_ld1 (v := .int _ _) U3 rfl rfl hpc) (waI rfl (x_nil (e_S (c_seq ?_)))))
   refine c_seq ?_
   refine c_cut1 [64, 65, 66, 67, 68, 69, 70] 70 (.bool (decide ((l[k]'hlt).par[j] < 0 ∨ (k : Int) ≤ (l[k]'hlt).par[j]))) nu ?_ (fun gq => ?_)
   ·
    refine c_region (wmI rfl (wl (r_lss rfl rfl) (wmB rfl ?_)))
    refine wl_casesd 66 rfl (fun g66 => ?_) (fun g66 => ?_)
    ·
     refine wlgn 66 rfl rfl rfl (wlgn 66 rfl rfl rfl (wlgn 66 rfl rfl rfl (wl (r_pt (v := .bool _) rfl rfl) ?_)))
     refine x_nil (e_R ⟨rfl, agA, ?_⟩)
     exact clA
    refine wl_gd 66 rfl rfl (wmI rfl (wl_gd 66 rfl rfl (wmI rfl (wl_gd 66 rfl rfl (wl (r_geq rfl rfl) ?_)))))
    refine wl (r_pf (v := .bool _) rfl rfl) ?_
    refine x_nil (e_R ⟨rfl, agA, ?_⟩)
    exact clA
   refine e_S ?_
   refine c_ifd rfl (fun c70 => ?_) (fun c70 => ?_)
   ·
    have hty : tyFault l k = 3 := by rw [hP, List.drop_eq_getElem_cons hlj]; simp only [parFault, if_pos c70]
    refine c_seq (c_region (wmI rfl ?_))
    refine wl_cl fn41 (fault_any _ _ _) rfl (fun e' w17 hr => ?_)
    obtain ⟨rfl, hs⟩ := hr
    replace hs := Same.of_bel hs
    replace hB := hB.tr0 hs
    replace hb2 := hb2.tr0 hs
    replace hb20 := hb20.tr0 hs
    replace hb5 := hb5.tr0 hs
    clear hs
    refine ⟨_, rfl, ?_⟩
    refine wl_stW hb2 rfl rfl sz35 rfl oneA (fun w18 hq hs => ?_)
    replace hB := hB.tr1 hs lo2
    replace hb20 := hb20.tr1 hs om
    replace hb5 := hb5.tr1 hs om
    clear hs
    replace hb2 := hq
    refine x_nil (e_S (c_ret (e_Sr (e_Br (e_Sr ?_)))))
    refine e_LSr (e_Br (e_Br (e_Sr (e_LSr (e_Br ?_)))))
    refine e_Sr (fin1 (.inl rfl) rfl (rr_cell U35 rfl rfl hb2.range0 sz35) ?_)
    exact ⟨ret_fl (hR'.trans (firstF_hit (c := 3) om hty dE)), hB⟩
   refine c_skip (e_S (c_seq (c_seq (c_region (wmI rfl ?_)))))
   refine wmI rfl (wl (r_leq rfl rfl) (x_nil (e_S ?_)))
   refine c_ifd rfl (fun c75 => ?_) (fun c75 => ?_)
   ·
    have hty : tyFault l k = 13 := by rw [hP, List.drop_eq_getElem_cons hlj]; simp only [parFault, if_neg c70, if_pos c75]
    refine c_seq (c_region (wmI rfl ?_))
    refine wl_cl fn41 (fault_any _ _ _) rfl (fun e' w19 hr => ?_)
    obtain ⟨rfl, hs⟩ := hr
    replace hs := Same.of_bel hs
    replace hB := hB.tr0 hs
    replace hb2 := hb2.tr0 hs
    replace hb20 := hb20.tr0 hs
    replace hb5 := hb5.tr0 hs
    clear hs
    refine ⟨_, rfl, ?_⟩
    refine wl_stW hb2 rfl rfl sz35 rfl oneA (fun w20 hq hs => ?_)
    replace hB := hB.tr1 hs lo2
    replace hb20 := hb20.tr1 hs om
    replace hb5 := hb5.tr1 hs om
    clear hs
    replace hb2 := hq
    refine x_nil (e_S (c_ret (e_Sr (e_Br (e_Sr ?_)))))
    refine e_LSr (e_Br (e_Br (e_Sr (e_LSr (e_Br ?_)))))
    refine e_Sr (fin1 (.inl rfl) rfl (rr_cell U35 rfl rfl hb2.range0 sz35) ?_)
    exact ⟨ret_fl (hR'.trans (firstF_hit (c := 13) om hty dE)), hB⟩
   have hP' : tyFault l k = parFault k (l[k]'hlt).par[j] ((l[k]'hlt).par.drop (j + 1)) := by rw [hP, List.drop_eq_getElem_cons hlj]; simp only [parFault, if_neg c70, if_neg c75]
   refine c_skip (e_S (c_region (wmI rfl (waI rfl (x_nil ?_)))))
   refine e_B (e_S (c_region (wl (r_add rfl rfl rfl om) (wmI rfl (x_nil ?_)))))
   refine e_LS ((l[k]'hlt).par.length - (j + 1)) om agA ?_
   exact ⟨j + 1, (l[k]'hlt).par[j], by omega, rfl, rfl, rfl, rfl, hP'⟩
  have hty := Lib.hid (show tyFault l k = 0 by rw [hP, List.drop_eq_nil_of_le om]; rfl)
  refine c_exit (e_Sx (e_LSx (e_Bx (e_B (e_S ?_)))))
  refine c_region (wl (r_add rfl rfl rfl om) (wmI rfl (x_nil (e_LS (l.length - (k + 1)) om agA ?_))))
  exact ⟨k + 1, setS mp (l[k]'hlt).name (.int .i64 k), by omega, rfl, rfl, hB, hb2, hb20, hmp', hR'.trans (firstF_miss hlt hty.out)⟩
 refine c_exit (e_Sx (e_LSx (e_Bx (e_S (c_seq ?_)))))
 refine c_region (wl (r_bd (vs := #[]) (cs := #[.int .i64 0, .int .i64 0]) (by simp) kR) ?_)
 refine wl_stW hb2 rfl rfl sz35 rfl oneA (fun w21 hq hs => ?_)
 replace hB := hB.tr1 hs lo2
 replace hb20 := hb20.tr1 hs om
 clear hs
 replace hb2 := hq
 refine x_nil (e_S (c_ret (fin1 (.inl rfl) rfl (rr_cell U35 rfl rfl hb2.range0 sz35) ?_)))
 exact ⟨ret_fl (hR'.trans (firstF_end om)), hB⟩
end Go.Proofs.YtegngekpmpdngaaDoor
namespace Go.Proofs.YtegngekpmpdngaaDoor
open Go.RowKit
theorem seen_yes {l : List Ty} {j k : Nat} {s : ByteArray} (hk : k < l.length) (hj : j < k) (h : (l[j]'om).name = s) : seen ((l.take k).map (·.name)) s = true := by
  simp only [seen, List.any_eq_true, decide_eq_true_eq, List.mem_map]
  refine ⟨_, ⟨l[j]'om, ?_, rfl⟩, h⟩
  rw [List.mem_take_iff_getElem]
  exact ⟨j, by omega, rfl⟩
theorem fn63 : callable Tryd.prog 63 = true := by kernel_rfl
theorem sz5 : (Tryd.prog.info? 5).map (·.size) = some 1 := by kernel_rfl
theorem rname_any (s : ByteArray) (w : World) : Calls Tryd.prog 63 #[.string s] w fun e w' => e = .returned (.bool (isName s)) ∧ Bel w w' := by
 obtain ⟨c0, e0⟩ := hd_num s
 have hN := Lib.hid (isName_eq s c0 e0)
 refine enter Tryd.func63 Tryd.ntmps63 rfl (Nat.le_of_ble_eq_true rfl) ?_
 have hB : Bel w w := Below.refl _ _
 refine c_seq (c_region (waB rfl (x_nil (e_S (c_seq ?_)))))
 refine c_seq ?_
 refine c_cut1 [7, 8, 9, 10, 11, 12, 13, 14] 14 (.bool (decide (s.size < 1 ∨ 30 < s.size))) nu ?_ (fun gq => ?_)
 ·
  refine c_region (wl (r_mv (v := .string _) rfl) (wl (r_lenS U9 rfl) (wl (r_lss rfl rfl) (wmB rfl ?_))))
  refine wl_casesd 10 rfl (fun g10 => ?_) (fun g10 => ?_)
  ·
   refine wlgn 10 rfl rfl rfl (wlgn 10 rfl rfl rfl (wlgn 10 rfl rfl rfl (wl (r_pt (v := .bool _) rfl rfl) ?_)))
   refine x_nil (e_R ⟨rfl, agA, ?_⟩)
   exact clA
  refine wl_gd 10 rfl rfl (wl (r_mv (v := .string _) rfl) (wl_gd 10 rfl rfl (wl (r_lenS U9 rfl) (wl_gd 10 rfl rfl (wl (r_gtr rfl rfl) ?_)))))
  refine wl (r_pf (v := .bool _) rfl rfl) ?_
  refine x_nil (e_R ⟨rfl, agA, ?_⟩)
  exact clA
 refine e_S ?_
 refine c_ifd rfl (fun c14 => ?_) (fun c14 => ?_)
 ·
  refine c_seq (c_region (waB rfl (x_nil (e_S (c_ret ?_)))))
  refine e_Sr (fin1 (.inl rfl) rfl rfl ?_)
  exact ⟨ret_bool (by rw [hN.out]; exact decide_eq_false (fun h => by omega)), hB⟩
 refine c_skip (e_S (c_seq (c_seq (c_region (wl (r_mv (v := .string _) rfl) ?_)))))
 refine wl_cvB U9 U129 U5 rfl (fun b16 c16 w1 hc16 hs hr => ?_)
 have lo16 := nLT (Bel.size hB) hr
 replace hB := hB.tr0 hs
 clear hs
 refine wl (r_len U129 rfl) (wmI rfl (x_nil (e_S (c_block ?_))))
 refine c_loopS [2, 3, 4, 5, 6, 18, 19, 20, 21, 22, 23, 24, 25, 26, 27, 28, 29, 30, 31, 32, 33, 34, 35, 36, 37, 38, 39, 40, 41, 42, 43, 44, 45, 46, 47, 48, 49, 50, 51, 52, 53] (fun m g w' => ∃ k : Nat, k ≤ s.size ∧ m = s.size - k ∧ g 18 = .int .i64 k ∧ w1 = w' ∧ (0 < k → 97 ≤ c0 ∧ c0 ≤ 122) ∧ (∀ j (hj : j < s.size), j < k → nameCh (s[j]'hj) = true)) (s.size) ?_ (fun m g4 w2 hI => ?_)
 ·
  exact ⟨0, Nat.zero_le _, rfl, rfl, rfl, fun h => by omega, fun j hj h => by omega⟩
 obtain ⟨k, hk, hm, h18, rfl, hz, hall⟩ := hI
 refine c_know 18 (.int .i64 k) h18 nu (c_seq (c_region (wl (r_lss rfl rfl) (x_nil (e_S ?_)))))
 refine c_seq ?_
 refine c_ifd rfl (fun c19 => ?_) (fun c19 => ?_)
 ·
  refine c_skip (e_S (c_seq (c_block (c_seq (c_region ?_)))))
  refine wmI rfl (wl (r_ia (i := k) U129 sz5 rfl rfl om rfl) (wl (r_ld1 (v := .int _ _) U5 rfl rfl (hc16 k om)) (waI rfl (waI rfl (x_nil ?_)))))
  refine e_S (c_seq ?_)
  refine c_cut1 [5, 23, 24, 25, 26, 27, 28] 5 (.bool (decide (97 ≤ (s[k]'om).toNat ∧ (s[k]'om).toNat ≤ 122))) nu ?_ (fun gq => ?_)
  ·
   refine c_region (wmI rfl (wl (r_geq rfl rfl) (wmB rfl ?_)))
   refine wl_casesd 25 rfl (fun g25 => ?_) (fun g25 => ?_)
   ·
    refine wl_gd 25 rfl rfl (wmI rfl (wl_gd 25 rfl rfl (wl (r_leq rfl rfl) (wl (r_pt (v := .bool _) rfl rfl) (waB rfl ?_)))))
    refine x_nil (e_R ⟨rfl, agA, ?_⟩)
    exact clA
   refine wlgn 25 rfl rfl rfl (wlgn 25 rfl rfl rfl (wl (r_pf (v := .bool _) rfl rfl) (waB rfl ?_)))
   refine x_nil (e_R ⟨rfl, agA, ?_⟩)
   exact clA
  refine e_S (c_seq ?_)
  refine c_cut1 [6, 29, 30, 31, 32, 33, 34, 35, 36, 37, 38, 39, 40, 41, 42] 6 (.bool (decide ((48 ≤ (s[k]'om).toNat ∧ (s[k]'om).toNat ≤ 57) ∨ (s[k]'om).toNat = 95 ∨ (s[k]'om).toNat = 45))) nu ?_ (fun gq => ?_)
  ·
   refine c_region (wmI rfl (wl (r_geq rfl rfl) (wmB rfl ?_)))
   refine wl_casesd 31 rfl (fun g31 => ?_) (fun g31 => ?_)
   ·
    refine wl_gd 31 rfl rfl (wmI rfl (wl_gd 31 rfl rfl (wl (r_leq rfl rfl) (wl (r_pt (v := .bool _) rfl rfl) (wmB rfl ?_)))))
    refine wl_casesd 35 rfl (fun g35 => ?_) (fun g35 => ?_)
    ·
     refine wlgn 35 rfl rfl rfl (wlgn 35 rfl rfl rfl (wl (r_pt (v := .bool _) rfl rfl) (wmB rfl (wlgn 39 rfl rfl rfl (wlgn 39 rfl rfl rfl ?_)))))
     refine wl (r_pt (v := .bool _) rfl rfl) (waB rfl ?_)
     refine x_nil (e_R ⟨rfl, agA, ?_⟩)
     exact clA
    refine wl_gd 35 rfl rfl (wmI rfl (wl_gd 35 rfl rfl (wl (r_eql rfl rfl) (wl (r_pf (v := .bool _) rfl rfl) (wmB rfl ?_)))))
    refine wl_casesd 39 rfl (fun g39 => ?_) (fun g39 => ?_)
    ·
     refine wlgn 39 rfl rfl rfl (wlgn 39 rfl rfl rfl (wl (r_pt (v := .bool _) rfl rfl) (waB rfl ?_)))
     refine x_nil (e_R ⟨rfl, agA, ?_⟩)
     exact clA
    refine wl_gd 39 rfl rfl (wmI rfl (wl_gd 39 rfl rfl (wl (r_eql rfl rfl) (wl (r_pf (v := .bool _) rfl rfl) (waB rfl ?_)))))
    refine x_nil (e_R ⟨rfl, agA, ?_⟩)
    exact clA
   refine wlgn 31 rfl rfl rfl (wlgn 31 rfl rfl rfl (wl (r_pf (v := .bool _) rfl rfl) (wmB rfl (wl_gd 35 rfl rfl (wmI rfl ?_)))))
   refine wl_gd 35 rfl rfl (wl (r_eql rfl rfl) (wl (r_pf (v := .bool _) rfl rfl) (wmB rfl ?_)))
   refine wl_casesd 39 rfl (fun g39 => ?_) (fun g39 => ?_)
   ·
    refine wlgn 39 rfl rfl rfl (wlgn 39 rfl rfl rfl (wl (r_pt (v := .bool _) rfl rfl) (waB rfl ?_)))
    refine x_nil (e_R ⟨rfl, agA, ?_⟩)
    exact clA
   refine wl_gd 39 rfl rfl (wmI rfl (wl_gd 39 rfl rfl (wl (r_eql rfl rfl) (wl (r_pf (v := .bool _) rfl rfl) (waB rfl ?_)))))
   refine x_nil (e_R ⟨rfl, agA, ?_⟩)
   exact clA
  refine e_S (c_seq ?_)
  refine c_cut1 [43, 44, 45, 46, 47, 48, 49, 50, 51, 52] 52 (.bool (decide (¬ (97 ≤ (s[k]'om).toNat ∧ (s[k]'om).toNat ≤ 122) ∧ (¬ ((48 ≤ (s[k]'om).toNat ∧ (s[k]'om).toNat ≤ 57) ∨ (s[k]'om).toNat = 95 ∨ (s[k]'om).toNat = 45) ∨ k = 0)))) nu ?_ (fun gq => ?_)
  ·
   refine c_region (wmB rfl (wl (r_notd rfl) (wmB rfl ?_)))
   refine wl_casesd 45 rfl (fun g45 => ?_) (fun g45 => ?_)
   ·
    refine wl_gd 45 rfl rfl (wmB rfl (wl_gd 45 rfl rfl (wl (r_notd rfl) (wl_gd 45 rfl rfl (wmB rfl ?_)))))
    refine wl_casesd 48 rfl (fun g48 => ?_) (fun g48 => ?_)
    ·
     refine wlgn 48 rfl rfl rfl (wlgn 48 rfl rfl rfl (wl_gd 45 rfl rfl (wl (r_pt (v := .bool _) rfl rfl) (wl (r_pt (v := .bool _) rfl rfl) ?_))))
     refine x_nil (e_R ⟨rfl, agA, ?_⟩)
     exact clA
    refine wl_gd 48 rfl rfl (wmI rfl (wl_gd 48 rfl rfl (wl (r_eql rfl rfl) (wl_gd 45 rfl rfl (wl (r_pf (v := .bool _) rfl rfl) ?_)))))
    refine wl (r_pt (v := .bool _) rfl rfl) ?_
    refine x_nil (e_R ⟨rfl, agA, ?_⟩)
    exact clA
   refine wlgn 45 rfl rfl rfl (wlgn 45 rfl rfl rfl (wlgn 45 rfl rfl rfl (wlgu 48 rfl rfl (wlgu 48 rfl rfl (wlgn 45 rfl rfl rfl ?_)))))
   refine wl (r_pf (v := .bool _) rfl rfl) ?_
   refine x_nil (e_R ⟨rfl, agA, ?_⟩)
   exact clA
  refine e_S ?_
  refine c_ifd rfl (fun c52 => ?_) (fun c52 => ?_)
  ·
   have hno : ¬ ((97 ≤ c0 ∧ c0 ≤ 122) ∧ ∀ j (hj : j < s.size), nameCh (s[j]'hj) = true) := fun h => by
     have h1 := (nameCh_iff _).1 (h.2 k om)
     have h2 : k = 0 := by omega
     subst h2
     have := e0 om
     omega
   refine c_seq (c_region (waB rfl (x_nil (e_S (c_ret ?_)))))
   refine e_Br (e_Sr (e_LSr (e_Br (e_Sr (fin1 (.inl rfl) rfl rfl ?_)))))
   exact ⟨ret_bool (by rw [hN.out]; exact decide_eq_false (fun h => hno h.2)), hB⟩
  have hz' : 97 ≤ c0 ∧ c0 ≤ 122 := by
    by_cases e : k = 0
    · subst e; have := e0 om; omega
    · exact hz om
  have hall' : ∀ j (hj : j < s.size), j < k + 1 → nameCh (s[j]'hj) = true := fun j hj h => by
    by_cases e : j = k
    · subst e; exact (nameCh_iff _).2 om
    · exact hall j hj om
  refine c_skip (e_B (e_S (c_region (wl (r_add rfl rfl rfl om) (wmI rfl ?_)))))
  refine x_nil (e_LS (s.size - (k + 1)) om agA ?_)
  exact ⟨k + 1, by omega, rfl, rfl, rfl, fun _ => hz', fun j hj h => hall' j hj h⟩
 refine c_exit (e_Sx (e_LSx (e_Bx (e_S (c_seq ?_)))))
 refine c_region (waB rfl (x_nil (e_S (c_ret (fin1 (.inl rfl) rfl rfl ?_)))))
 exact ⟨ret_bool (by rw [hN.out]; exact decide_eq_true ⟨by omega, hz om, fun j hj => hall j hj om⟩), hB⟩
theorem typesFault_any (A : Option Addr) (c : Nat) (l : List Ty) (w : World) (hc : l.length ≤ c) (hT : TypesIn w A l) : Calls Tryd.prog 61 #[.slice A l.length c] w fun e w' => e = .returned (flV (typesFault l)) ∧ Bel w w' := by
 refine enter Tryd.func61 Tryd.ntmps61 rfl (Nat.le_of_ble_eq_true rfl) ?_
 have hB : Bel w w := Below.refl _ _
 refine c_seq (c_region ?_)
 refine wl_al (cs := #[.int .i64 0, .int .i64 0]) ze35 rfl (fun b2 w1 hb2 hs hr => ?_)
 have lo2 := nLT (Bel.size hB) hr
 replace hB := hB.tr0 hs
 clear hs
 clear hr
 refine x_nil (e_S (c_seq (c_seq ?_)))
 refine c_cut1 [9, 10, 11, 12, 13, 14, 15, 16] 16 (.bool (decide (l.length = 0 ∨ 60 < l.length))) nu ?_ (fun gq => ?_)
 ·
  refine c_region (wmS rfl (wl (r_len U22 rfl) (wl (r_eql rfl rfl) (wmB rfl ?_))))
  refine wl_casesd 12 rfl (fun g12 => ?_) (fun g12 => ?_)
  ·
   refine wlgn 12 rfl rfl rfl (wlgn 12 rfl rfl rfl (wlgn 12 rfl rfl rfl (wl (r_pt (v := .bool _) rfl rfl) ?_)))
   refine x_nil (e_R ⟨rfl, agA, ?_⟩)
   exact clA
  refine wl_gd 12 rfl rfl (wmS rfl (wl_gd 12 rfl rfl (wl (r_len U22 rfl) (wl_gd 12 rfl rfl (wl (r_gtr rfl rfl) ?_)))))
  refine wl (r_pf (v := .bool _) rfl rfl) ?_
  refine x_nil (e_R ⟨rfl, agA, ?_⟩)
  exact clA
 refine e_S ?_
 refine c_ifd rfl (fun c16 => ?_) (fun c16 => ?_)
 ·
  refine c_seq (c_region (wl (r_bd2 (v0 := .int _ _) (v1 := .int _ _) (fun v0 v1 => #[v0, v1]) rfl rfl kR) ?_))
  refine wl_stW hb2 rfl rfl sz35 rfl oneA (fun w2 hq hs => ?_)
  replace hB := hB.tr1 hs lo2
  clear hs
  replace hb2 := hq
  refine x_nil (e_S (c_ret (e_Sr (fin1 (.inl rfl) rfl (rr_cell U35 rfl rfl hb2.range0 sz35) ?_))))
  exact ⟨ret_fl (by simp only [typesFault, if_pos c16]), hB⟩
 have hR := Lib.hid (show typesFault l = firstF (tyFault l) 0 (l.length - 0) by simp only [typesFault, if_neg c16, Nat.sub_zero])
 refine c_skip (e_S (c_seq (c_seq (c_region (wmS rfl ?_)))))
 refine wl (r_len U22 rfl) (wmI rfl (x_nil (e_S (c_block ?_))))
 refine c_loopS [3, 4, 6, 7, 8, 20, 21, 22, 23, 24, 25, 26, 27, 28, 29, 30, 31, 32, 33, 34, 35, 36, 37, 38, 39, 40, 41, 42, 43, 44, 45, 46, 47, 48, 49, 50, 51, 52, 53, 54, 55, 56, 57, 58, 59, 60, 61, 62, 63, 64, 65, 66, 67, 68, 69, 70, 71, 72, 73, 74, 75, 76, 77, 78, 79, 80, 81, 82, 83, 84, 85, 86, 87, 88] (fun m g w' => ∃ (k : Nat), k ≤ l.length ∧ m = l.length - k ∧ g 20 = .int .i64 k ∧ Bel w w' ∧ Blk w' b2 35 #[.int .i64 0, .int .i64 0] ∧ typesFault l = firstF (tyFault l) k (l.length - k)) (l.length) ?_ (fun m g4 w3 hI => ?_)
 ·
  exact ⟨0, Nat.zero_le _, rfl, rfl, hB, hb2, hR.out⟩
 obtain ⟨k, hk, hm, h20, hB, hb2, hR'⟩ := hI
 refine c_know 20 (.int .i64 k) h20 nu (c_seq (c_region (wl (r_lss rfl rfl) (x_nil (e_S ?_)))))
 refine c_seq ?_
 refine c_ifd rfl (fun c21 => ?_) (fun c21 => ?_)
 ·
  have hlt : k < l.length := by omega
  obtain ⟨tb, to, A', cp, rfl, htb, htr, hpar⟩ := hT.at_ hB hlt
  refine c_skip (e_S (c_seq (c_block (c_seq (c_region ?_)))))
  refine wmI rfl (wl (r_ia (i := k) U22 sz77 rfl rfl om rfl) (wl (r_ldS U77 rfl rfl htr sz77) ?_))
  refine wl_al (cs := #[.string ⟨#[]⟩, .slice none 0 0]) ze77 rfl (fun b4 w4 hb4 hs hr => ?_)
  have or_b2_b4 : b2 < b4 := nLL hb2.lt hr
  have lo4 := nLT (Bel.size hB) hr
  replace hB := hB.tr0 hs
  replace hb2 := hb2.tr0 hs
  clear hs
  clear hr
  refine waI rfl ?_
  refine wl_stW hb4 rfl rfl sz77 rfl oneA (fun w5 hq hs => ?_)
  replace hB := hB.tr1 hs lo4
  replace hb2 := hb2.tr1 hs om
  clear hs
  replace hb4 := hq
  refine x_nil (e_S (c_seq (c_seq (c_region (wl (r_fa U77 sz9 dE rfl rfl rfl) ?_)))))
  refine wl (r_ld1 (v := .string _) U9 rfl rfl (hb4.cell rfl)) ?_
  refine wl_cl fn63 (rname_any _ _) rfl (fun e' w6 hr => ?_)
  obtain ⟨rfl, hs⟩ := hr
  replace hs := Same.of_bel hs
  replace hB := hB.tr0 hs
  replace hb2 := hb2.tr0 hs
  replace hb4 := hb4.tr0 hs
  clear hs
  refine ⟨_, rfl, ?_⟩
  refine wl (r_not rfl) (x_nil (e_S ?_))
  refine c_if rfl (fun c28 => ?_) (fun c28 => ?_)
  ·
   have hty := ty10 l k hlt (by simpa using c28)
   refine c_seq (c_region (wmI rfl (wl (r_bd2 (v0 := .int _ _) (v1 := .int _ _) (fun v0 v1 => #[v0, v1]) rfl rfl kR) ?_)))
   refine wl_stW hb2 rfl rfl sz35 rfl oneA (fun w7 hq hs => ?_)
   replace hB := hB.tr1 hs lo2
   replace hb4 := hb4.tr1 hs om
   clear hs
   replace hb2 := hq
   refine x_nil (e_S (c_ret (e_Sr (e_Br (e_Sr ?_)))))
   refine e_LSr (e_Br (e_Sr (fin1 (.inl rfl) rfl (rr_cell U35 rfl rfl hb2.range0 sz35) ?_)))
   exact ⟨ret_fl (hR'.trans (firstF_hit (c := 10) om hty dE)), hB⟩
  have hnm : isName (l[k]'hlt).name = true := by simpa using c28
  refine c_skip (e_S (c_seq (c_seq (c_region (wmS rfl ?_)))))
  refine wmI rfl (wl (r_slH (h := k) U22 sz77 rfl rfl om) (wl (r_len U22 rfl) (wmI rfl (x_nil (e_S ?_)))))
  refine c_block ?_
  refine c_loopS [6, 35, 36, 37, 38, 39, 40, 41, 42, 43, 44, 45, 46] (fun m g w' => ∃ (j : Nat), j ≤ k ∧ m = k - j ∧ g 35 = .int .i64 j ∧ Bel w w' ∧ Blk w' b2 35 #[.int .i64 0, .int .i64 0] ∧ Blk w' b4 77 #[.string (l[k]'hlt).name, .slice A' (l[k]'hlt).par.length cp] ∧ seen ((l.take j).map (·.name)) (l[k]'hlt).name = false) (k) ?_ (fun m g9 w8 hI => ?_)
  ·
   exact ⟨0, Nat.zero_le _, rfl, rfl, hB, hb2, hb4, rfl⟩
  obtain ⟨j, hj, hmj, h35, hB, hb2, hb4, hse⟩ := hI
  refine c_know 35 (.int .i64 j) h35 nu (c_seq (c_region (wl (r_lss rfl rfl) (x_nil (e_S ?_)))))
  refine c_seq ?_
  refine c_ifd rfl (fun c36 => ?_) (fun c36 => ?_)
  ·
   have hjt : j < l.length := by omega
   obtain ⟨ub, uo, B', cq, he, hub, hur, _⟩ := hT.at_ hB hjt
   cases he
   refine c_skip (e_S (c_seq (c_block (c_seq (c_region ?_)))))
   refine wl (r_ia (i := j) U22 sz77 rfl rfl om rfl) (wl (r_ldS U77 rfl rfl hur sz77) ?_)
   refine wl_al (cs := #[.string ⟨#[]⟩, .slice none 0 0]) ze77 rfl (fun b6 w9 hb6 hs hr => ?_)
   have or_b2_b6 : b2 < b6 := nLL hb2.lt hr
   have or_b4_b6 : b4 < b6 := nLL hb4.lt hr
   have lo6 := nLT (Bel.size hB) hr
   replace hB := hB.tr0 hs
   replace hb2 := hb2.tr0 hs
   replace hb4 := hb4.tr0 hs
   clear hs
   clear hr
   refine wl_stW hb6 rfl rfl sz77 rfl oneA (fun w10 hq hs => ?_)
   replace hB := hB.tr1 hs lo6
   replace hb2 := hb2.tr1 hs om
   replace hb4 := hb4.tr1 hs om
   clear hs
   replace hb6 := hq
   refine x_nil (e_S (c_seq (c_region (wl (r_fa U77 sz9 dE rfl rfl rfl) (wl (r_ld1 (v := .string _) U9 rfl rfl (hb6.cell rfl)) ?_)))))
   refine wl (r_fa U77 sz9 dE rfl rfl rfl) (wl (r_ld1 (v := .string _) U9 rfl rfl (hb4.cell rfl)) (wl (r_eqlS rfl rfl) (x_nil (e_S ?_))))
   refine c_ifd rfl (fun c43 => ?_) (fun c43 => ?_)
   ·
    have hty := ty7 l k hlt hnm (seen_yes hlt om c43)
    refine c_seq (c_region (wmI rfl (wl (r_bd2 (v0 := .int _ _) (v1 := .int _ _) (fun v0 v1 => #[v0, v1]) rfl rfl kR) ?_)))
    refine wl_stW hb2 rfl rfl sz35 rfl oneA (fun w11 hq hs => ?_)
    replace hB := hB.tr1 hs lo2
    replace hb4 := hb4.tr1 hs om
    replace hb6 := hb6.tr1 hs om
    clear hs
    replace hb2 := hq
    refine x_nil (e_S (c_ret (e_Br (e_Sr (e_LSr ?_)))))
    refine e_Br (e_Sr (e_Br (e_Sr (e_LSr (e_Br ?_)))))
    refine e_Sr (fin1 (.inl rfl) rfl (rr_cell U35 rfl rfl hb2.range0 sz35) ?_)
    exact ⟨ret_fl (hR'.trans (firstF_hit (c := 7) om hty dE)), hB⟩
   have hse' : seen ((l.take (j + 1)).map (·.name)) (l[k]'hlt).name = false := by rw [take_snoc l hjt, List.map_append, List.map_cons, List.map_nil, seen_snoc, hse]; simp [c43]
   refine c_skip (e_B (e_S (c_region (wl (r_add rfl rfl rfl om) (wmI rfl ?_)))))
   refine x_nil (e_LS (k - (j + 1)) om agA ?_)
   exact ⟨j + 1, by omega, rfl, rfl, hB, hb2, hb4, hse'⟩
  have hsn : seen ((l.take k).map (·.name)) (l[k]'hlt).name = false := by
    have e : k = j := by omega
    subst e; exact hse
  refine c_exit (e_Sx (e_LSx (e_Bx (e_S (c_seq ?_)))))
  refine c_seq (c_region (wmI rfl (wl (r_eql rfl rfl) (wl (r_fa U77 sz43 dE rfl rfl rfl) (wl (r_ld1 (v := .slice _ _ _) U43 rfl rfl (hb4.cell rfl)) ?_)))))
  refine wl (r_len U43 rfl) (wl (r_eql rfl rfl) (wl (r_neqB U4 rfl rfl) (x_nil (e_S ?_))))
  refine c_if rfl (fun c53 => ?_) (fun c53 => ?_)
  ·
   have hty := ty5 l k hlt hnm hsn (mal_yes c53)
   refine c_seq (c_region (wmI rfl (wl (r_bd2 (v0 := .int _ _) (v1 := .int _ _) (fun v0 v1 => #[v0, v1]) rfl rfl kR) ?_)))
   refine wl_stW hb2 rfl rfl sz35 rfl oneA (fun w12 hq hs => ?_)
   replace hB := hB.tr1 hs lo2
   replace hb4 := hb4.tr1 hs om
   clear hs
   replace hb2 := hq
   refine x_nil (e_S (c_ret (e_Sr (e_Br (e_Sr ?_)))))
   refine e_LSr (e_Br (e_Sr (fin1 (.inl rfl) rfl (rr_cell U35 rfl rfl hb2.range0 sz35) ?_)))
   exact ⟨ret_fl (hR'.trans (firstF_hit (c := 5) om hty dE)), hB⟩
  have hmal := mal_no c53
  refine c_skip (e_S (c_seq (c_region (wl (r_fa U77 sz43 dE rfl rfl rfl) (wl (r_ld1 (v := .slice _ _ _) U43 rfl rfl (hb4.cell rfl)) ?_)))))
  refine wl (r_len U43 rfl) (wmI rfl (x_nil (e_S (c_block ?_))))
  refine c_loopS [7, 8, 59, 60, 61, 62, 63, 64, 65, 66, 67, 68, 69, 70, 71, 72, 73, 74, 75, 76, 77, 78, 79, 80, 81, 82, 83, 84, 85, 86, 87] (fun m g w' => ∃ (j : Nat) (last : Int), j ≤ (l[k]'hlt).par.length ∧ m = (l[k]'hlt).par.length - j ∧ g 59 = .int .i64 j ∧ w8 = w' ∧ (j = 0 → last = -1) ∧ (∀ h : 0 < j ∧ j - 1 < (l[k]'hlt).par.length, last = ((l[k]'hlt).par[j - 1]'h.2)) ∧ tyFault l k = parFault k last ((l[k]'hlt).par.drop j)) ((l[k]'hlt).par.length) ?_ (fun m g17 w13 hI => ?_)
  ·
   exact ⟨0, -1, Nat.zero_le _, rfl, rfl, rfl, fun _ => rfl, fun h => by omega, tyF_par l k hlt hnm hsn hmal⟩
  obtain ⟨j, last, hj, hmj, h59, rfl, hl0, hl1, hP⟩ := hI
  refine c_know 59 (.int .i64 j) h59 nu (c_seq (c_region (wl (r_lss rfl rfl) (x_nil (e_S ?_)))))
  refine c_seq ?_
  refine c_ifd rfl (fun c60 => ?_) (fun c60 => ?_)
  ·
   have hlj : j < (l[k]'hlt).par.length := by omega
   have hmx := hpar.1
   unfold maxI at hmx
   have hpar' := hpar
   obtain ⟨pb, po, rfl, hpb, hpc⟩ := hpar.at_ hlj
   replace hpc := hB.cell hpb hpc
   have hpd : ∀ h : j - 1 < (l[k]'hlt).par.length, w8.cell? ⟨pb, po + (j - 1) * 1, none⟩ = some (.int .i64 ((l[k]'hlt).par[j - 1]'h)) := fun h => by
     obtain ⟨pb2, po2, he, hpb2, hpc2⟩ := hpar'.at_ h
     cases he
     exact hB.cell hpb2 hpc2
   refine c_skip (e_S (c_seq (c_block (c_seq (c_region ?_)))))
   refine wmI rfl (wl (r_ia (i := j) U43 sz3 rfl rfl om rfl) (wl (r_ld1 (v := .int _ _) U3 rfl rfl hpc) (waI rfl (waI rfl (x_nil ?_)))))
   refine e_S (c_seq (c_seq ?_))
   refine c_cut1 [64, 65, 66, 67, 68, 69, 70] 70 (.bool (decide ((l[k]'hlt).par[j] < 0 ∨ (k : Int) ≤ (l[k]'hlt).par[j]))) nu ?_ (fun gq => ?_)
   ·
    refine c_region (wmI rfl (wl (r_lss rfl rfl) (wmB rfl ?_)))
    refine wl_casesd 66 rfl (fun g66 => ?_) (fun g66 => ?_)
    ·
     refine wlgn 66 rfl rfl rfl (wlgn 66 rfl rfl rfl (wlgn 66 rfl rfl rfl (wl (r_pt (v := .bool _) rfl rfl) ?_)))
     refine x_nil (e_R ⟨rfl, agA, ?_⟩)
     exact clA
    refine wl_gd 66 rfl rfl (wmI rfl (wl_gd 66 rfl rfl (wmI rfl (wl_gd 66 rfl rfl (wl (r_geq rfl rfl) ?_)))))
    refine wl (r_pf (v := .bool _) rfl rfl) ?_
    refine x_nil (e_R ⟨rfl, agA, ?_⟩)
    exact clA
   refine e_S ?_
   refine c_ifd rfl (fun c70 => ?_) (fun c70 => ?_)
   ·
    have hty : tyFault l k = 3 := by rw [hP, List.drop_eq_getElem_cons hlj]; simp only [parFault, if_pos c70]
    refine c_seq (c_region (wmI rfl (wl (r_bd2 (v0 := .int _ _) (v1 := .int _ _) (fun v0 v1 => #[v0, v1]) rfl rfl kR) ?_)))
    refine wl_stW hb2 rfl rfl sz35 rfl oneA (fun w14 hq hs => ?_)
    replace hB := hB.tr1 hs lo2
    replace hb4 := hb4.tr1 hs om
    clear hs
    replace hb2 := hq
    refine x_nil (e_S (c_ret (e_Sr (e_Br (e_Sr ?_)))))
    refine e_LSr (e_Br (e_Br (e_Sr (e_LSr (e_Br ?_)))))
    refine e_Sr (fin1 (.inl rfl) rfl (rr_cell U35 rfl rfl hb2.range0 sz35) ?_)
    exact ⟨ret_fl (hR'.trans (firstF_hit (c := 3) om hty dE)), hB⟩
   refine c_skip (e_S (c_seq ?_))
   refine c_cut1 [73, 74, 75, 76, 77, 78, 79, 80, 81, 82, 83, 84] 84 (.bool (decide (0 < j ∧ (l[k]'hlt).par[j] ≤ ((l[k]'hlt).par[j - 1]'om)))) nu ?_ (fun gq => ?_)
   ·
    refine c_region (wmI rfl (wl (r_gtr rfl rfl) (wmB rfl ?_)))
    refine wl_casesd 75 rfl (fun g75 => ?_) (fun g75 => ?_)
    ·
     refine wl_gd 75 rfl rfl (wmI rfl (wl_gd 75 rfl rfl (wl (r_fa U77 sz43 dE rfl rfl rfl) (wl_gd 75 rfl rfl (wl (r_ld1 (v := .slice _ _ _) U43 rfl rfl (hb4.cell rfl)) ?_)))))
     refine wl_gd 75 rfl rfl (wmI rfl (wl_gd 75 rfl rfl (wl (r_sub (c := ((j - 1 : Nat) : Int)) rfl rfl om om) (wl_gd 75 rfl rfl (wl (r_ia (i := j - 1) U43 sz3 rfl rfl om rfl) ?_)))))
     refine wl_gd 75 rfl rfl (wl (r_ld1 (v := .int _ _) U3 rfl rfl (hpd om)) (wl_gd 75 rfl rfl (wl (r_leq rfl rfl) (wl (r_pt (v := .bool _) rfl rfl) ?_))))
     refine x_nil (e_R ⟨rfl, agA, ?_⟩)
     exact clA
    refine wlgn 75 rfl rfl rfl (wlgn 75 rfl rfl rfl (wlgn 75 rfl rfl rfl (wlgn 75 rfl rfl rfl (wlgn 75 rfl rfl rfl (wlgn 75 rfl rfl rfl ?_)))))
    refine wlgn 75 rfl rfl rfl (wlgn 75 rfl rfl rfl (wl (r_pf (v := .bool _) rfl rfl) ?_))
    refine x_nil (e_R ⟨rfl, agA, ?_⟩)
    exact clA
   refine e_S ?_
   refine c_ifd rfl (fun c84 => ?_) (fun c84 => ?_)
   ·
    have hty : tyFault l k = 13 := by rw [hP, List.drop_eq_getElem_cons hlj, hl1 ⟨c84.1, by omega⟩]; simp only [parFault, if_neg c70, if_pos c84.2]
    refine c_seq (c_region (wmI rfl (wl (r_bd2 (v0 := .int _ _) (v1 := .int _ _) (fun v0 v1 => #[v0, v1]) rfl rfl kR) ?_)))
    refine wl_stW hb2 rfl rfl sz35 rfl oneA (fun w15 hq hs => ?_)
    replace hB := hB.tr1 hs lo2
    replace hb4 := hb4.tr1 hs om
    clear hs
    replace hb2 := hq
    refine x_nil (e_S (c_ret (e_Br (e_Sr (e_LSr ?_)))))
    refine e_Br (e_Br (e_Sr (e_LSr (e_Br (e_Sr ?_)))))
    refine fin1 (.inl rfl) rfl (rr_cell U35 rfl rfl hb2.range0 sz35) ?_
    exact ⟨ret_fl (hR'.trans (firstF_hit (c := 13) om hty dE)), hB⟩
   have hP' : tyFault l k = parFault k (l[k]'hlt).par[j] ((l[k]'hlt).par.drop (j + 1)) := by
     have hnl : ¬ (l[k]'hlt).par[j] ≤ last := fun h => by
       by_cases e : j = 0
       · have := hl0 e; omega
       · have := hl1 ⟨by omega, by omega⟩; exact c84 ⟨by omega, by omega⟩
     rw [hP, List.drop_eq_getElem_cons hlj]; simp only [parFault, if_neg c70, if_neg hnl]
   refine c_skip (e_B (e_S (c_region (wl (r_add rfl rfl rfl om) (wmI rfl ?_)))))
   refine x_nil (e_LS ((l[k]'hlt).par.length - (j + 1)) om agA ?_)
   exact ⟨j + 1, (l[k]'hlt).par[j], by omega, rfl, rfl, rfl, fun h => by omega, fun h => rfl, hP'⟩
  have hty := Lib.hid (show tyFault l k = 0 by rw [hP, List.drop_eq_nil_of_le om]; rfl)
  refine c_exit (e_Sx (e_LSx (e_Bx (e_B (e_S ?_)))))
  refine c_region (wl (r_add rfl rfl rfl om) (wmI rfl (x_nil (e_LS (l.length - (k + 1)) om agA ?_))))
  exact ⟨k + 1, by omega, rfl, rfl, hB, hb2, hR'.trans (firstF_miss hlt hty.out)⟩
 refine c_exit (e_Sx (e_LSx (e_Bx (e_S (c_seq ?_)))))
 refine c_region (wl (r_bd (vs := #[]) (cs := #[.int .i64 0, .int .i64 0]) (by simp) kR) ?_)
 refine wl_stW hb2 rfl rfl sz35 rfl oneA (fun w16 hq hs => ?_)
 replace hB := hB.tr1 hs lo2
 clear hs
 replace hb2 := hq
 refine x_nil (e_S (c_ret (fin1 (.inl rfl) rfl (rr_cell U35 rfl rfl hb2.range0 sz35) ?_)))
 exact ⟨ret_fl (hR'.trans (firstF_end om)), hB⟩
end Go.Proofs.YtegngekpmpdngaaDoor
