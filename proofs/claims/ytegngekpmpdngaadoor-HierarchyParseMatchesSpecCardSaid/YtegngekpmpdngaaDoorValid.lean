/- What these functions of the program compute, at every world: glosswright/hierarchy.Validate. -/
import Derived.Test.YtegngekpmpdngaaDoorU
import Derived.Test.YtegngekpmpdngaaDoorTables
namespace Go.Proofs.YtegngekpmpdngaaDoor
open Go.RowKit
theorem parFault_ok {i : Int} : ∀ {ps : List Int} {last : Int}, parFault i last ps = 0 → ∀ p ∈ ps, 0 ≤ p ∧ p < i
  | [], _, _, p, hp => by cases hp
  | q :: ps, last, h, p, hp => by
    unfold parFault at h
    by_cases h1 : q < 0 ∨ i ≤ q
    · rw [if_pos h1] at h; cases h
    rw [if_neg h1] at h
    by_cases h2 : q ≤ last
    · rw [if_pos h2] at h; cases h
    rw [if_neg h2] at h
    rcases List.mem_cons.1 hp with rfl | hp
    · omega
    · exact parFault_ok h p hp
theorem tyFault_ok {l : List Ty} {k : Nat} (hk : k < l.length) (h : tyFault l k = 0) : isName (l[k]).name = true ∧ seen ((l.take k).map (·.name)) (l[k]).name = false ∧ (decide (k = 0) == (l[k]).par.isEmpty) = true ∧ parFault k (-1) (l[k]).par = 0 := by
  cases h1 : isName (l[k]).name with
  | false => rw [ty10 l k hk h1] at h; cases h
  | true =>
    cases h2 : seen ((l.take k).map (·.name)) (l[k]).name with
    | true => rw [ty7 l k hk h1 h2] at h; cases h
    | false =>
      cases h3 : (decide (k = 0) == (l[k]).par.isEmpty) with
      | false => rw [ty5 l k hk h1 h2 h3] at h; cases h
      | true =>
        rw [tyF_par l k hk h1 h2 h3, List.drop_zero] at h
        exact ⟨rfl, rfl, rfl, h⟩
theorem firstF_zero {f : Nat → Int} : ∀ {m i : Nat}, (firstF f i m).1 = 0 → ∀ j, i ≤ j → j < i + m → f j = 0
  | 0, i, _, j, h1, h2 => by omega
  | m + 1, i, h, j, h1, h2 => by
    unfold firstF at h
    by_cases h3 : f i ≠ 0
    · rw [if_pos h3] at h; exact absurd h h3
    rw [if_neg h3] at h
    by_cases e : j = i
    · subst e; exact Decidable.not_not.1 h3
    · exact firstF_zero h j om om
theorem types_len {l : List Ty} (h : (typesFault l).1 = 0) : ¬ (l.length = 0 ∨ 60 < l.length) := by
  intro hb
  simp only [typesFault, if_pos hb] at h
  cases h
theorem types_ok {l : List Ty} (h : (typesFault l).1 = 0) {k : Nat} (hk : k < l.length) : tyFault l k = 0 := by
  have hb := types_len h
  simp only [typesFault, if_neg hb] at h
  exact firstF_zero h k (Nat.zero_le _) om
theorem vt_of {l : List Ty} (h : (typesFault l).1 = 0) : VT l := fun _ hi p hp => parFault_ok (tyFault_ok hi (types_ok h hi)).2.2.2 p hp
def unmF (l : List Ty) (b : Nat) : Int := if (List.range b).any (fun a => (meet l a b).2.2) then 16 else 0
theorem unmF_yes {l : List Ty} {a b : Nat} (h : a < b) (hm : (meet l a b).2.2 = true) : unmF l b = 16 := by
  unfold unmF
  rw [if_pos (List.any_eq_true.2 ⟨a, List.mem_range.2 h, hm⟩)]
theorem unmF_no {l : List Ty} {b : Nat} (h : ∀ a, a < b → (meet l a b).2.2 = false) : unmF l b = 0 := by
  unfold unmF
  rw [if_neg]
  intro hc
  obtain ⟨a, ha, hm⟩ := List.any_eq_true.1 hc
  rw [h a (List.mem_range.1 ha)] at hm; cases hm
def ftBad (n : Nat) (t : Ft) : Prop := t.of < 0 ∨ (n : Int) ≤ t.of ∨ t.val < 0 ∨ (n : Int) ≤ t.val
instance (n : Nat) (t : Ft) : Decidable (ftBad n t) := by unfold ftBad; infer_instance
def ftFault (n : Nat) (fs : List Ft) (i : Nat) : Int := match fs[i]? with
  | none => 0
  | some t => if isName t.name = false then 10 else if seen ((fs.take i).map (·.name)) t.name = true then 7 else if ftBad n t then 3 else 0
theorem ft10 (n : Nat) (l : List Ft) (k : Nat) (hlt : k < l.length) (h1 : isName l[k].name = false) : ftFault n l k = 10 := by
  simp only [ftFault, List.getElem?_eq_getElem hlt, h1, if_true]
theorem ft7 (n : Nat) (l : List Ft) (k : Nat) (hlt : k < l.length) (h1 : isName l[k].name = true) (h2 : seen ((l.take k).map (·.name)) l[k].name = true) : ftFault n l k = 7 := by
  simp only [ftFault, List.getElem?_eq_getElem hlt, h1, h2, if_true]; rfl
theorem ft3 (n : Nat) (l : List Ft) (k : Nat) (hlt : k < l.length) (h1 : isName l[k].name = true) (h2 : seen ((l.take k).map (·.name)) l[k].name = false) (h3 : ftBad n l[k]) : ftFault n l k = 3 := by
  simp only [ftFault, List.getElem?_eq_getElem hlt, h1, h2, if_pos h3]; rfl
theorem ft0 (n : Nat) (l : List Ft) (k : Nat) (hlt : k < l.length) (h1 : isName l[k].name = true) (h2 : seen ((l.take k).map (·.name)) l[k].name = false) (h3 : ¬ ftBad n l[k]) : ftFault n l k = 0 := by
  simp only [ftFault, List.getElem?_eq_getElem hlt, h1, h2, if_neg h3]; rfl
def unmetF (l : List Ty) : Fl := firstF (unmF l) 0 l.length
def hierFault (l : List Ty) (fs : List Ft) : Fl :=
  if 40 < fs.length then (2, -1)
  else if (typesFault l).1 ≠ 0 then typesFault l
  else if (unmetF l).1 ≠ 0 then unmetF l
  else firstF (ftFault l.length fs) 0 fs.length
theorem hf_size {l : List Ty} {fs : List Ft} (h : l.length = 0 ∨ 60 < l.length ∨ 40 < fs.length) : hierFault l fs = (2, -1) := by
  unfold hierFault
  by_cases h4 : 40 < fs.length
  · rw [if_pos h4]
  · have hb : l.length = 0 ∨ 60 < l.length := by omega
    have ht : typesFault l = (2, -1) := by simp only [typesFault, if_pos hb]
    rw [if_neg h4, ht]; rfl
theorem hf_types {l : List Ty} {fs : List Ft} (h : ¬ 40 < fs.length) (ht : (typesFault l).1 ≠ 0) : hierFault l fs = ((typesFault l).1, (typesFault l).2) := by
  unfold hierFault; rw [if_neg h, if_pos ht]
theorem hf_unmet {l : List Ty} {fs : List Ft} (h : ¬ 40 < fs.length) (ht : (typesFault l).1 = 0) {k : Int} (hu : unmetF l = (16, k)) : hierFault l fs = (16, k) := by
  unfold hierFault; rw [if_neg h, if_neg (by rw [ht]; exact fun h => h rfl), hu]; rfl
theorem hf_rest {l : List Ty} {fs : List Ft} (h : ¬ 40 < fs.length) (ht : (typesFault l).1 = 0) (hu : unmetF l = (0, 0)) : hierFault l fs = firstF (ftFault l.length fs) 0 (fs.length - 0) := by
  unfold hierFault; rw [if_neg h, if_neg (by rw [ht]; exact fun h => h rfl), hu]; rfl
theorem fn41_Valid : callable Tryd.prog 41 = true := by kernel_rfl
theorem fn48 : callable Tryd.prog 48 = true := by kernel_rfl
theorem fn79 : callable Tryd.prog 79 = true := by kernel_rfl
theorem fn80 : callable Tryd.prog 80 = true := by kernel_rfl
theorem fn81_Valid : callable Tryd.prog 81 = true := by kernel_rfl
theorem sz22 : (Tryd.prog.info? 22).map (·.size) = some 1 := by kernel_rfl
theorem sz23 : (Tryd.prog.info? 23).map (·.size) = some 1 := by kernel_rfl
theorem sz35_Valid : (Tryd.prog.info? 35).map (·.size) = some 2 := by kernel_rfl
theorem sz63 : (Tryd.prog.info? 63).map (·.size) = some 3 := by kernel_rfl
theorem sz9_Valid : (Tryd.prog.info? 9).map (·.size) = some 1 := by kernel_rfl
theorem ze3_Valid : (Tryd.prog.info? 3).map (·.zero) = some (some (.int .i64 0)) := by kernel_rfl
theorem ze35_Valid : (Tryd.prog.info? 35).map (·.zero) = some (some (.agg #[.int .i64 0, .int .i64 0])) := by kernel_rfl
theorem ze63 : (Tryd.prog.info? 63).map (·.zero) = some (some (.agg #[.string ⟨#[]⟩, .int .i64 0, .int .i64 0])) := by kernel_rfl
theorem validate_any (A B : Option Addr) (c d : Nat) (l : List Ty) (fs : List Ft) (w : World) (hTab : TabIn w) (hT : TypesIn w A l) (hF : FeatsIn w B fs) : Calls Tryd.prog 44 #[.agg #[.slice A l.length c, .slice B fs.length d]] w fun e w' => e = .returned (flV (hierFault l fs)) ∧ Bel w w' := by
 refine enter Tryd.func44 Tryd.ntmps44 rfl (Nat.le_of_ble_eq_true rfl) ?_
 have hB : Bel w w := Below.refl _ _
 refine c_seq (c_region ?_)
 refine wl_bx (v := .agg #[_, _]) (cs := #[_, _]) rfl rfl (fun b1 w1 hb1 hs hr => ?_)
 have lo1 := nLT (Bel.size hB) hr
 replace hB := hB.tr0 hs
 clear hs
 clear hr
 refine wl_al (cs := #[.int .i64 0, .int .i64 0]) ze35_Valid rfl (fun b2 w2 hb2 hs hr => ?_)
 have or_b1_b2 : b1 < b2 := nLL hb1.lt hr
 have lo2 := nLT (Bel.size hB) hr
 replace hB := hB.tr0 hs
 replace hb1 := hb1.tr0 hs
 clear hs
 clear hr
 refine x_nil (e_S (c_seq (c_seq ?_)))
 refine c_cut1 [15, 16, 17, 18, 19, 20, 21, 22, 23, 24, 25, 26, 27, 28, 29, 30] 30 (.bool (decide (l.length = 0 ∨ 60 < l.length ∨ 40 < fs.length))) nu ?_ (fun gq => ?_)
 ·
  refine c_region (wl (r_fa U25 sz22 dE rfl rfl rfl) (wl (r_ld1 (v := .slice _ _ _) U22 rfl rfl (hb1.cell rfl)) (wl (r_len U22 rfl) (wl (r_eql rfl rfl) (wmB rfl ?_)))))
  refine wl_casesd 19 rfl (fun g19 => ?_) (fun g19 => ?_)
  ·
   refine wlgn 19 rfl rfl rfl (wlgn 19 rfl rfl rfl (wlgn 19 rfl rfl rfl (wlgn 19 rfl rfl rfl (wl (r_pt (v := .bool _) rfl rfl) (wmB rfl ?_)))))
   refine wlgn 25 rfl rfl rfl (wlgn 25 rfl rfl rfl (wlgn 25 rfl rfl rfl (wlgn 25 rfl rfl rfl (wl (r_pt (v := .bool _) rfl rfl) ?_))))
   refine x_nil (e_R ⟨rfl, agA, ?_⟩)
   exact clA
  refine wl_gd 19 rfl rfl (wl (r_fa U25 sz22 dE rfl rfl rfl) (wl_gd 19 rfl rfl (wl (r_ld1 (v := .slice _ _ _) U22 rfl rfl (hb1.cell rfl)) (wl_gd 19 rfl rfl (wl (r_len U22 rfl) ?_)))))
  refine wl_gd 19 rfl rfl (wl (r_gtr rfl rfl) (wl (r_pf (v := .bool _) rfl rfl) (wmB rfl ?_)))
  refine wl_casesd 25 rfl (fun g25 => ?_) (fun g25 => ?_)
  ·
   refine wlgn 25 rfl rfl rfl (wlgn 25 rfl rfl rfl (wlgn 25 rfl rfl rfl (wlgn 25 rfl rfl rfl (wl (r_pt (v := .bool _) rfl rfl) ?_))))
   refine x_nil (e_R ⟨rfl, agA, ?_⟩)
   exact clA
  refine wl_gd 25 rfl rfl (wl (r_fa U25 sz23 dE rfl rfl rfl) (wl_gd 25 rfl rfl (wl (r_ld1 (v := .slice _ _ _) U23 rfl rfl (hb1.cell rfl)) (wl_gd 25 rfl rfl (wl (r_len U23 rfl) ?_)))))
  refine wl_gd 25 rfl rfl (wl (r_gtr rfl rfl) (wl (r_pf (v := .bool _) rfl rfl) ?_))
  refine x_nil (e_R ⟨rfl, agA, ?_⟩)
  exact clA
 refine e_S ?_
 refine c_ifd rfl (fun c30 => ?_) (fun c30 => ?_)
 ·
  refine c_seq (c_region ?_)
  refine wl_cl fn41_Valid (fault_any _ _ _) rfl (fun e' w3 hr => ?_)
  obtain ⟨rfl, hs⟩ := hr
  replace hs := Same.of_bel hs
  replace hB := hB.tr0 hs
  replace hb1 := hb1.tr0 hs
  replace hb2 := hb2.tr0 hs
  clear hs
  refine ⟨_, rfl, ?_⟩
  refine wl_stW hb2 rfl rfl sz35_Valid rfl oneA (fun w4 hq hs => ?_)
  replace hB := hB.tr1 hs lo2
  replace hb1 := hb1.tr1 hs om
  clear hs
  replace hb2 := hq
  refine x_nil (e_S (c_ret (e_Sr (fin1 (.inl rfl) rfl (rr_cell U35 rfl rfl hb2.range0 sz35_Valid) ?_))))
  exact ⟨ret_fl (hf_size c30), hB⟩
 refine c_skip (e_S (c_seq (c_seq (c_region (wl (r_fa U25 sz22 dE rfl rfl rfl) ?_)))))
 refine wl (r_ld1 (v := .slice _ _ _) U22 rfl rfl (hb1.cell rfl)) ?_
 refine wl_cl fn79 (types_any _ _ _ _ (hT.mono hB)) rfl (fun e' w5 hr => ?_)
 obtain ⟨rfl, hs⟩ := hr
 replace hs := Same.of_bel hs
 replace hB := hB.tr0 hs
 replace hb1 := hb1.tr0 hs
 replace hb2 := hb2.tr0 hs
 clear hs
 refine ⟨_, rfl, ?_⟩
 refine wl_al (cs := #[.int .i64 0, .int .i64 0]) ze35_Valid rfl (fun b3 w6 hb3 hs hr => ?_)
 have or_b1_b3 : b1 < b3 := nLL hb1.lt hr
 have or_b2_b3 : b2 < b3 := nLL hb2.lt hr
 have lo3 := nLT (Bel.size hB) hr
 replace hB := hB.tr0 hs
 replace hb1 := hb1.tr0 hs
 replace hb2 := hb2.tr0 hs
 clear hs
 clear hr
 refine wl_stW hb3 rfl rfl sz35_Valid rfl oneA (fun w7 hq hs => ?_)
 replace hB := hB.tr1 hs lo3
 replace hb1 := hb1.tr1 hs om
 replace hb2 := hb2.tr1 hs om
 clear hs
 replace hb3 := hq
 refine x_nil (e_S (c_seq (c_region (wl (r_fa U35 sz3_Tables dE rfl rfl rfl) (wl (r_ld1 (v := .int _ _) U3 rfl rfl (hb3.cell rfl)) ?_)))))
 refine wl (r_neq rfl rfl) (x_nil (e_S ?_))
 refine c_ifd rfl (fun c37 => ?_) (fun c37 => ?_)
 ·
  refine c_seq (c_region (wl (r_ldS U35 rfl rfl hb3.range0 sz35_Valid) ?_))
  refine wl_stW hb2 rfl rfl sz35_Valid rfl oneA (fun w8 hq hs => ?_)
  replace hB := hB.tr1 hs lo2
  replace hb1 := hb1.tr1 hs om
  replace hb3 := hb3.tr1 hs om
  clear hs
  replace hb2 := hq
  refine x_nil (e_S (c_ret (e_Sr (fin1 (.inl rfl) rfl (rr_cell U35 rfl rfl hb2.range0 sz35_Valid) ?_))))
  exact ⟨ret_fl (hf_types om om), hB⟩
 have ht0 : (typesFault l).1 = 0 := by omega
 have hv := vt_of ht0
 refine c_skip (e_S (c_seq (c_region (wl (r_fa U25 sz22 dE rfl rfl rfl) (wl (r_ld1 (v := .slice _ _ _) U22 rfl rfl (hb1.cell rfl)) ?_)))))
 refine wl_cl fn48 (tables_any _ _ _ _ (hT.mono hB) hv om) rfl (fun e' w9 hr => ?_)
 obtain ⟨bu, bd, rfl, ⟨hbu, hbd⟩, hs⟩ := hr
 replace hs := Same.of_bel hs
 replace hB := hB.tr0 hs
 replace hb1 := hb1.tr0 hs
 replace hb2 := hb2.tr0 hs
 replace hb3 := hb3.tr0 hs
 clear hs
 have h2u : b2 ≠ bu := fun h => absurd (blk_type (h ▸ hb2) hbu) dE
 have h2d : b2 ≠ bd := fun h => absurd (blk_type (h ▸ hb2) hbd) dE
 refine ⟨_, rfl, ?_⟩
 refine wl_al (cs := #[.slice none 0 0, .slice none 0 0]) ze92 rfl (fun b4 w10 hb4 hs hr => ?_)
 have or_b1_b4 : b1 < b4 := nLL hb1.lt hr
 have or_b2_b4 : b2 < b4 := nLL hb2.lt hr
 have or_b3_b4 : b3 < b4 := nLL hb3.lt hr
 have or_bu_b4 : bu < b4 := nLL hbu.lt hr
 have or_bd_b4 : bd < b4 := nLL hbd.lt hr
 have lo4 := nLT (Bel.size hB) hr
 replace hB := hB.tr0 hs
 replace hb1 := hb1.tr0 hs
 replace hb2 := hb2.tr0 hs
 replace hb3 := hb3.tr0 hs
 replace hbu := hbu.tr0 hs
 replace hbd := hbd.tr0 hs
 clear hs
 clear hr
 refine wl_stW hb4 rfl rfl sz92 rfl oneA (fun w11 hq hs => ?_)
 replace hB := hB.tr1 hs lo4
 replace hb1 := hb1.tr1 hs om
 replace hb2 := hb2.tr1 hs om
 replace hb3 := hb3.tr1 hs om
 replace hbu := hbu.tr1 hs om
 replace hbd := hbd.tr1 hs om
 clear hs
 replace hb4 := hq
 refine x_nil (e_S (c_seq (c_seq (c_region (wl (r_fa U25 sz22 dE rfl rfl rfl) ?_)))))
 refine wl (r_ld1 (v := .slice _ _ _) U22 rfl rfl (hb1.cell rfl)) (wl (r_len U22 rfl) (wmI rfl (x_nil (e_S (c_block ?_)))))
 refine c_loopS [5, 6, 7, 8, 9, 45, 46, 47, 48, 49, 50, 51, 52, 53, 54, 55, 56, 57, 58, 59, 60, 61, 62, 63, 64] (fun m g w' => ∃ (k : Nat), k ≤ l.length ∧ m = l.length - k ∧ g 45 = .int .i64 k ∧ Bel w w' ∧ Blk w' b1 25 #[.slice A l.length c, .slice B fs.length d] ∧ Blk w' b2 35 #[.int .i64 0, .int .i64 0] ∧ Blk w' b4 92 #[.slice (some ⟨bu, 0, none⟩) l.length l.length, .slice (some ⟨bd, 0, none⟩) l.length l.length] ∧ Blk w' bu 122 (rU l.length (upN l)) ∧ Blk w' bd 122 (rU l.length (downN l)) ∧ unmetF l = firstF (unmF l) k (l.length - k)) (l.length) ?_ (fun m g8 w12 hI => ?_)
 ·
  exact ⟨0, Nat.zero_le _, rfl, rfl, hB, hb1, hb2, hb4, hbu, hbd, rfl⟩
 obtain ⟨k, hk, hm, h45, hB, hb1, hb2, hb4, hbu, hbd, hU⟩ := hI
 refine c_know 45 (.int .i64 k) h45 nu (c_seq (c_region (wl (r_lss rfl rfl) (x_nil (e_S ?_)))))
 refine c_seq ?_
 refine c_ifd rfl (fun c46 => ?_) (fun c46 => ?_)
 ·
  have hlt : k < l.length := by omega
  refine c_skip (e_S (c_seq (c_block (c_seq (c_region ?_)))))
  refine wmI rfl (waI rfl (x_nil (e_S (c_seq (c_region ?_)))))
  refine wmI rfl (wmI rfl (x_nil (e_S (c_block ?_))))
  refine c_loopS [6, 7, 8, 9, 49, 50, 51, 52, 53, 54, 55, 56, 57, 58, 59, 60, 61, 62, 63] (fun m g w' => ∃ (a : Nat), a ≤ k ∧ m = k - a ∧ g 49 = .int .i64 a ∧ Bel w w' ∧ Blk w' b1 25 #[.slice A l.length c, .slice B fs.length d] ∧ Blk w' b2 35 #[.int .i64 0, .int .i64 0] ∧ Blk w' b4 92 #[.slice (some ⟨bu, 0, none⟩) l.length l.length, .slice (some ⟨bd, 0, none⟩) l.length l.length] ∧ Blk w' bu 122 (rU l.length (upN l)) ∧ Blk w' bd 122 (rU l.length (downN l)) ∧ (∀ j, j < a → (meet l j k).2.2 = false)) (k) ?_ (fun m g11 w13 hI => ?_)
  ·
   exact ⟨0, Nat.zero_le _, rfl, rfl, hB, hb1, hb2, hb4, hbu, hbd, fun j hj => by omega⟩
  obtain ⟨a, ha, hma, h49, hB, hb1, hb2, hb4, hbu, hbd, hM⟩ := hI
  refine c_know 49 (.int .i64 a) h49 nu (c_seq (c_region (wl (r_lss rfl rfl) (x_nil (e_S ?_)))))
  refine c_seq ?_
  refine c_ifd rfl (fun c50 => ?_) (fun c50 => ?_)
  ·
   refine c_skip (e_S (c_seq (c_block (c_seq (c_region ?_)))))
   refine wmI rfl (waI rfl (x_nil (e_S (c_seq (c_region ?_)))))
   refine wl (r_ldS U92 rfl rfl hb4.range0 sz92) (wmI rfl (wmI rfl ?_))
   refine wl_cl fn80 (meet_any l bu bd a k _ (hTab.mono hB) ⟨hbu, hbd⟩ hv om om hlt) rfl (fun e' w14 hr => ?_)
   obtain ⟨rfl, hs⟩ := hr
   replace hs := Same.of_bel hs
   replace hB := hB.tr0 hs
   replace hb1 := hb1.tr0 hs
   replace hb2 := hb2.tr0 hs
   replace hbu := hbu.tr0 hs
   replace hbd := hbd.tr0 hs
   replace hb4 := hb4.tr0 hs
   clear hs
   refine ⟨_, rfl, ?_⟩
   refine wmT rfl (wl (r_ex (v := .int _ _) rfl rfl) (wl (r_ex (v := .bool _) rfl rfl) (wl (r_ex (v := .bool _) rfl rfl) (waI rfl (waB rfl ?_)))))
   refine waB rfl (x_nil (e_S (c_seq (c_region (wmB rfl ?_)))))
   refine x_nil (e_S ?_)
   refine c_if rfl (fun c60 => ?_) (fun c60 => ?_)
   ·
    have hun := unmF_yes (show a < k by omega) c60
    have hfin := hf_unmet (fs := fs) om ht0 (hU.trans (firstF_hit om hun dE))
    refine c_seq (c_region (wmI rfl ?_))
    refine wl_cl fn41_Valid (fault_any _ _ _) rfl (fun e' w15 hr => ?_)
    obtain ⟨rfl, hs⟩ := hr
    replace hs := Same.of_bel hs
    replace hB := hB.tr0 hs
    replace hb1 := hb1.tr0 hs
    replace hb2 := hb2.tr0 hs
    replace hbu := hbu.tr0 hs
    replace hbd := hbd.tr0 hs
    replace hb4 := hb4.tr0 hs
    clear hs
    refine ⟨_, rfl, ?_⟩
    refine wl_stW hb2 rfl rfl sz35_Valid rfl oneA (fun w16 hq hs => ?_)
    replace hB := hB.tr1 hs lo2
    replace hb1 := hb1.tr1 hs om
    replace hbu := hbu.tr1 hs om
    replace hbd := hbd.tr1 hs om
    replace hb4 := hb4.tr1 hs om
    clear hs
    replace hb2 := hq
    refine x_nil (e_S (c_ret (e_Br (e_Sr (e_LSr ?_)))))
    refine e_Br (e_Br (e_Sr (e_LSr (e_Br (e_Sr ?_)))))
    refine fin1 (.inl rfl) rfl (rr_cell U35 rfl rfl hb2.range0 sz35_Valid) ?_
    exact ⟨ret_fl hfin, hB⟩
   refine c_skip (e_B (e_S (c_region (wl (r_add rfl rfl rfl om) (wmI rfl ?_)))))
   refine x_nil (e_LS (k - (a + 1)) om agA ?_)
   exact ⟨a + 1, by omega, rfl, rfl, hB, hb1, hb2, hb4, hbu, hbd, fun j hj => by
     by_cases e : j = a
     · subst e; exact c60
     · exact hM j om⟩
  have hun : unmF l k = 0 := unmF_no (fun j hj => hM j om)
  refine c_exit (e_Sx (e_LSx (e_Bx (e_B (e_S ?_)))))
  refine c_region (wl (r_add rfl rfl rfl om) (wmI rfl (x_nil (e_LS (l.length - (k + 1)) om agA ?_))))
  exact ⟨k + 1, by omega, rfl, rfl, hB, hb1, hb2, hb4, hbu, hbd, hU.trans (firstF_miss hlt hun)⟩
 have hR := Lib.hid (hf_rest (fs := fs) om ht0 (hU.trans (firstF_end om)))
 refine c_exit (e_Sx (e_LSx (e_Bx (e_S (c_seq ?_)))))
 refine c_region ?_
 refine wl_mm (fun b65 w17 hb65 hs hr => ?_)
 have or_b1_b65 : b1 < b65 := nLL hb1.lt hr
 have or_b2_b65 : b2 < b65 := nLL hb2.lt hr
 have or_bu_b65 : bu < b65 := nLL hbu.lt hr
 have or_bd_b65 : bd < b65 := nLL hbd.lt hr
 have or_b4_b65 : b4 < b65 := nLL hb4.lt hr
 have lo65 := nLT (Bel.size hB) hr
 replace hB := hB.tr0 hs
 replace hb1 := hb1.tr0 hs
 replace hb2 := hb2.tr0 hs
 replace hbu := hbu.tr0 hs
 replace hbd := hbd.tr0 hs
 replace hb4 := hb4.tr0 hs
 clear hs
 clear hr
 refine wl (r_as (v := .map _) rfl) (x_nil (e_S (c_seq (c_seq (c_region ?_)))))
 refine wl (r_fa U25 sz23 dE rfl rfl rfl) (wl (r_ld1 (v := .slice _ _ _) U23 rfl rfl (hb1.cell rfl)) (wl (r_len U23 rfl) (wmI rfl (x_nil (e_S ?_)))))
 refine c_block ?_
 refine c_loopS [11, 12, 13, 14, 69, 70, 71, 72, 73, 74, 75, 76, 77, 78, 79, 80, 81, 82, 83, 84, 85, 86, 87, 88, 89, 90, 91, 92, 93, 94, 95, 96, 97, 98, 99, 100, 101, 102, 103, 104, 105, 106, 107, 108, 109, 110, 111, 112, 113, 114, 115, 116, 117, 118, 119, 120] (fun m g w' => ∃ (k : Nat) (mp : List (ByteArray × Value)), k ≤ fs.length ∧ m = fs.length - k ∧ g 69 = .int .i64 k ∧ Bel w w' ∧ Blk w' b1 25 #[.slice A l.length c, .slice B fs.length d] ∧ Blk w' b2 35 #[.int .i64 0, .int .i64 0] ∧ MapS w' b65 mp ∧ (∀ s, lkB mp s = seen ((fs.take k).map (·.name)) s) ∧ hierFault l fs = firstF (ftFault l.length fs) k (fs.length - k)) (fs.length) ?_ (fun m g20 w18 hI => ?_)
 ·
  exact ⟨0, [], Nat.zero_le _, rfl, rfl, hB, hb1, hb2, hb65, fun s => rfl, hR.out⟩
 obtain ⟨k, mp, hk, hm, h69, hB, hb1, hb2, hb65, hmp, hR'⟩ := hI
 refine c_know 69 (.int .i64 k) h69 nu (c_seq (c_region (wl (r_lss rfl rfl) (x_nil (e_S ?_)))))
 refine c_seq ?_
 refine c_ifd rfl (fun c70 => ?_) (fun c70 => ?_)
 ·
  have hlt : k < fs.length := by omega
  obtain ⟨tb, to, rfl, htb, htr⟩ := hF.at_ hB hlt
  refine c_skip (e_S (c_seq (c_block (c_seq (c_region ?_)))))
  refine wmI rfl (wl (r_ia (i := k) U23 sz63 rfl rfl om rfl) (wl (r_ldS U63 rfl rfl htr sz63) ?_))
  refine wl_al (cs := #[.string ⟨#[]⟩, .int .i64 0, .int .i64 0]) ze63 rfl (fun b12 w19 hb12 hs hr => ?_)
  have or_b1_b12 : b1 < b12 := nLL hb1.lt hr
  have or_b2_b12 : b2 < b12 := nLL hb2.lt hr
  have or_b65_b12 : b65 < b12 := nLL hb65.lt hr
  have lo12 := nLT (Bel.size hB) hr
  replace hB := hB.tr0 hs
  replace hb1 := hb1.tr0 hs
  replace hb2 := hb2.tr0 hs
  replace hb65 := hb65.tr0 hs
  clear hs
  clear hr
  refine waI rfl ?_
  refine wl_stW hb12 rfl rfl sz63 rfl oneA (fun w20 hq hs => ?_)
  replace hB := hB.tr1 hs lo12
  replace hb1 := hb1.tr1 hs om
  replace hb2 := hb2.tr1 hs om
  replace hb65 := hb65.tr1 hs om
  clear hs
  replace hb12 := hq
  refine x_nil (e_S (c_seq (c_seq (c_region (wl (r_fa U63 sz9_Valid dE rfl rfl rfl) ?_)))))
  refine wl (r_ld1 (v := .string _) U9 rfl rfl (hb12.cell rfl)) ?_
  refine wl_cl fn81_Valid (name_any _ _) rfl (fun e' w21 hr => ?_)
  obtain ⟨rfl, rfl⟩ := hr
  refine ⟨_, rfl, ?_⟩
  refine wl (r_not rfl) (x_nil (e_S ?_))
  refine c_if rfl (fun c77 => ?_) (fun c77 => ?_)
  ·
   have hty := ft10 l.length fs k hlt (by simpa using c77)
   refine c_seq (c_region (wmI rfl ?_))
   refine wl_cl fn41_Valid (fault_any _ _ _) rfl (fun e' w22 hr => ?_)
   obtain ⟨rfl, hs⟩ := hr
   replace hs := Same.of_bel hs
   replace hB := hB.tr0 hs
   replace hb1 := hb1.tr0 hs
   replace hb2 := hb2.tr0 hs
   replace hb65 := hb65.tr0 hs
   replace hb12 := hb12.tr0 hs
   clear hs
   refine ⟨_, rfl, ?_⟩
   refine wl_stW hb2 rfl rfl sz35_Valid rfl oneA (fun w23 hq hs => ?_)
   replace hB := hB.tr1 hs lo2
   replace hb1 := hb1.tr1 hs om
   replace hb65 := hb65.tr1 hs om
   replace hb12 := hb12.tr1 hs om
   clear hs
   replace hb2 := hq
   refine x_nil (e_S (c_ret (e_Sr (e_Br (e_Sr ?_)))))
   refine e_LSr (e_Br (e_Sr (fin1 (.inl rfl) rfl (rr_cell U35 rfl rfl hb2.range0 sz35_Valid) ?_)))
   exact ⟨ret_fl (hR'.trans (firstF_hit (c := 10) om hty dE)), hB⟩
  have hnm : isName (fs[k]'hlt).name = true := by simpa using c77
  refine c_skip (e_S (c_seq (c_seq (c_region (wl (r_mv (v := .map _) rfl) ?_)))))
  refine wl (r_fa U63 sz9_Valid dE rfl rfl rfl) (wl (r_ld1 (v := .string _) U9 rfl rfl (hb12.cell rfl)) (wl (r_lkS hb65 Tryd.underlying120 U9 ze3_Valid rfl rfl) (wmT rfl (wl (r_ex (v := _) rfl rfl) (wl (r_ex (v := .bool _) rfl rfl) ?_)))))
  refine wl (r_as (v := _) rfl) (waB rfl (x_nil (e_S (c_seq (c_region ?_)))))
  refine wmB rfl (x_nil (e_S ?_))
  refine c_if rfl (fun c87 => ?_) (fun c87 => ?_)
  ·
   have hty := ft7 l.length fs k hlt hnm ((hmp _).symm.trans c87)
   refine c_seq (c_region (wmI rfl ?_))
   refine wl_cl fn41_Valid (fault_any _ _ _) rfl (fun e' w24 hr => ?_)
   obtain ⟨rfl, hs⟩ := hr
   replace hs := Same.of_bel hs
   replace hB := hB.tr0 hs
   replace hb1 := hb1.tr0 hs
   replace hb2 := hb2.tr0 hs
   replace hb65 := hb65.tr0 hs
   replace hb12 := hb12.tr0 hs
   clear hs
   refine ⟨_, rfl, ?_⟩
   refine wl_stW hb2 rfl rfl sz35_Valid rfl oneA (fun w25 hq hs => ?_)
   replace hB := hB.tr1 hs lo2
   replace hb1 := hb1.tr1 hs om
   replace hb65 := hb65.tr1 hs om
   replace hb12 := hb12.tr1 hs om
   clear hs
   replace hb2 := hq
   refine x_nil (e_S (c_ret (e_Sr (e_Br (e_Sr ?_)))))
   refine e_LSr (e_Br (e_Sr (fin1 (.inl rfl) rfl (rr_cell U35 rfl rfl hb2.range0 sz35_Valid) ?_)))
   exact ⟨ret_fl (hR'.trans (firstF_hit (c := 7) om hty dE)), hB⟩
  have hsn : seen ((fs.take k).map (·.name)) (fs[k]'hlt).name = false := by rw [← hmp]; exact c87
  have hmp' : ∀ s, lkB (setS mp (fs[k]'hlt).name (.int .i64 k)) s = seen ((fs.take (k + 1)).map (·.name)) s := fun s => by
    rw [lkB_false_set _ _ _ c87, take_snoc fs hlt, List.map_append, List.map_cons, List.map_nil, seen_snoc, ← hmp]
    simp [lkB]
  refine c_skip (e_S (c_seq (c_region (wl (r_mv (v := .map _) rfl) (wl (r_fa U63 sz9_Valid dE rfl rfl rfl) ?_)))))
  refine wl (r_ld1 (v := .string _) U9 rfl rfl (hb12.cell rfl)) (wmI rfl ?_)
  refine wl_muS (v := .int _ _) hb65 Tryd.underlying120 U9 rfl rfl rfl (fun w26 hq hs => ?_)
  replace hB := hB.tr1 hs lo65
  replace hb1 := hb1.tr1 hs om
  replace hb2 := hb2.tr1 hs om
  replace hb12 := hb12.tr1 hs om
  clear hs
  replace hb65 := hq
  refine x_nil (e_S (c_seq ?_))
  refine c_cut1 [94, 95, 96, 97, 98, 99, 100, 101, 102, 103, 104, 105, 106, 107, 108, 109, 110, 111, 112, 113, 114, 115, 116, 117] 117 (.bool (decide ((fs[k]'hlt).of < 0 ∨ (l.length : Int) ≤ (fs[k]'hlt).of ∨ (fs[k]'hlt).val < 0 ∨ (l.length : Int) ≤ (fs[k]'hlt).val))) nu ?_ (fun gq => ?_)
  ·
   refine c_region (wl (r_fa U63 sz3_Tables dE rfl rfl rfl) (wl (r_ld1 (v := .int _ _) U3 rfl rfl (hb12.cell rfl)) (wl (r_lss rfl rfl) (wmB rfl ?_))))
   refine wl_casesd 97 rfl (fun g97 => ?_) (fun g97 => ?_)
   ·
    refine wlgn 97 rfl rfl rfl (wlgn 97 rfl rfl rfl (wlgn 97 rfl rfl rfl (wlgn 97 rfl rfl rfl (wlgn 97 rfl rfl rfl (wlgn 97 rfl rfl rfl ?_)))))
    refine wl (r_pt (v := .bool _) rfl rfl) (wmB rfl (wlgn 105 rfl rfl rfl (wlgn 105 rfl rfl rfl (wlgn 105 rfl rfl rfl (wl (r_pt (v := .bool _) rfl rfl) ?_)))))
    refine wmB rfl (wlgn 110 rfl rfl rfl (wlgn 110 rfl rfl rfl (wlgn 110 rfl rfl rfl (wlgn 110 rfl rfl rfl (wlgn 110 rfl rfl rfl ?_)))))
    refine wlgn 110 rfl rfl rfl (wl (r_pt (v := .bool _) rfl rfl) ?_)
    refine x_nil (e_R ⟨rfl, agA, ?_⟩)
    exact clA
   refine wl_gd 97 rfl rfl (wl (r_fa U63 sz3_Tables dE rfl rfl rfl) (wl_gd 97 rfl rfl (wl (r_ld1 (v := .int _ _) U3 rfl rfl (hb12.cell rfl)) (wl_gd 97 rfl rfl (wl (r_fa U25 sz22 dE rfl rfl rfl) ?_)))))
   refine wl_gd 97 rfl rfl (wl (r_ld1 (v := .slice _ _ _) U22 rfl rfl (hb1.cell rfl)) (wl_gd 97 rfl rfl (wl (r_len U22 rfl) (wl_gd 97 rfl rfl (wl (r_geq rfl rfl) ?_)))))
   refine wl (r_pf (v := .bool _) rfl rfl) (wmB rfl ?_)
   refine wl_casesd 105 rfl (fun g105 => ?_) (fun g105 => ?_)
   ·
    refine wlgn 105 rfl rfl rfl (wlgn 105 rfl rfl rfl (wlgn 105 rfl rfl rfl (wl (r_pt (v := .bool _) rfl rfl) (wmB rfl (wlgn 110 rfl rfl rfl ?_)))))
    refine wlgn 110 rfl rfl rfl (wlgn 110 rfl rfl rfl (wlgn 110 rfl rfl rfl (wlgn 110 rfl rfl rfl (wlgn 110 rfl rfl rfl (wl (r_pt (v := .bool _) rfl rfl) ?_)))))
    refine x_nil (e_R ⟨rfl, agA, ?_⟩)
    exact clA
   refine wl_gd 105 rfl rfl (wl (r_fa U63 sz3_Tables dE rfl rfl rfl) (wl_gd 105 rfl rfl (wl (r_ld1 (v := .int _ _) U3 rfl rfl (hb12.cell rfl)) (wl_gd 105 rfl rfl (wl (r_lss rfl rfl) ?_)))))
   refine wl (r_pf (v := .bool _) rfl rfl) (wmB rfl ?_)
   refine wl_casesd 110 rfl (fun g110 => ?_) (fun g110 => ?_)
   ·
    refine wlgn 110 rfl rfl rfl (wlgn 110 rfl rfl rfl (wlgn 110 rfl rfl rfl (wlgn 110 rfl rfl rfl (wlgn 110 rfl rfl rfl (wlgn 110 rfl rfl rfl ?_)))))
    refine wl (r_pt (v := .bool _) rfl rfl) ?_
    refine x_nil (e_R ⟨rfl, agA, ?_⟩)
    exact clA
   refine wl_gd 110 rfl rfl (wl (r_fa U63 sz3_Tables dE rfl rfl rfl) (wl_gd 110 rfl rfl (wl (r_ld1 (v := .int _ _) U3 rfl rfl (hb12.cell rfl)) (wl_gd 110 rfl rfl (wl (r_fa U25 sz22 dE rfl rfl rfl) ?_)))))
   refine wl_gd 110 rfl rfl (wl (r_ld1 (v := .slice _ _ _) U22 rfl rfl (hb1.cell rfl)) (wl_gd 110 rfl rfl (wl (r_len U22 rfl) (wl_gd 110 rfl rfl (wl (r_geq rfl rfl) ?_)))))
   refine wl (r_pf (v := .bool _) rfl rfl) ?_
   refine x_nil (e_R ⟨rfl, agA, ?_⟩)
   exact clA
  refine e_S ?_
  refine c_ifd rfl (fun c117 => ?_) (fun c117 => ?_)
  ·
   have hty := ft3 l.length fs k hlt hnm hsn c117
   refine c_seq (c_region (wmI rfl ?_))
   refine wl_cl fn41_Valid (fault_any _ _ _) rfl (fun e' w27 hr => ?_)
   obtain ⟨rfl, hs⟩ := hr
   replace hs := Same.of_bel hs
   replace hB := hB.tr0 hs
   replace hb1 := hb1.tr0 hs
   replace hb2 := hb2.tr0 hs
   replace hb65 := hb65.tr0 hs
   replace hb12 := hb12.tr0 hs
   clear hs
   refine ⟨_, rfl, ?_⟩
   refine wl_stW hb2 rfl rfl sz35_Valid rfl oneA (fun w28 hq hs => ?_)
   replace hB := hB.tr1 hs lo2
   replace hb1 := hb1.tr1 hs om
   replace hb65 := hb65.tr1 hs om
   replace hb12 := hb12.tr1 hs om
   clear hs
   replace hb2 := hq
   refine x_nil (e_S (c_ret (e_Br (e_Sr (e_LSr ?_)))))
   refine e_Br (e_Sr (fin1 (.inl rfl) rfl (rr_cell U35 rfl rfl hb2.range0 sz35_Valid) ?_))
   exact ⟨ret_fl (hR'.trans (firstF_hit (c := 3) om hty dE)), hB⟩
  have hty := ft0 l.length fs k hlt hnm hsn c117
  refine c_skip (e_B (e_S (c_region (wl (r_add rfl rfl rfl om) (wmI rfl ?_)))))
  refine x_nil (e_LS (fs.length - (k + 1)) om agA ?_)
  exact ⟨k + 1, setS mp (fs[k]'hlt).name (.int .i64 k), by omega, rfl, rfl, hB, hb1, hb2, hb65, hmp', hR'.trans (firstF_miss hlt hty)⟩
 refine c_exit (e_Sx (e_LSx (e_Bx (e_S (c_seq ?_)))))
 refine c_region (wl (r_bd (vs := #[]) (cs := #[.int .i64 0, .int .i64 0]) (by simp) kR) ?_)
 refine wl_stW hb2 rfl rfl sz35_Valid rfl oneA (fun w29 hq hs => ?_)
 replace hB := hB.tr1 hs lo2
 replace hb1 := hb1.tr1 hs om
 replace hb65 := hb65.tr1 hs om
 clear hs
 replace hb2 := hq
 refine x_nil (e_S (c_ret (fin1 (.inl rfl) rfl (rr_cell U35 rfl rfl hb2.range0 sz35_Valid) ?_)))
 exact ⟨ret_fl (hR'.trans (firstF_end om)), hB⟩
end Go.Proofs.YtegngekpmpdngaaDoor
