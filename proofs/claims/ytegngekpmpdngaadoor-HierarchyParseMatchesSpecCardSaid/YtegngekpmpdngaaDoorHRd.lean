/- What these functions of the program compute, at every world: glosswright/hierarchy.Read. -/
import Derived.Test.YtegngekpmpdngaaDoorU
import Derived.Test.YtegngekpmpdngaaDoorHFnd
import Derived.Test.YtegngekpmpdngaaDoorShx
import Derived.Test.YtegngekpmpdngaaDoorEng2
import Derived.Test.YtegngekpmpdngaaDoorBld
namespace Go.Proofs.YtegngekpmpdngaaDoor
open Go.RowKit
section okp
variable {ws : List ByteArray} {nf : Nat}
theorem okP1 (a : (!seen ws ⟨#[]⟩) = true) (t : wd ws 0 = ⟨#[116, 121, 112, 101]⟩) (l : 1 < ((ws.length : Nat) : Int)) (n : ((nf : Nat) : Int) = 0) : true = okB ws nf := by
  unfold okB; rw [a, decide_eq_true (show wd ws 0 = TYPE from t), decide_eq_true (show 1 < ws.length by omega), decide_eq_true (show nf = 0 by omega)]; rfl
theorem okP2 (_a : (!seen ws ⟨#[]⟩) = true) (t : wd ws 0 = ⟨#[116, 121, 112, 101]⟩) (_l : 1 < ((ws.length : Nat) : Int)) (_n : ¬ ((nf : Nat) : Int) = 0) (f : wd ws 0 = ⟨#[102, 101, 97, 116]⟩) : decide (((ws.length : Nat) : Int) = 4) = okB ws nf := absurd (t.symm.trans f) dE
theorem okP3 (a : (!seen ws ⟨#[]⟩) = true) (_t : wd ws 0 = ⟨#[116, 121, 112, 101]⟩) (_l : 1 < ((ws.length : Nat) : Int)) (n : ¬ ((nf : Nat) : Int) = 0) (f : ¬ wd ws 0 = ⟨#[102, 101, 97, 116]⟩) : false = okB ws nf := by
  unfold okB; rw [a, decide_eq_false (show ¬ nf = 0 by omega), decide_eq_false (show ¬ wd ws 0 = FEAT from f), Bool.and_false]; rfl
theorem okP4 (_a : (!seen ws ⟨#[]⟩) = true) (t : wd ws 0 = ⟨#[116, 121, 112, 101]⟩) (_l : ¬ 1 < ((ws.length : Nat) : Int)) (f : wd ws 0 = ⟨#[102, 101, 97, 116]⟩) : decide (((ws.length : Nat) : Int) = 4) = okB ws nf := absurd (t.symm.trans f) dE
theorem okP5 (a : (!seen ws ⟨#[]⟩) = true) (_t : wd ws 0 = ⟨#[116, 121, 112, 101]⟩) (l : ¬ 1 < ((ws.length : Nat) : Int)) (f : ¬ wd ws 0 = ⟨#[102, 101, 97, 116]⟩) : false = okB ws nf := by
  unfold okB; rw [a, decide_eq_false (show ¬ 1 < ws.length by omega), decide_eq_false (show ¬ wd ws 0 = FEAT from f), Bool.and_false]; rfl
theorem okP6 (a : (!seen ws ⟨#[]⟩) = true) (t : ¬ wd ws 0 = ⟨#[116, 121, 112, 101]⟩) (f : wd ws 0 = ⟨#[102, 101, 97, 116]⟩) : decide (((ws.length : Nat) : Int) = 4) = okB ws nf := by
  have e : decide (((ws.length : Nat) : Int) = 4) = decide (ws.length = 4) := decide_eq_decide.2 ⟨fun h => by omega, fun h => by omega⟩
  unfold okB; rw [a, decide_eq_false (show ¬ wd ws 0 = TYPE from t), decide_eq_true (show wd ws 0 = FEAT from f), e]; simp
theorem okP7 (a : (!seen ws ⟨#[]⟩) = true) (t : ¬ wd ws 0 = ⟨#[116, 121, 112, 101]⟩) (f : ¬ wd ws 0 = ⟨#[102, 101, 97, 116]⟩) : false = okB ws nf := by
  unfold okB; rw [a, decide_eq_false (show ¬ wd ws 0 = TYPE from t), decide_eq_false (show ¬ wd ws 0 = FEAT from f)]; rfl
theorem okP8 (a : (!seen ws ⟨#[]⟩) = false) : false = okB ws nf := by
  unfold okB; rw [a]; rfl
end okp
theorem okB_two {ws : List ByteArray} {nf : Nat} (h : okB ws nf = true) : 2 ≤ ws.length := by
  unfold okB at h
  simp only [Bool.and_eq_true, Bool.or_eq_true, decide_eq_true_eq] at h
  rcases h.2 with h | h <;> omega
theorem okB_four {ws : List ByteArray} {nf : Nat} (h : okB ws nf = true) (ht : ¬ wd ws 0 = TYPE) : ws.length - 2 = 2 := by
  unfold okB at h
  simp only [Bool.and_eq_true, Bool.or_eq_true, decide_eq_true_eq] at h
  rcases h.2 with h | h
  · exact absurd h.1.1 ht
  · omega
theorem fn41_HRd : callable Tryd.prog 41 = true := by kernel_rfl
theorem fn75 : callable Tryd.prog 75 = true := by kernel_rfl
theorem fn78 : callable Tryd.prog 78 = true := by kernel_rfl
theorem in63 : (Tryd.prog.info? 63).map (fun i => (i.zero, i.size, i.bytes)) = some (some (.agg #[.string ⟨#[]⟩, .int .i64 0, .int .i64 0]), 3, 32) := by kernel_rfl
theorem in77 : (Tryd.prog.info? 77).map (fun i => (i.zero, i.size, i.bytes)) = some (some (.agg #[.string ⟨#[]⟩, .slice none 0 0]), 2, 40) := by kernel_rfl
theorem ze25_HRd : (Tryd.prog.info? 25).map (·.zero) = some (some (.agg #[.slice none 0 0, .slice none 0 0])) := by kernel_rfl
theorem ze77_HRd : (Tryd.prog.info? 77).map (·.zero) = some (some (.agg #[.string ⟨#[]⟩, .slice none 0 0])) := by kernel_rfl
set_option maxRecDepth 100000 in
set_option maxHeartbeats 16000000 in
theorem rd_any (A : Option Addr) (c : Nat) (ls : List ByteArray) (w : World) (hL : StrsIn w A ls) (hls : ls.length ≤ 4001) (hsz : ∀ x ∈ ls, x.size ≤ 4000) : Calls Tryd.prog 43 #[.slice A ls.length c] w fun e w' => (∃ At ct Af cf l fs f, rdL [] [] 0 ls = ((l, fs), f) ∧ e = .returned (.tuple #[.agg #[.slice At (List.length l) ct, .slice Af (List.length fs) cf], .agg #[.int .i64 (Prod.fst f), .int .i64 f.2]]) ∧ l.length ≤ ct ∧ fs.length ≤ cf ∧ (∀ w2, FrSame w.heap.size w' w2 → TypesIn w2 At l) ∧ (∀ w2, FrSame w.heap.size w' w2 → FeatsIn w2 Af fs)) ∧ Bel w w' := by
 refine enter Tryd.func43 Tryd.ntmps43 rfl (Nat.le_of_ble_eq_true rfl) ?_
 have hB : Bel w w := Below.refl _ _
 refine c_seq (c_region ?_)
 refine wl_al (cs := #[.slice none 0 0, .slice none 0 0]) ze25_HRd rfl (fun b2 w1 hb2 hs hr => ?_)
 have lo2 := nLT (Bel.size hB) hr
 replace hB := hB.tr0 hs
 clear hs
 clear hr
 refine wl_al (cs := #[.int .i64 0, .int .i64 0]) ze35_GLoose rfl (fun b3 w2 hb3 hs hr => ?_)
 have or_b2_b3 : b2 < b3 := nLL hb2.lt hr
 have lo3 := nLT (Bel.size hB) hr
 replace hB := hB.tr0 hs
 replace hb2 := hb2.tr0 hs
 clear hs
 clear hr
 refine x_nil (e_S (c_seq (c_region ?_)))
 refine wl_al (cs := #[.slice none 0 0, .slice none 0 0]) ze25_HRd rfl (fun b4 w3 hb4 hs hr => ?_)
 have or_b2_b4 : b2 < b4 := nLL hb2.lt hr
 have or_b3_b4 : b3 < b4 := nLL hb3.lt hr
 have lo4 := nLT (Bel.size hB) hr
 replace hB := hB.tr0 hs
 replace hb2 := hb2.tr0 hs
 replace hb3 := hb3.tr0 hs
 clear hs
 clear hr
 refine x_nil (e_S (c_seq (c_region (wl (r_mf rfl) (wl (r_as (v := .func _ _ _) rfl) ?_)))))
 refine x_nil (e_S (c_seq (c_seq ?_)))
 have hoT : Own w3 w.heap.size 77 2 none ([] : List Ty).length 0 [] := Own.nil _ _ _ _
 have hoF : Own w3 w.heap.size 63 3 none ([] : List Ft).length 0 (ftV []) := Own.nil _ _ _ _
 have hRw : RowT w.heap.size w3.heap.size w3 [] [] := RowT.nil _ _ _
 refine c_region (wmS rfl (wl (r_len U83 rfl) (wmI rfl (x_nil (e_S ?_)))))
 refine c_block ?_
 refine c_loopS [6, 7, 8, 9, 10, 12, 13, 17, 18, 19, 20, 21, 22, 23, 24, 25, 26, 27, 28, 29, 30, 31, 32, 33, 34, 35, 36, 37, 38, 39, 40, 41, 42, 43, 44, 45, 46, 47, 48, 49, 50, 51, 52, 53, 54, 55, 56, 57, 58, 59, 60, 61, 62, 63, 64, 65, 66, 67, 68, 69, 70, 71, 72, 73, 74, 75, 76, 77, 78, 79, 80, 81, 82, 83, 84, 85, 86, 87, 88, 89, 90, 91, 92, 93, 94, 95, 96, 97, 98, 99, 100, 101, 102, 103, 104, 105, 106, 107, 108, 109] (fun m g w' => ∃ (k : Nat) (lT : List Ty) (lF : List Ft) (AT AF : Option Addr) (cT cF : Nat) (vs : List Value), k ≤ ls.length ∧ m = ls.length - k ∧ g 17 = .int .i64 k ∧ lT.length ≤ k ∧ lF.length ≤ k ∧ rdL [] [] 0 ls = rdL lT lF k (ls.drop k) ∧ Bel w w' ∧ Blk w' b2 25 #[.slice none 0 0, .slice none 0 0] ∧ Blk w' b3 35 #[.int .i64 0, .int .i64 0] ∧ Blk w' b4 25 #[.slice AT lT.length cT, .slice AF lF.length cF] ∧ Own w' w.heap.size 77 2 AT lT.length cT vs ∧ Own w' w.heap.size 63 3 AF lF.length cF (ftV lF) ∧ RowT w.heap.size w'.heap.size w' lT vs) (ls.length) ?_ (fun m g4 w4 hI => ?_)
 ·
  exact ⟨0, [], [], none, none, 0, 0, [], Nat.zero_le _, rfl, rfl, Nat.le_refl _, Nat.le_refl _, rfl, hB, hb2, hb3, hb4, hoT, hoF, RowT.nil _ _ _⟩
 obtain ⟨k, lT, lF, AT, AF, cT, cF, vs, hk, hmk, h17, hlT, hlF, hR, hB, hb2, hb3, hb4, hoT, hoF, hRw⟩ := hI
 obtain ⟨zlo, hzlo⟩ : ∃ z, z = w4.heap.size := ⟨_, rfl⟩
 have hzh : zlo ≤ w4.heap.size := Nat.le_of_eq hzlo
 have hwz : w.heap.size ≤ zlo := by rw [hzlo]; exact Bel.size hB
 rw [← hzlo] at hRw
 have lt2 := hb2.lt
 have lt3 := hb3.lt
 have lt4 := hb4.lt
 refine c_know 17 (.int .i64 k) h17 nu (c_seq (c_region (wl (r_lss rfl rfl) (x_nil (e_S ?_)))))
 refine c_seq ?_
 refine c_ifd rfl (fun c18 => ?_) (fun c18 => ?_)
 ·
  have hlt : k < ls.length := by omega
  have hwl := sp_len 32 (ls[k]'hlt)
  have hwc := count_size 32 (ls[k]'hlt)
  have hsk := hsz (ls[k]'hlt) (List.getElem_mem hlt)
  obtain ⟨lb, lof, rfl, hlb, hlr⟩ := hL.at_ hlt
  refine c_skip (e_S (c_seq (c_block (c_seq (c_region ?_)))))
  refine wmI rfl (wl (r_ia (i := k) U83 sz9_HFnd rfl rfl om rfl) (wl (r_ld1 (v := .string _) U9 rfl rfl (hB.cell hlb hlr)) (waI rfl (wl (r_as (v := .string _) rfl) (x_nil ?_)))))
  refine e_S (c_seq (c_region (wl (r_mv (v := .string _) rfl) ?_)))
  refine wl_cl fn74 (spl_any (ls[k]'hlt) 32 _ hsk) rfl (fun e' w5 hr => ?_)
  obtain ⟨bW, rfl, loW, hbW, hs⟩ := hr
  replace hs := Same.of_bel hs
  replace hB := hB.tr0 hs
  replace hb2 := hb2.tr0 hs
  replace hb3 := hb3.tr0 hs
  replace hb4 := hb4.tr0 hs
  replace hoT := hoT.tr0 hs
  replace hoF := hoF.tr0 hs
  replace hRw := hRw.tr hs (by simp)
  replace hzh := nLT hzh (Same.size hs)
  clear hs
  refine ⟨_, rfl, ?_⟩
  refine waS rfl (x_nil (e_S (c_seq ?_)))
  refine c_cutS [9, 24, 25, 26, 27, 28, 29, 30, 31, 32, 33, 34, 35, 36, 37, 38, 39, 40, 41, 42, 43, 44, 45, 46, 47, 48, 49, 50, 51, 52, 53, 54] (fun g w' => g 9 = .bool (okB (sp 32 (ls[k]'hlt)) lF.length) ∧ Bel w w' ∧ Blk w' b2 25 #[.slice none 0 0, .slice none 0 0] ∧ Blk w' b3 35 #[.int .i64 0, .int .i64 0] ∧ Blk w' b4 25 #[.slice AT lT.length cT, .slice AF lF.length cF] ∧ Own w' w.heap.size 77 2 AT lT.length cT vs ∧ Own w' w.heap.size 63 3 AF lF.length cF (ftV lF) ∧ RowT w.heap.size zlo w' lT vs ∧ Blk w' bW 9 (spR 32 (ls[k]'hlt)) ∧ zlo ≤ w'.heap.size) ?_ (fun g7 w6 hI => ?_)
  ·
   refine c_region (wmS rfl ?_)
   refine wl_cl fn78 (cts_any (some ⟨bW, 0, none⟩) _ (sp 32 (ls[k]'hlt)) ⟨#[]⟩ _ (spR_all hbW hsk)) rfl (fun e' w7 hr => ?_)
   obtain ⟨rfl, hs⟩ := hr
   replace hs := Same.of_bel hs
   replace hB := hB.tr0 hs
   replace hb2 := hb2.tr0 hs
   replace hb3 := hb3.tr0 hs
   replace hb4 := hb4.tr0 hs
   replace hoT := hoT.tr0 hs
   replace hoF := hoF.tr0 hs
   replace hRw := hRw.tr hs (by simp)
   replace hzh := nLT hzh (Same.size hs)
   replace hbW := hbW.tr0 hs
   clear hs
   refine ⟨_, rfl, ?_⟩
   refine wl (r_not rfl) (wmB rfl ?_)
   refine wl_cases 27 rfl (fun g27 => ?_) (fun g27 => ?_)
   ·
    refine wl_gd 27 rfl rfl (wmS rfl (wl_gd 27 rfl rfl (wl (r_ia (i := 0) U83 sz9_HFnd rfl rfl om rfl) (wl_gd 27 rfl rfl (wl (r_ld1 (v := .string _) U9 rfl rfl (hbW.cell (spR_get om))) ?_)))))
    refine wl_gd 27 rfl rfl (wl (r_eqlS rfl rfl) (wl_gd 27 rfl rfl (wmB rfl ?_)))
    refine wl_casesd 32 rfl (fun g32 => ?_) (fun g32 => ?_)
    ·
     refine wl_gd 32 rfl rfl (wmS rfl (wl_gd 32 rfl rfl (wl (r_len U83 rfl) (wl_gd 32 rfl rfl (wl (r_gtr rfl rfl) ?_)))))
     refine wl_gd 27 rfl rfl (wl (r_pt (v := .bool _) rfl rfl) (wl_gd 27 rfl rfl (wmB rfl ?_)))
     refine wl_casesd 37 rfl (fun g37 => ?_) (fun g37 => ?_)
     ·
      refine wl_gd 37 rfl rfl (wl (r_fa U25 sz23_GLoose dE rfl rfl rfl) (wl_gd 37 rfl rfl (wl (r_ld1 (v := .slice _ _ _) U23 rfl rfl (hb4.cell rfl)) (wl_gd 37 rfl rfl (wl (r_len U23 rfl) ?_)))))
      refine wl_gd 37 rfl rfl (wl (r_eql rfl rfl) (wl_gd 27 rfl rfl (wl (r_pt (v := .bool _) rfl rfl) (wl_gd 27 rfl rfl (wmB rfl ?_)))))
      refine wl_casesd 43 rfl (fun g43 => ?_) (fun g43 => ?_)
      ·
       refine wlgn 43 rfl rfl rfl (wlgn 43 rfl rfl rfl (wlgn 43 rfl rfl rfl (wlgn 43 rfl rfl rfl (wlgn 43 rfl rfl rfl (wlgu 48 rfl rfl ?_)))))
       refine wlgu 48 rfl rfl (wlgu 48 rfl rfl (wlgn 43 rfl rfl rfl (wl_gd 27 rfl rfl (wl (r_pt (v := .bool _) rfl rfl) (wl (r_pt (v := .bool _) rfl rfl) ?_)))))
       refine waB rfl (x_nil ?_)
       refine e_R ⟨agA, ?_⟩
       exact ⟨congrArg Value.bool (by first | exact okP1 g27 g32 g37 g43 | exact okP2 g27 g32 g37 g43 g48 | exact okP3 g27 g32 g37 g43 g48 | exact okP4 g27 g32 g37 g48 | exact okP5 g27 g32 g37 g48 | exact okP6 g27 g32 g48 | exact okP7 g27 g32 g48 | exact okP8 g27), hB, hb2, hb3, hb4, hoT, hoF, hRw, hbW, hzh⟩
      refine wl_gd 43 rfl rfl (wmS rfl (wl_gd 43 rfl rfl (wl (r_ia (i := 0) U83 sz9_HFnd rfl rfl om rfl) (wl_gd 43 rfl rfl (wl (r_ld1 (v := .string _) U9 rfl rfl (hbW.cell (spR_get om))) ?_)))))
      refine wl_gd 43 rfl rfl (wl (r_eqlS rfl rfl) (wl_gd 43 rfl rfl (wmB rfl ?_)))
      refine wl_casesd 48 rfl (fun g48 => ?_) (fun g48 => ?_)
      ·
       refine wl_gd 48 rfl rfl (wmS rfl (wl_gd 48 rfl rfl (wl (r_len U83 rfl) (wl_gd 48 rfl rfl (wl (r_eql rfl rfl) ?_)))))
       refine wl_gd 43 rfl rfl (wl (r_pt (v := .bool _) rfl rfl) (wl_gd 27 rfl rfl (wl (r_pf (v := .bool _) rfl rfl) (wl (r_pt (v := .bool _) rfl rfl) (waB rfl ?_)))))
       refine x_nil ?_
       refine e_R ⟨agA, ?_⟩
       exact ⟨congrArg Value.bool (by first | exact okP1 g27 g32 g37 g43 | exact okP2 g27 g32 g37 g43 g48 | exact okP3 g27 g32 g37 g43 g48 | exact okP4 g27 g32 g37 g48 | exact okP5 g27 g32 g37 g48 | exact okP6 g27 g32 g48 | exact okP7 g27 g32 g48 | exact okP8 g27), hB, hb2, hb3, hb4, hoT, hoF, hRw, hbW, hzh⟩
      refine wlgn 48 rfl rfl rfl (wlgn 48 rfl rfl rfl (wlgn 48 rfl rfl rfl (wl_gd 43 rfl rfl (wl (r_pf (v := .bool _) rfl rfl) (wl_gd 27 rfl rfl ?_)))))
      refine wl (r_pf (v := .bool _) rfl rfl) (wl (r_pt (v := .bool _) rfl rfl) (waB rfl (x_nil ?_)))
      refine e_R ⟨agA, ?_⟩
      exact ⟨congrArg Value.bool (by first | exact okP1 g27 g32 g37 g43 | exact okP2 g27 g32 g37 g43 g48 | exact okP3 g27 g32 g37 g43 g48 | exact okP4 g27 g32 g37 g48 | exact okP5 g27 g32 g37 g48 | exact okP6 g27 g32 g48 | exact okP7 g27 g32 g48 | exact okP8 g27), hB, hb2, hb3, hb4, hoT, hoF, hRw, hbW, hzh⟩
     refine wlgn 37 rfl rfl rfl (wlgn 37 rfl rfl rfl (wlgn 37 rfl rfl rfl (wlgn 37 rfl rfl rfl (wl_gd 27 rfl rfl (wl (r_pf (v := .bool _) rfl rfl) ?_)))))
     refine wl_gd 27 rfl rfl (wmB rfl (wl_gd 43 rfl rfl (wmS rfl (wl_gd 43 rfl rfl (wl (r_ia (i := 0) U83 sz9_HFnd rfl rfl om rfl) ?_)))))
     refine wl_gd 43 rfl rfl (wl (r_ld1 (v := .string _) U9 rfl rfl (hbW.cell (spR_get om))) (wl_gd 43 rfl rfl (wl (r_eqlS rfl rfl) (wl_gd 43 rfl rfl (wmB rfl ?_)))))
     refine wl_casesd 48 rfl (fun g48 => ?_) (fun g48 => ?_)
     ·
      refine wl_gd 48 rfl rfl (wmS rfl (wl_gd 48 rfl rfl (wl (r_len U83 rfl) (wl_gd 48 rfl rfl (wl (r_eql rfl rfl) ?_)))))
      refine wl_gd 43 rfl rfl (wl (r_pt (v := .bool _) rfl rfl) (wl_gd 27 rfl rfl (wl (r_pf (v := .bool _) rfl rfl) (wl (r_pt (v := .bool _) rfl rfl) (waB rfl ?_)))))
      refine x_nil ?_
      refine e_R ⟨agA, ?_⟩
      exact ⟨congrArg Value.bool (by first | exact okP1 g27 g32 g37 g43 | exact okP2 g27 g32 g37 g43 g48 | exact okP3 g27 g32 g37 g43 g48 | exact okP4 g27 g32 g37 g48 | exact okP5 g27 g32 g37 g48 | exact okP6 g27 g32 g48 | exact okP7 g27 g32 g48 | exact okP8 g27), hB, hb2, hb3, hb4, hoT, hoF, hRw, hbW, hzh⟩
     refine wlgn 48 rfl rfl rfl (wlgn 48 rfl rfl rfl (wlgn 48 rfl rfl rfl (wl_gd 43 rfl rfl (wl (r_pf (v := .bool _) rfl rfl) (wl_gd 27 rfl rfl ?_)))))
     refine wl (r_pf (v := .bool _) rfl rfl) (wl (r_pt (v := .bool _) rfl rfl) (waB rfl (x_nil ?_)))
     refine e_R ⟨agA, ?_⟩
     exact ⟨congrArg Value.bool (by first | exact okP1 g27 g32 g37 g43 | exact okP2 g27 g32 g37 g43 g48 | exact okP3 g27 g32 g37 g43 g48 | exact okP4 g27 g32 g37 g48 | exact okP5 g27 g32 g37 g48 | exact okP6 g27 g32 g48 | exact okP7 g27 g32 g48 | exact okP8 g27), hB, hb2, hb3, hb4, hoT, hoF, hRw, hbW, hzh⟩
    refine wlgn 32 rfl rfl rfl (wlgn 32 rfl rfl rfl (wlgn 32 rfl rfl rfl (wl_gd 27 rfl rfl (wl (r_pf (v := .bool _) rfl rfl) (wl_gd 27 rfl rfl ?_)))))
    refine wmB rfl (wlgn 37 rfl rfl rfl (wlgn 37 rfl rfl rfl (wlgn 37 rfl rfl rfl (wlgn 37 rfl rfl rfl (wl_gd 27 rfl rfl ?_)))))
    refine wl (r_pf (v := .bool _) rfl rfl) (wl_gd 27 rfl rfl (wmB rfl (wl_gd 43 rfl rfl (wmS rfl (wl_gd 43 rfl rfl ?_)))))
    refine wl (r_ia (i := 0) U83 sz9_HFnd rfl rfl om rfl) (wl_gd 43 rfl rfl (wl (r_ld1 (v := .string _) U9 rfl rfl (hbW.cell (spR_get om))) (wl_gd 43 rfl rfl (wl (r_eqlS rfl rfl) (wl_gd 43 rfl rfl ?_)))))
    refine wmB rfl ?_
    refine wl_casesd 48 rfl (fun g48 => ?_) (fun g48 => ?_)
    ·
     refine wl_gd 48 rfl rfl (wmS rfl (wl_gd 48 rfl rfl (wl (r_len U83 rfl) (wl_gd 48 rfl rfl (wl (r_eql rfl rfl) ?_)))))
     refine wl_gd 43 rfl rfl (wl (r_pt (v := .bool _) rfl rfl) (wl_gd 27 rfl rfl (wl (r_pf (v := .bool _) rfl rfl) (wl (r_pt (v := .bool _) rfl rfl) (waB rfl ?_)))))
     refine x_nil ?_
     refine e_R ⟨agA, ?_⟩
     exact ⟨congrArg Value.bool (by first | exact okP1 g27 g32 g37 g43 | exact okP2 g27 g32 g37 g43 g48 | exact okP3 g27 g32 g37 g43 g48 | exact okP4 g27 g32 g37 g48 | exact okP5 g27 g32 g37 g48 | exact okP6 g27 g32 g48 | exact okP7 g27 g32 g48 | exact okP8 g27), hB, hb2, hb3, hb4, hoT, hoF, hRw, hbW, hzh⟩
    refine wlgn 48 rfl rfl rfl (wlgn 48 rfl rfl rfl (wlgn 48 rfl rfl rfl (wl_gd 43 rfl rfl (wl (r_pf (v := .bool _) rfl rfl) (wl_gd 27 rfl rfl ?_)))))
    refine wl (r_pf (v := .bool _) rfl rfl) (wl (r_pt (v := .bool _) rfl rfl) (waB rfl (x_nil ?_)))
    refine e_R ⟨agA, ?_⟩
    exact ⟨congrArg Value.bool (by first | exact okP1 g27 g32 g37 g43 | exact okP2 g27 g32 g37 g43 g48 | exact okP3 g27 g32 g37 g43 g48 | exact okP4 g27 g32 g37 g48 | exact okP5 g27 g32 g37 g48 | exact okP6 g27 g32 g48 | exact okP7 g27 g32 g48 | exact okP8 g27), hB, hb2, hb3, hb4, hoT, hoF, hRw, hbW, hzh⟩
   refine wlgn 27 rfl rfl rfl (wlgn 27 rfl rfl rfl (wlgn 27 rfl rfl rfl (wlgn 27 rfl rfl rfl (wlgn 27 rfl rfl rfl (wlgu 32 rfl rfl ?_)))))
   refine wlgu 32 rfl rfl (wlgu 32 rfl rfl (wlgn 27 rfl rfl rfl (wlgn 27 rfl rfl rfl (wlgu 37 rfl rfl (wlgu 37 rfl rfl ?_)))))
   refine wlgu 37 rfl rfl (wlgu 37 rfl rfl (wlgn 27 rfl rfl rfl (wlgn 27 rfl rfl rfl (wlgu 43 rfl rfl (wlgu 43 rfl rfl ?_)))))
   refine wlgu 43 rfl rfl (wlgu 43 rfl rfl (wlgu 43 rfl rfl (wlgu 48 rfl rfl (wlgu 48 rfl rfl (wlgu 48 rfl rfl ?_)))))
   refine wlgu 43 rfl rfl (wlgn 27 rfl rfl rfl (wl (r_pf (v := .bool _) rfl rfl) (waB rfl (x_nil ?_))))
   refine e_R ⟨agA, ?_⟩
   exact ⟨congrArg Value.bool (by first | exact okP1 g27 g32 g37 g43 | exact okP2 g27 g32 g37 g43 g48 | exact okP3 g27 g32 g37 g43 g48 | exact okP4 g27 g32 g37 g48 | exact okP5 g27 g32 g37 g48 | exact okP6 g27 g32 g48 | exact okP7 g27 g32 g48 | exact okP8 g27), hB, hb2, hb3, hb4, hoT, hoF, hRw, hbW, hzh⟩
  obtain ⟨h9, hB, hb2, hb3, hb4, hoT, hoF, hRw, hbW, hzh⟩ := hI
  refine e_know 9 (.bool (okB (sp 32 (ls[k]'hlt)) lF.length)) h9 nu (e_S (c_seq (c_seq (c_region (wmB rfl ?_)))))
  refine wl (r_not rfl) (x_nil (e_S ?_))
  refine c_if rfl (fun c56 => ?_) (fun c56 => ?_)
  ·
   have hok : okB (sp 32 (ls[k]'hlt)) lF.length = false := by simpa using c56
   have hbad := stepL_bad (l := lT) hok
   refine c_seq (c_region (wl (r_bd (vs := #[]) (cs := #[.slice none 0 0, .slice none 0 0]) (by simp) kR) (wmI rfl ?_)))
   refine wl_cl fn41_HRd (fault_any _ _ _) rfl (fun e' w8 hr => ?_)
   obtain ⟨rfl, hs⟩ := hr
   replace hs := Same.of_bel hs
   replace hB := hB.tr0 hs
   replace hb2 := hb2.tr0 hs
   replace hb3 := hb3.tr0 hs
   replace hb4 := hb4.tr0 hs
   replace hoT := hoT.tr0 hs
   replace hoF := hoF.tr0 hs
   replace hRw := hRw.tr hs (by simp)
   replace hbW := hbW.tr0 hs
   replace hzh := nLT hzh (Same.size hs)
   clear hs
   refine ⟨_, rfl, ?_⟩
   refine wl_stW hb2 rfl rfl sz25 rfl oneA (fun w9 hq hs => ?_)
   replace hB := hB.tr1 hs lo2
   replace hb3 := hb3.tr1 hs om
   replace hb4 := hb4.tr1 hs om
   replace hoT := hoT.tr1 hs (own_neC hoT hb2 dE)
   replace hoF := hoF.tr1 hs (own_neC hoF hb2 dE)
   replace hRw := hRw.tr hs (fun g hg => by rw [List.mem_singleton.1 hg]; exact .inr ⟨_, _, hb2, by decide⟩)
   replace hbW := hbW.tr1 hs om
   replace hzh := nLT hzh (Same.size hs)
   clear hs
   replace hb2 := hq
   refine wl_stW hb3 rfl rfl sz35_GLoose rfl oneA (fun w10 hq hs => ?_)
   replace hB := hB.tr1 hs lo3
   replace hb2 := hb2.tr1 hs om
   replace hb4 := hb4.tr1 hs om
   replace hoT := hoT.tr1 hs (own_neC hoT hb3 dE)
   replace hoF := hoF.tr1 hs (own_neC hoF hb3 dE)
   replace hRw := hRw.tr hs (fun g hg => by rw [List.mem_singleton.1 hg]; exact .inr ⟨_, _, hb3, by decide⟩)
   replace hbW := hbW.tr1 hs om
   replace hzh := nLT hzh (Same.size hs)
   clear hs
   replace hb3 := hq
   refine x_nil (e_S (c_ret (e_Sr (e_Br (e_Sr ?_)))))
   refine e_LSr (e_Br (e_Sr (fin2 (.inl rfl) rfl (rr_cell U25 rfl rfl hb2.range0 sz25) (rr_cell U35 rfl rfl hb3.range0 sz35_GLoose) ?_)))
   exact ⟨⟨none, 0, none, 0, [], [], _, hR.trans (rdL_bad hlt hbad), rfl, Nat.le_refl _, Nat.le_refl _, fun _ _ => types_nil _ _, fun _ _ => feats_nilH _ _⟩, hB⟩
  ·
   have hok : okB (sp 32 (ls[k]'hlt)) lF.length = true := by simpa using c56
   have hw2 := okB_two hok
   obtain ⟨AW, hAW, hSW⟩ := drop_adr (b := bW) (m := (sp 32 (ls[k]'hlt)).length)
   refine c_skip (e_S (c_seq (c_region (waS rfl (x_nil ?_)))))
   refine e_S (c_seq (c_seq (c_region (wmS rfl (wl (r_slD (l := 2) U83 (sz := 1) kR hAW rfl rfl om) ?_)))))
   refine wl (r_len U83 rfl) (wmI rfl (x_nil (e_S (c_block ?_))))
   refine c_loopS [10, 12, 13, 63, 64, 65, 66, 67, 68, 69, 70, 71, 72, 73, 74, 75, 76, 77, 78, 79] (fun m g w' => ∃ (j : Nat) (xs : List Int) (A10 : Option Addr) (c10 : Nat), j ≤ (sp 32 (ls[k]'hlt)).length - 2 ∧ m = (sp 32 (ls[k]'hlt)).length - 2 - j ∧ g 63 = .int .i64 j ∧ g 10 = .slice A10 xs.length c10 ∧ xs.length = j ∧ ats lT (((sp 32 (ls[k]'hlt)).drop 2).take j) = some xs ∧ Bel w w' ∧ Blk w' b2 25 #[.slice none 0 0, .slice none 0 0] ∧ Blk w' b3 35 #[.int .i64 0, .int .i64 0] ∧ Blk w' b4 25 #[.slice AT lT.length cT, .slice AF lF.length cF] ∧ Own w' w.heap.size 77 2 AT lT.length cT vs ∧ Own w' w.heap.size 63 3 AF lF.length cF (ftV lF) ∧ RowT w.heap.size zlo w' lT vs ∧ Blk w' bW 9 (spR 32 (ls[k]'hlt)) ∧ Own w' zlo 3 1 A10 xs.length c10 (iV xs) ∧ zlo ≤ w'.heap.size) ((sp 32 (ls[k]'hlt)).length - 2) ?_ (fun m g12 w11 hI => ?_)
   ·
    exact ⟨0, [], none, 0, Nat.zero_le _, rfl, rfl, rfl, rfl, rfl, hB, hb2, hb3, hb4, hoT, hoF, hRw, hbW, Own.nil _ _ _ _, hzh⟩
   obtain ⟨j, xs, A10, c10, hj, hmj, h63, h10, hxj, hat, hB, hb2, hb3, hb4, hoT, hoF, hRw, hbW, hoA, hzh⟩ := hI
   refine c_know 63 (.int .i64 j) h63 nu (c_know 10 (.slice A10 xs.length c10) h10 nu (c_seq (c_region (wl (r_lss rfl rfl) (x_nil ?_)))))
   refine e_S (c_seq ?_)
   refine c_ifd rfl (fun c64 => ?_) (fun c64 => ?_)
   ·
    have hjl : j < (sp 32 (ls[k]'hlt)).length - 2 := by omega
    have hjd : j < ((sp 32 (ls[k]'hlt)).drop 2).length := by rw [List.length_drop]; exact hjl
    obtain rfl := hSW om
    obtain ⟨hs1, hs2'⟩ := ats_step hjd hat
    rw [pc_drop hjd] at hs1 hs2'
    
    refine c_skip (e_S (c_seq (c_block (c_seq (c_region ?_)))))
    refine wl (r_ia (i := j) U83 sz9_HFnd rfl rfl om rfl) (wl (r_ld1 (v := .string _) U9 rfl rfl (hbW.cell (spR_get2 om))) (wl (r_as (v := .string _) rfl) (x_nil (e_S (c_seq ?_)))))
    refine c_region (wl (r_mv (v := .func _ _ _) rfl) (wl (r_mv (v := .string _) rfl) ?_))
    refine wl_clv rfl fn75 (fnf_any b4 AT cT _ lT _ _ hb4 (types_own hoT hRw rfl)) rfl rfl (fun e' w12 hr => ?_)
    obtain ⟨rfl, hs⟩ := hr
    replace hs := Same.of_bel hs
    replace hB := hB.tr0 hs
    replace hb2 := hb2.tr0 hs
    replace hb3 := hb3.tr0 hs
    replace hb4 := hb4.tr0 hs
    replace hbW := hbW.tr0 hs
    replace hoT := hoT.tr0 hs
    replace hoF := hoF.tr0 hs
    replace hRw := hRw.tr hs (by simp)
    replace hoA := hoA.tr0 hs
    replace hzh := nLT hzh (Same.size hs)
    clear hs
    refine ⟨_, rfl, ?_⟩
    refine waI rfl (x_nil (e_S (c_seq (c_seq (c_region ?_)))))
    refine wmI rfl (wl (r_lss rfl rfl) (x_nil (e_S ?_)))
    refine c_ifd rfl (fun c71 => ?_) (fun c71 => ?_)
    ·
     have hbad := stepL_no hok (hs1 c71)
     refine c_seq (c_region (wl (r_bd (vs := #[]) (cs := #[.slice none 0 0, .slice none 0 0]) (by simp) kR) (wmI rfl ?_)))
     refine wl_cl fn41_HRd (fault_any _ _ _) rfl (fun e' w13 hr => ?_)
     obtain ⟨rfl, hs⟩ := hr
     replace hs := Same.of_bel hs
     replace hB := hB.tr0 hs
     replace hb2 := hb2.tr0 hs
     replace hb3 := hb3.tr0 hs
     replace hb4 := hb4.tr0 hs
     replace hbW := hbW.tr0 hs
     replace hoT := hoT.tr0 hs
     replace hoF := hoF.tr0 hs
     replace hRw := hRw.tr hs (by simp)
     replace hoA := hoA.tr0 hs
     replace hzh := nLT hzh (Same.size hs)
     clear hs
     refine ⟨_, rfl, ?_⟩
     refine wl_stW hb2 rfl rfl sz25 rfl oneA (fun w14 hq hs => ?_)
     replace hB := hB.tr1 hs lo2
     replace hb3 := hb3.tr1 hs om
     replace hb4 := hb4.tr1 hs om
     replace hbW := hbW.tr1 hs om
     replace hoT := hoT.tr1 hs (own_neC hoT hb2 dE)
     replace hoF := hoF.tr1 hs (own_neC hoF hb2 dE)
     replace hRw := hRw.tr hs (fun g hg => by rw [List.mem_singleton.1 hg]; exact .inr ⟨_, _, hb2, by decide⟩)
     replace hoA := hoA.tr1 hs (own_neC hoA hb2 dE)
     replace hzh := nLT hzh (Same.size hs)
     clear hs
     replace hb2 := hq
     refine wl_stW hb3 rfl rfl sz35_GLoose rfl oneA (fun w15 hq hs => ?_)
     replace hB := hB.tr1 hs lo3
     replace hb2 := hb2.tr1 hs om
     replace hb4 := hb4.tr1 hs om
     replace hbW := hbW.tr1 hs om
     replace hoT := hoT.tr1 hs (own_neC hoT hb3 dE)
     replace hoF := hoF.tr1 hs (own_neC hoF hb3 dE)
     replace hRw := hRw.tr hs (fun g hg => by rw [List.mem_singleton.1 hg]; exact .inr ⟨_, _, hb3, by decide⟩)
     replace hoA := hoA.tr1 hs (own_neC hoA hb3 dE)
     replace hzh := nLT hzh (Same.size hs)
     clear hs
     replace hb3 := hq
     refine x_nil (e_S (c_ret (e_Sr (e_Br (e_Sr ?_)))))
     refine e_LSr (e_Br (e_Sr (e_Br (e_Sr (e_LSr ?_)))))
     refine e_Br (e_Sr (fin2 (.inl rfl) rfl (rr_cell U25 rfl rfl hb2.range0 sz25) (rr_cell U35 rfl rfl hb3.range0 sz35_GLoose) ?_))
     exact ⟨⟨none, 0, none, 0, [], [], _, hR.trans (rdL_bad hlt hbad), rfl, Nat.le_refl _, Nat.le_refl _, fun _ _ => types_nil _ _, fun _ _ => feats_nilH _ _⟩, hB⟩
    have hat2 := hs2' c71
    refine c_skip (e_S ?_)
    have or_hoA_bW := own_neC hoA hbW dE
    refine c_region (wmS rfl (wmI rfl ?_))
    refine wl_bs (cs := #[_]) [(0, .int _ _)] rfl U43 sz3_GLoose ze3_GUnr dE dE kR rfl (fun b77 w16 hb77 hs hr => ?_)
    have or_b2_b77 : b2 < b77 := nLL hb2.lt hr
    have or_b3_b77 : b3 < b77 := nLL hb3.lt hr
    have or_b4_b77 : b4 < b77 := nLL hb4.lt hr
    have or_bW_b77 : bW < b77 := nLL hbW.lt hr
    have or_hoT_b77 := (fun g hg => nLL (hoT.lt g hg).2 hr)
    have or_hoF_b77 := (fun g hg => nLL (hoF.lt g hg).2 hr)
    have or_hoA_b77 := (fun g hg => nLL (hoA.lt g hg).2 hr)
    have or_hzh_b77 := (nLT hzh hr)
    have lo77 := nLT (Bel.size hB) hr
    replace hB := hB.tr0 hs
    replace hb2 := hb2.tr0 hs
    replace hb3 := hb3.tr0 hs
    replace hb4 := hb4.tr0 hs
    replace hbW := hbW.tr0 hs
    replace hoT := hoT.tr0 hs
    replace hoF := hoF.tr0 hs
    replace hRw := hRw.tr hs (by simp)
    replace hoA := hoA.tr0 hs
    replace hzh := nLT hzh (Same.size hs)
    clear hs
    clear hr
    refine wl_app U43 in3 rfl dE hoA hb77 rfl rfl rfl oneA dE om om hzh (fun g78 cap78 w17 ho78 hs hg => ?_)
    have ne_ho78_b2 : g78 ≠ b2 := fun e => by
     have hl := hb2.lt
     rcases hg with hg | hg
     · have h1 := hoA.lt g78 (by rw [hg]; exact List.mem_singleton.2 rfl)
       (try have := or_hoA_b2 g78 (by rw [hg]; exact List.mem_singleton.2 rfl)); omega
     · omega
    have ne_ho78_b3 : g78 ≠ b3 := fun e => by
     have hl := hb3.lt
     rcases hg with hg | hg
     · have h1 := hoA.lt g78 (by rw [hg]; exact List.mem_singleton.2 rfl)
       (try have := or_hoA_b3 g78 (by rw [hg]; exact List.mem_singleton.2 rfl)); omega
     · omega
    have ne_ho78_b4 : g78 ≠ b4 := fun e => by
     have hl := hb4.lt
     rcases hg with hg | hg
     · have h1 := hoA.lt g78 (by rw [hg]; exact List.mem_singleton.2 rfl)
       (try have := or_hoA_b4 g78 (by rw [hg]; exact List.mem_singleton.2 rfl)); omega
     · omega
    have ne_ho78_bW : g78 ≠ bW := fun e => by
     have hl := hbW.lt
     rcases hg with hg | hg
     · have h1 := hoA.lt g78 (by rw [hg]; exact List.mem_singleton.2 rfl)
       (try have := or_hoA_bW g78 (by rw [hg]; exact List.mem_singleton.2 rfl)); omega
     · omega
    replace hB := hB.tr hs (fun g hg => nLT hwz (hoA.lt g hg).1)
    replace hb2 := hb2.tr hs (fun hx => by have := (hoA.lt _ hx).1; (try have := or_hoA_b2 _ hx); omega)
    replace hb3 := hb3.tr hs (fun hx => by have := (hoA.lt _ hx).1; (try have := or_hoA_b3 _ hx); omega)
    replace hb4 := hb4.tr hs (fun hx => by have := (hoA.lt _ hx).1; (try have := or_hoA_b4 _ hx); omega)
    replace hbW := hbW.tr hs (fun hx => by have := (hoA.lt _ hx).1; (try have := or_hoA_bW _ hx); omega)
    replace hoT := hoT.tr hs (own_ne hoT hoA dE)
    replace hoF := hoF.tr hs (own_ne hoF hoA dE)
    replace hRw := hRw.tr hs (fun g hg => by first | exact .inl (hoA.lt g hg).1 | (obtain ⟨cs, hc⟩ := (hoA).typ g hg; exact .inr ⟨cs, _, hc, by decide⟩))
    replace hzh := nLT hzh (Same.size hs)
    have hoA : Own w17 zlo 3 1 (some ⟨g78, 0, none⟩) (xs ++ [fnd lT (pc 32 (ls[k]'hlt) (2 + j))]).length cap78 (iV (xs ++ [fnd lT (pc 32 (ls[k]'hlt) (2 + j))])) := by
      have e1 : (xs ++ [fnd lT (pc 32 (ls[k]'hlt) (2 + j))]).length = xs.length + 1 := by rw [List.length_append]; rfl
      have e2 : iV (xs ++ [fnd lT (pc 32 (ls[k]'hlt) (2 + j))]) = iV xs ++ [.int .i64 (fnd lT (pc 32 (ls[k]'hlt) (2 + j)))] := by simp [iV]
      rw [e1, e2]
      exact ho78
    refine waS rfl (x_nil (e_B (e_S (c_region (wl (r_add rfl rfl rfl om) ?_)))))
    refine wmI rfl (x_nil (e_LS ((sp 32 (ls[k]'hlt)).length - 2 - (j + 1)) om agA ?_))
    exact ⟨j + 1, xs ++ [fnd lT (pc 32 (ls[k]'hlt) (2 + j))], _, _, by omega, rfl, rfl, by rw [List.length_append]; rfl, by rw [List.length_append, hxj]; rfl, hat2, hB, hb2, hb3, hb4, hoT, hoF, hRw, hbW, hoA, hzh⟩
   have hjx : j = (sp 32 (ls[k]'hlt)).length - 2 := by omega
   have hats : ats lT ((sp 32 (ls[k]'hlt)).drop 2) = some xs := by
     rw [hjx, List.take_of_length_le (by rw [List.length_drop]; exact Nat.le_refl _)] at hat
     exact hat
   refine c_exit (e_Sx (e_LSx (e_Bx (e_S (c_seq ?_)))))
   obtain ⟨z2, hz2e⟩ : ∃ z, z = w11.heap.size := ⟨_, rfl⟩
   have hz2 : z2 ≤ w11.heap.size := Nat.le_of_eq hz2e
   have hpr : PrIn w.heap.size z2 w11 A10 xs := by rw [hz2e]; exact (own_pr hoA).low hwz
   replace hRw : RowT w.heap.size z2 w11 lT vs := hRw.up (by rw [hz2e]; exact hzh)
   refine c_region (wmS rfl (wl (r_ia (i := 0) U83 sz9_HFnd rfl rfl om rfl) (wl (r_ld1 (v := .string _) U9 rfl rfl (hbW.cell (spR_get om))) (wl (r_eqlS rfl rfl) (x_nil ?_)))))
   refine e_S ?_
   refine c_ifd rfl (fun c83 => ?_) (fun c83 => ?_)
   ·
    have hst := stepL_ty hok hats c83
    have hR2 := hR.trans (rdL_next hlt hst)
    have zo := fun g hg => (hoT.lt g hg).2
    have or_hoT_b2 := own_neC hoT hb2 dE
    have or_hoT_b3 := own_neC hoT hb3 dE
    have or_hoT_b4 := own_neC hoT hb4 dE
    have or_hoT_bW := own_neC hoT hbW dE
    refine c_monoSO 10 [84, 85, 86, 87, 88, 89, 90, 91, 92, 93] (aL AT) 8 (fun ix v wv => match ix with | 0 => v = .pointer (some ⟨b4, 0, none⟩) | 1 => v = .slice AT lT.length cT | 2 => v = .slice (some ⟨bW, 0, none⟩) (sp 32 (ls[k]'hlt)).length (sp 32 (ls[k]'hlt)).length | 3 => v = .pointer (some ⟨bW, 0 + 1 * 1, none⟩) | 4 => v = .string (pc 32 (ls[k]'hlt) 1) | 5 => v = .slice A10 xs.length c10 | 6 => v = .agg #[.string (pc 32 (ls[k]'hlt) 1), .slice A10 xs.length c10] | 7 => ∃ b, v = .slice (some ⟨b, 0, none⟩) 1 1 ∧ w11.heap.size ≤ b ∧ Blk wv b 77 #[.string (pc 32 (ls[k]'hlt) 1), .slice A10 xs.length c10] | 8 => ∃ g cap, v = .slice (some ⟨g, 0, none⟩) (lT.length + 1) cap ∧ Own wv w.heap.size 77 2 (some ⟨g, 0, none⟩) (lT.length + 1) cap (vs ++ [.string (pc 32 (ls[k]'hlt) 1), .slice A10 xs.length c10]) | 9 => v = .pointer (some ⟨b4, 0, none⟩) | _ => True) (fun _ => True) kR kR ?_ (fun _ _ _ _ => trivial) ?_ ?_ dE ?_
    ·
     intro ix v wv wv2 h hs
     match ix, h with
     | 0, h => exact h
     | 1, h => exact h
     | 2, h => exact h
     | 3, h => exact h
     | 4, h => exact h
     | 5, h => exact h
     | 6, h => exact h
     | 7, h =>
      obtain ⟨b91, e91, lo91, hb91⟩ := (show ∃ b, v = .slice (some ⟨b, 0, none⟩) 1 1 ∧ w11.heap.size ≤ b ∧ Blk wv b 77 #[.string (pc 32 (ls[k]'hlt) 1), .slice A10 xs.length c10] from h)
      exact ⟨b91, e91, lo91, hb91.tr0 hs⟩
     | 8, h =>
      obtain ⟨g92, cap92, e92, ho92⟩ := (show ∃ g cap, v = .slice (some ⟨g, 0, none⟩) (lT.length + 1) cap ∧ Own wv w.heap.size 77 2 (some ⟨g, 0, none⟩) (lT.length + 1) cap (vs ++ [.string (pc 32 (ls[k]'hlt) 1), .slice A10 xs.length c10]) from h)
      exact ⟨g92, cap92, e92, ho92.tr0 hs⟩
     | 9, h => exact h
     | _ + 10, h => exact trivial
    ·
     intro ix o hix hne hoq gg wx hs hd
     match ix, hix, hne, hoq with
     | 0, _, _, hoq =>
      obtain rfl := sI hoq
      have hs0 := hs
      replace hb4 := hb4.tr hs (fun hx => by have := (hoT.lt _ hx).1; (try have := or_hoT_b4 _ hx); omega)
      refine os_rv (r_fa U25 sz22_GLoose dE rfl rfl rfl) ⟨Same.refl _ _, ?_⟩
      exact rfl
     | 1, _, _, hoq =>
      obtain rfl := sI hoq
      have hs0 := hs
      replace hb4 := hb4.tr hs (fun hx => by have := (hoT.lt _ hx).1; (try have := or_hoT_b4 _ hx); omega)
      have d0 : gg 84 = .pointer (some ⟨b4, 0, none⟩) := hd 0 (dep_of kR)
      have e84 := d0
      refine os_know 84 (.pointer (some ⟨b4, 0, none⟩)) e84 nu ?_
      refine os_rv (r_ld1 (v := .slice _ _ _) U22 rfl rfl (hb4.cell rfl)) ⟨Same.refl _ _, ?_⟩
      exact rfl
     | 2, _, _, hoq =>
      obtain rfl := sI hoq
      have hs0 := hs
      refine os_rv (r_mv (v := .slice _ _ _) rfl) ⟨Same.refl _ _, ?_⟩
      exact rfl
     | 3, _, _, hoq =>
      obtain rfl := sI hoq
      have hs0 := hs
      have d2 : gg 86 = .slice (some ⟨bW, 0, none⟩) (sp 32 (ls[k]'hlt)).length (sp 32 (ls[k]'hlt)).length := hd 2 (dep_of kR)
      have e86 := d2
      refine os_know 86 (.slice (some ⟨bW, 0, none⟩) (sp 32 (ls[k]'hlt)).length (sp 32 (ls[k]'hlt)).length) e86 nu ?_
      refine os_rv (r_ia (i := 1) U83 sz9_HFnd rfl rfl om rfl) ⟨Same.refl _ _, ?_⟩
      exact rfl
     | 4, _, _, hoq =>
      obtain rfl := sI hoq
      have hs0 := hs
      replace hbW := hbW.tr hs (fun hx => by have := (hoT.lt _ hx).1; (try have := or_hoT_bW _ hx); omega)
      have d3 : gg 87 = .pointer (some ⟨bW, 0 + 1 * 1, none⟩) := hd 3 (dep_of kR)
      have e87 := d3
      refine os_know 87 (.pointer (some ⟨bW, 0 + 1 * 1, none⟩)) e87 nu ?_
      refine os_rv (r_ld1 (v := .string _) U9 rfl rfl (hbW.cell (spR_get om))) ⟨Same.refl _ _, ?_⟩
      exact rfl
     | 5, _, _, hoq =>
      obtain rfl := sI hoq
      have hs0 := hs
      refine os_rv (r_mv (v := .slice _ _ _) rfl) ⟨Same.refl _ _, ?_⟩
      exact rfl
     | 6, _, _, hoq =>
      obtain rfl := sI hoq
      have hs0 := hs
      have d4 : gg 88 = .string (pc 32 (ls[k]'hlt) 1) := hd 4 (dep_of kR)
      have e88 := d4
      have d5 : gg 89 = .slice A10 xs.length c10 := hd 5 (dep_of kR)
      have e89 := d5
      refine os_know 88 (.string (pc 32 (ls[k]'hlt) 1)) e88 nu (os_know 89 (.slice A10 xs.length c10) e89 nu ?_)
      refine os_rv (r_bd2 (v0 := .string _) (v1 := .slice _ _ _) (fun v0 v1 => #[v0, v1]) rfl rfl kR) ⟨Same.refl _ _, ?_⟩
      exact rfl
     | 7, _, _, hoq =>
      obtain rfl := sI hoq
      have hs0 := hs
      have d6 : gg 90 = .agg #[.string (pc 32 (ls[k]'hlt) 1), .slice A10 xs.length c10] := hd 6 (dep_of kR)
      have e90 := d6
      refine os_know 90 (.agg #[.string (pc 32 (ls[k]'hlt) 1), .slice A10 xs.length c10]) e90 nu ?_
      refine os_wl (fun ops Q K => ?_)
      refine wl_bs (cs := #[_, _]) [(0, .agg _)] rfl U22 sz77_HFnd ze77_HRd dE dE kR rfl (fun b91 w18 hb91 hs hr => ?_)
      exact K _ _ ⟨hs, ⟨_, rfl, nLT hs0.size hr, hb91⟩⟩
     | 8, _, hne, _ => exact absurd rfl hne
     | 9, _, _, hoq =>
      obtain rfl := sI hoq
      have hs0 := hs
      replace hb4 := hb4.tr hs (fun hx => by have := (hoT.lt _ hx).1; (try have := or_hoT_b4 _ hx); omega)
      refine os_rv (r_fa U25 sz22_GLoose dE rfl rfl rfl) ⟨Same.refl _ _, ?_⟩
      exact rfl
     | _ + 10, hix, _, _ => exact absurd hix om
    ·
     intro o hoq gg wx hs hd
     obtain rfl := sI hoq
     have hs0 := hs
     replace hB := hB.tr0 hs
     replace hb2 := hb2.tr0 hs
     replace hb3 := hb3.tr0 hs
     replace hb4 := hb4.tr0 hs
     replace hbW := hbW.tr0 hs
     replace hoT := hoT.tr0 hs
     replace hoF := hoF.tr0 hs
     replace hRw := hRw.tr hs (by simp)
     replace hoA := hoA.tr0 hs
     replace hzh := nLT hzh (Same.size hs)
     replace hpr := hpr.tr hs (by simp)
     replace hz2 := nLT hz2 (Same.size hs)
     clear hs
     have d1 : gg 85 = .slice AT lT.length cT := hd 1 (dep_of kR)
     have e85 := d1
     have d7 : ∃ b, gg 91 = .slice (some ⟨b, 0, none⟩) 1 1 ∧ w11.heap.size ≤ b ∧ Blk wx b 77 #[.string (pc 32 (ls[k]'hlt) 1), .slice A10 xs.length c10] := hd 7 (dep_of kR)
     obtain ⟨b91, e91, lo91, hb91⟩ := d7
     refine os_know 85 (.slice AT lT.length cT) e85 nu (os_know 91 (.slice (some ⟨b91, 0, none⟩) 1 1) e91 nu ?_)
     refine os_wl (fun ops Q K => ?_)
     refine wl_app U22 in77 rfl dE hoT hb91 rfl rfl rfl oneA dE om om (Bel.size hB) (fun g92 cap92 w2 ho92 hs2 hg92 => ?_)
     refine K _ _ ⟨hs2, ⟨_, _, rfl, ho92⟩, trivial, fun kx v hne h => ?_⟩
     match kx, hne, h with
     | 0, _, h => exact h
     | 1, _, h => exact h
     | 2, _, h => exact h
     | 3, _, h => exact h
     | 4, _, h => exact h
     | 5, _, h => exact h
     | 6, _, h => exact h
     | 7, _, h =>
      obtain ⟨b91, e91, lo91, hb91⟩ := (show ∃ b, v = .slice (some ⟨b, 0, none⟩) 1 1 ∧ w11.heap.size ≤ b ∧ Blk wx b 77 #[.string (pc 32 (ls[k]'hlt) 1), .slice A10 xs.length c10] from h)
      exact ⟨b91, e91, lo91, hb91.tr hs2 (fun hx => by have := zo _ hx; omega)⟩
     | 8, hne, _ => exact absurd rfl hne
     | 9, _, h => exact h
     | _ + 10, _, _ => exact trivial
    intro gg w19 hs _ hR
    have hs0 := hs
    replace hB := hB.tr hs (fun g hg => nLT (Nat.le_refl _) (hoT.lt g hg).1)
    replace hb2 := hb2.tr hs (fun hx => by have := (hoT.lt _ hx).1; (try have := or_hoT_b2 _ hx); omega)
    replace hb3 := hb3.tr hs (fun hx => by have := (hoT.lt _ hx).1; (try have := or_hoT_b3 _ hx); omega)
    replace hb4 := hb4.tr hs (fun hx => by have := (hoT.lt _ hx).1; (try have := or_hoT_b4 _ hx); omega)
    replace hbW := hbW.tr hs (fun hx => by have := (hoT.lt _ hx).1; (try have := or_hoT_bW _ hx); omega)
    replace hoF := hoF.tr hs (own_ne hoF hoT dE)
    replace hRw := hRw.tr hs (fun g hg => by first | exact .inl (hoT.lt g hg).1 | (obtain ⟨cs, hc⟩ := (hoT).typ g hg; exact .inr ⟨cs, _, hc, by decide⟩))
    replace hoA := hoA.tr hs (own_ne hoA hoT dE)
    replace hzh := nLT hzh (Same.size hs)
    replace hpr := hpr.tr hs (fun g hg => by first | exact .inl (hoT.lt g hg).1 | (obtain ⟨cs, hc⟩ := (hoT).typ g hg; exact .inr ⟨cs, _, hc, by decide⟩))
    replace hz2 := nLT hz2 (Same.size hs)
    have d8 : ∃ g cap, gg 92 = .slice (some ⟨g, 0, none⟩) (lT.length + 1) cap ∧ Own w19 w.heap.size 77 2 (some ⟨g, 0, none⟩) (lT.length + 1) cap (vs ++ [.string (pc 32 (ls[k]'hlt) 1), .slice A10 xs.length c10]) := hR 8 dE
    obtain ⟨g92, cap92, e92, ho92⟩ := d8
    have d9 : gg 93 = .pointer (some ⟨b4, 0, none⟩) := hR 9 dE
    have e93 := d9
    have e1 : (lT ++ [(⟨pc 32 (ls[k]'hlt) 1, xs⟩ : Ty)]).length = lT.length + 1 := by rw [List.length_append]; rfl
    rw [← e1] at ho92
    have hoT := ho92
    replace hRw := hRw.snoc (s := pc 32 (ls[k]'hlt) 1) (c := c10) hpr
    refine wl_know 92 (.slice (some ⟨g92, 0, none⟩) (lT.length + 1) cap92) e92 nu (wl_know 93 (.pointer (some ⟨b4, 0, none⟩)) e93 nu ?_)
    refine wl_st1 (v := .slice _ _ _) hb4 rfl rfl sz22_GLoose (by first | decide | simp) rfl rfl (fun w20 hq hs => ?_)
    replace hB := hB.tr1 hs lo4
    replace hb2 := hb2.tr1 hs om
    replace hb3 := hb3.tr1 hs om
    replace hbW := hbW.tr1 hs om
    replace hoF := hoF.tr1 hs (own_neC hoF hb4 dE)
    replace hRw := hRw.tr hs (fun g hg => by rw [List.mem_singleton.1 hg]; exact .inr ⟨_, _, hb4, by decide⟩)
    replace hoA := hoA.tr1 hs (own_neC hoA hb4 dE)
    replace hzh := nLT hzh (Same.size hs)
    replace hpr := hpr.tr hs (fun g hg => by rw [List.mem_singleton.1 hg]; exact .inr ⟨_, _, hb4, by decide⟩)
    replace hz2 := nLT hz2 (Same.size hs)
    replace hoT := hoT.tr1 hs (own_neC hoT hb4 dE)
    clear hs
    replace hb4 := hq
    refine x_nil (e_B (e_S (c_region (wl (r_add rfl rfl rfl om) (wmI rfl ?_)))))
    refine x_nil (e_LS (ls.length - (k + 1)) om agA ?_)
    first
      | exact ⟨k + 1, lT ++ [⟨pc 32 (ls[k]'hlt) 1, xs⟩], lF, _, _, _, _, _, by omega, rfl, rfl, by rw [List.length_append]; exact Nat.succ_le_succ hlT, by omega, hR2, hB, hb2, hb3, (by rw [e1]; exact hb4), hoT, hoF, hRw.up hz2⟩
      | exact ⟨k + 1, lT, lF ++ [⟨pc 32 (ls[k]'hlt) 1, xs.getD 0 0, xs.getD 1 0⟩], _, _, _, _, _, by omega, rfl, rfl, by omega, by rw [List.length_append]; exact Nat.succ_le_succ hlF, hR2, hB, hb2, hb3, (by rw [e1]; exact hb4), hoT, hoF, hRw.up hz2⟩
   have hst := stepL_ft hok hats c83
   have hR2 := hR.trans (rdL_next hlt hst)
   have hx2 : xs.length = 2 := by rw [ats_len hats, List.length_drop, okB_four hok c83]
   obtain ⟨gA, rfl⟩ := own_adI hoA om
   have zo := fun g hg => (hoF.lt g hg).2
   have or_hoF_b2 := own_neC hoF hb2 dE
   have or_hoF_b3 := own_neC hoF hb3 dE
   have or_hoF_b4 := own_neC hoF hb4 dE
   have or_hoF_bW := own_neC hoF hbW dE
   refine c_monoSO 15 [94, 95, 96, 97, 98, 99, 100, 101, 102, 103, 104, 105, 106, 107, 108] (aL AF) 13 (fun ix v wv => match ix with | 0 => v = .pointer (some ⟨b4, 1, none⟩) | 1 => v = .slice AF lF.length cF | 2 => v = .slice (some ⟨bW, 0, none⟩) (sp 32 (ls[k]'hlt)).length (sp 32 (ls[k]'hlt)).length | 3 => v = .pointer (some ⟨bW, 0 + 1 * 1, none⟩) | 4 => v = .string (pc 32 (ls[k]'hlt) 1) | 5 => v = .slice (some ⟨gA, 0, none⟩) xs.length c10 | 6 => v = .pointer (some ⟨gA, 0 + 0 * 1, none⟩) | 7 => v = .int .i64 (xs.getD 0 0) | 8 => v = .slice (some ⟨gA, 0, none⟩) xs.length c10 | 9 => v = .pointer (some ⟨gA, 0 + 1 * 1, none⟩) | 10 => v = .int .i64 (xs.getD 1 0) | 11 => v = .agg #[.string (pc 32 (ls[k]'hlt) 1), .int .i64 (xs.getD 0 0), .int .i64 (xs.getD 1 0)] | 12 => ∃ b, v = .slice (some ⟨b, 0, none⟩) 1 1 ∧ w11.heap.size ≤ b ∧ Blk wv b 63 #[.string (pc 32 (ls[k]'hlt) 1), .int .i64 (xs.getD 0 0), .int .i64 (xs.getD 1 0)] | 13 => ∃ g cap, v = .slice (some ⟨g, 0, none⟩) (lF.length + 1) cap ∧ Own wv w.heap.size 63 3 (some ⟨g, 0, none⟩) (lF.length + 1) cap (ftV lF ++ [.string (pc 32 (ls[k]'hlt) 1), .int .i64 (xs.getD 0 0), .int .i64 (xs.getD 1 0)]) | 14 => v = .pointer (some ⟨b4, 1, none⟩) | _ => True) (fun _ => True) kR kR ?_ (fun _ _ _ _ => trivial) ?_ ?_ dE ?_
   ·
    intro ix v wv wv2 h hs
    match ix, h with
    | 0, h => exact h
    | 1, h => exact h
    | 2, h => exact h
    | 3, h => exact h
    | 4, h => exact h
    | 5, h => exact h
    | 6, h => exact h
    | 7, h => exact h
    | 8, h => exact h
    | 9, h => exact h
    | 10, h => exact h
    | 11, h => exact h
    | 12, h =>
     obtain ⟨b106, e106, lo106, hb106⟩ := (show ∃ b, v = .slice (some ⟨b, 0, none⟩) 1 1 ∧ w11.heap.size ≤ b ∧ Blk wv b 63 #[.string (pc 32 (ls[k]'hlt) 1), .int .i64 (xs.getD 0 0), .int .i64 (xs.getD 1 0)] from h)
     exact ⟨b106, e106, lo106, hb106.tr0 hs⟩
    | 13, h =>
     obtain ⟨g107, cap107, e107, ho107⟩ := (show ∃ g cap, v = .slice (some ⟨g, 0, none⟩) (lF.length + 1) cap ∧ Own wv w.heap.size 63 3 (some ⟨g, 0, none⟩) (lF.length + 1) cap (ftV lF ++ [.string (pc 32 (ls[k]'hlt) 1), .int .i64 (xs.getD 0 0), .int .i64 (xs.getD 1 0)]) from h)
     exact ⟨g107, cap107, e107, ho107.tr0 hs⟩
    | 14, h => exact h
    | _ + 15, h => exact trivial
   ·
    intro ix o hix hne hoq gg wx hs hd
    match ix, hix, hne, hoq with
    | 0, _, _, hoq =>
     obtain rfl := sI hoq
     have hs0 := hs
     replace hb4 := hb4.tr hs (fun hx => by have := (hoF.lt _ hx).1; (try have := or_hoF_b4 _ hx); omega)
     refine os_rv (r_fa U25 sz23_GLoose dE rfl rfl rfl) ⟨Same.refl _ _, ?_⟩
     exact rfl
    | 1, _, _, hoq =>
     obtain rfl := sI hoq
     have hs0 := hs
     replace hb4 := hb4.tr hs (fun hx => by have := (hoF.lt _ hx).1; (try have := or_hoF_b4 _ hx); omega)
     have d0 : gg 94 = .pointer (some ⟨b4, 1, none⟩) := hd 0 (dep_of kR)
     have e94 := d0
     refine os_know 94 (.pointer (some ⟨b4, 1, none⟩)) e94 nu ?_
     refine os_rv (r_ld1 (v := .slice _ _ _) U23 rfl rfl (hb4.cell rfl)) ⟨Same.refl _ _, ?_⟩
     exact rfl
    | 2, _, _, hoq =>
     obtain rfl := sI hoq
     have hs0 := hs
     refine os_rv (r_mv (v := .slice _ _ _) rfl) ⟨Same.refl _ _, ?_⟩
     exact rfl
    | 3, _, _, hoq =>
     obtain rfl := sI hoq
     have hs0 := hs
     have d2 : gg 96 = .slice (some ⟨bW, 0, none⟩) (sp 32 (ls[k]'hlt)).length (sp 32 (ls[k]'hlt)).length := hd 2 (dep_of kR)
     have e96 := d2
     refine os_know 96 (.slice (some ⟨bW, 0, none⟩) (sp 32 (ls[k]'hlt)).length (sp 32 (ls[k]'hlt)).length) e96 nu ?_
     refine os_rv (r_ia (i := 1) U83 sz9_HFnd rfl rfl om rfl) ⟨Same.refl _ _, ?_⟩
     exact rfl
    | 4, _, _, hoq =>
     obtain rfl := sI hoq
     have hs0 := hs
     replace hbW := hbW.tr hs (fun hx => by have := (hoF.lt _ hx).1; (try have := or_hoF_bW _ hx); omega)
     have d3 : gg 97 = .pointer (some ⟨bW, 0 + 1 * 1, none⟩) := hd 3 (dep_of kR)
     have e97 := d3
     refine os_know 97 (.pointer (some ⟨bW, 0 + 1 * 1, none⟩)) e97 nu ?_
     refine os_rv (r_ld1 (v := .string _) U9 rfl rfl (hbW.cell (spR_get om))) ⟨Same.refl _ _, ?_⟩
     exact rfl
    | 5, _, _, hoq =>
     obtain rfl := sI hoq
     have hs0 := hs
     refine os_rv (r_mv (v := .slice _ _ _) rfl) ⟨Same.refl _ _, ?_⟩
     exact rfl
    | 6, _, _, hoq =>
     obtain rfl := sI hoq
     have hs0 := hs
     have d5 : gg 99 = .slice (some ⟨gA, 0, none⟩) xs.length c10 := hd 5 (dep_of kR)
     have e99 := d5
     refine os_know 99 (.slice (some ⟨gA, 0, none⟩) xs.length c10) e99 nu ?_
     refine os_rv (r_ia (i := 0) U43 sz3_GLoose rfl rfl om rfl) ⟨Same.refl _ _, ?_⟩
     exact rfl
    | 7, _, _, hoq =>
     obtain rfl := sI hoq
     have hs0 := hs
     replace hoA := hoA.tr hs (own_ne hoA hoF dE)
     have d6 : gg 100 = .pointer (some ⟨gA, 0 + 0 * 1, none⟩) := hd 6 (dep_of kR)
     have e100 := d6
     refine os_know 100 (.pointer (some ⟨gA, 0 + 0 * 1, none⟩)) e100 nu ?_
     refine os_rv (r_ld1 (v := .int _ _) U3 rfl rfl (own_cellI hoA om)) ⟨Same.refl _ _, ?_⟩
     exact rfl
    | 8, _, _, hoq =>
     obtain rfl := sI hoq
     have hs0 := hs
     refine os_rv (r_mv (v := .slice _ _ _) rfl) ⟨Same.refl _ _, ?_⟩
     exact rfl
    | 9, _, _, hoq =>
     obtain rfl := sI hoq
     have hs0 := hs
     have d8 : gg 102 = .slice (some ⟨gA, 0, none⟩) xs.length c10 := hd 8 (dep_of kR)
     have e102 := d8
     refine os_know 102 (.slice (some ⟨gA, 0, none⟩) xs.length c10) e102 nu ?_
     refine os_rv (r_ia (i := 1) U43 sz3_GLoose rfl rfl om rfl) ⟨Same.refl _ _, ?_⟩
     exact rfl
    | 10, _, _, hoq =>
     obtain rfl := sI hoq
     have hs0 := hs
     replace hoA := hoA.tr hs (own_ne hoA hoF dE)
     have d9 : gg 103 = .pointer (some ⟨gA, 0 + 1 * 1, none⟩) := hd 9 (dep_of kR)
     have e103 := d9
     refine os_know 103 (.pointer (some ⟨gA, 0 + 1 * 1, none⟩)) e103 nu ?_
     refine os_rv (r_ld1 (v := .int _ _) U3 rfl rfl (own_cellI hoA om)) ⟨Same.refl _ _, ?_⟩
     exact rfl
    | 11, _, _, hoq =>
     obtain rfl := sI hoq
     have hs0 := hs
     have d4 : gg 98 = .string (pc 32 (ls[k]'hlt) 1) := hd 4 (dep_of kR)
     have e98 := d4
     have d7 : gg 101 = .int .i64 (xs.getD 0 0) := hd 7 (dep_of kR)
     have e101 := d7
     have d10 : gg 104 = .int .i64 (xs.getD 1 0) := hd 10 (dep_of kR)
     have e104 := d10
     refine os_know 98 (.string (pc 32 (ls[k]'hlt) 1)) e98 nu (os_know 101 (.int .i64 (xs.getD 0 0)) e101 nu (os_know 104 (.int .i64 (xs.getD 1 0)) e104 nu ?_))
     refine os_rv (r_bd3 (v0 := .string _) (v1 := .int _ _) (v2 := .int _ _) (fun v0 v1 v2 => #[v0, v1, v2]) rfl rfl rfl kR) ⟨Same.refl _ _, ?_⟩
     exact rfl
    | 12, _, _, hoq =>
     obtain rfl := sI hoq
     have hs0 := hs
     have d11 : gg 105 = .agg #[.string (pc 32 (ls[k]'hlt) 1), .int .i64 (xs.getD 0 0), .int .i64 (xs.getD 1 0)] := hd 11 (dep_of kR)
     have e105 := d11
     refine os_know 105 (.agg #[.string (pc 32 (ls[k]'hlt) 1), .int .i64 (xs.getD 0 0), .int .i64 (xs.getD 1 0)]) e105 nu ?_
     refine os_wl (fun ops Q K => ?_)
     refine wl_bs (cs := #[_, _, _]) [(0, .agg _)] rfl U23 sz63_GVal ze63_GVal dE dE kR rfl (fun b106 w21 hb106 hs hr => ?_)
     exact K _ _ ⟨hs, ⟨_, rfl, nLT hs0.size hr, hb106⟩⟩
    | 13, _, hne, _ => exact absurd rfl hne
    | 14, _, _, hoq =>
     obtain rfl := sI hoq
     have hs0 := hs
     replace hb4 := hb4.tr hs (fun hx => by have := (hoF.lt _ hx).1; (try have := or_hoF_b4 _ hx); omega)
     refine os_rv (r_fa U25 sz23_GLoose dE rfl rfl rfl) ⟨Same.refl _ _, ?_⟩
     exact rfl
    | _ + 15, hix, _, _ => exact absurd hix om
   ·
    intro o hoq gg wx hs hd
    obtain rfl := sI hoq
    have hs0 := hs
    replace hB := hB.tr0 hs
    replace hb2 := hb2.tr0 hs
    replace hb3 := hb3.tr0 hs
    replace hb4 := hb4.tr0 hs
    replace hbW := hbW.tr0 hs
    replace hoT := hoT.tr0 hs
    replace hoF := hoF.tr0 hs
    replace hRw := hRw.tr hs (by simp)
    replace hoA := hoA.tr0 hs
    replace hzh := nLT hzh (Same.size hs)
    replace hpr := hpr.tr hs (by simp)
    replace hz2 := nLT hz2 (Same.size hs)
    clear hs
    have d1 : gg 95 = .slice AF lF.length cF := hd 1 (dep_of kR)
    have e95 := d1
    have d12 : ∃ b, gg 106 = .slice (some ⟨b, 0, none⟩) 1 1 ∧ w11.heap.size ≤ b ∧ Blk wx b 63 #[.string (pc 32 (ls[k]'hlt) 1), .int .i64 (xs.getD 0 0), .int .i64 (xs.getD 1 0)] := hd 12 (dep_of kR)
    obtain ⟨b106, e106, lo106, hb106⟩ := d12
    refine os_know 95 (.slice AF lF.length cF) e95 nu (os_know 106 (.slice (some ⟨b106, 0, none⟩) 1 1) e106 nu ?_)
    refine os_wl (fun ops Q K => ?_)
    refine wl_app U23 in63 rfl dE hoF hb106 rfl rfl rfl oneA dE om om (Bel.size hB) (fun g107 cap107 w2 ho107 hs2 hg107 => ?_)
    refine K _ _ ⟨hs2, ⟨_, _, rfl, ho107⟩, trivial, fun kx v hne h => ?_⟩
    match kx, hne, h with
    | 0, _, h => exact h
    | 1, _, h => exact h
    | 2, _, h => exact h
    | 3, _, h => exact h
    | 4, _, h => exact h
    | 5, _, h => exact h
    | 6, _, h => exact h
    | 7, _, h => exact h
    | 8, _, h => exact h
    | 9, _, h => exact h
    | 10, _, h => exact h
    | 11, _, h => exact h
    | 12, _, h =>
     obtain ⟨b106, e106, lo106, hb106⟩ := (show ∃ b, v = .slice (some ⟨b, 0, none⟩) 1 1 ∧ w11.heap.size ≤ b ∧ Blk wx b 63 #[.string (pc 32 (ls[k]'hlt) 1), .int .i64 (xs.getD 0 0), .int .i64 (xs.getD 1 0)] from h)
     exact ⟨b106, e106, lo106, hb106.tr hs2 (fun hx => by have := zo _ hx; omega)⟩
    | 13, hne, _ => exact absurd rfl hne
    | 14, _, h => exact h
    | _ + 15, _, _ => exact trivial
   intro gg w22 hs _ hR
   have hs0 := hs
   replace hB := hB.tr hs (fun g hg => nLT (Nat.le_refl _) (hoF.lt g hg).1)
   replace hb2 := hb2.tr hs (fun hx => by have := (hoF.lt _ hx).1; (try have := or_hoF_b2 _ hx); omega)
   replace hb3 := hb3.tr hs (fun hx => by have := (hoF.lt _ hx).1; (try have := or_hoF_b3 _ hx); omega)
   replace hb4 := hb4.tr hs (fun hx => by have := (hoF.lt _ hx).1; (try have := or_hoF_b4 _ hx); omega)
   replace hbW := hbW.tr hs (fun hx => by have := (hoF.lt _ hx).1; (try have := or_hoF_bW _ hx); omega)
   replace hoT := hoT.tr hs (own_ne hoT hoF dE)
   replace hRw := hRw.tr hs (fun g hg => by first | exact .inl (hoF.lt g hg).1 | (obtain ⟨cs, hc⟩ := (hoF).typ g hg; exact .inr ⟨cs, _, hc, by decide⟩))
   replace hoA := hoA.tr hs (own_ne hoA hoF dE)
   replace hzh := nLT hzh (Same.size hs)
   replace hpr := hpr.tr hs (fun g hg => by first | exact .inl (hoF.lt g hg).1 | (obtain ⟨cs, hc⟩ := (hoF).typ g hg; exact .inr ⟨cs, _, hc, by decide⟩))
   replace hz2 := nLT hz2 (Same.size hs)
   have d13 : ∃ g cap, gg 107 = .slice (some ⟨g, 0, none⟩) (lF.length + 1) cap ∧ Own w22 w.heap.size 63 3 (some ⟨g, 0, none⟩) (lF.length + 1) cap (ftV lF ++ [.string (pc 32 (ls[k]'hlt) 1), .int .i64 (xs.getD 0 0), .int .i64 (xs.getD 1 0)]) := hR 13 dE
   obtain ⟨g107, cap107, e107, ho107⟩ := d13
   have d14 : gg 108 = .pointer (some ⟨b4, 1, none⟩) := hR 14 dE
   have e108 := d14
   have e1 : (lF ++ [(⟨pc 32 (ls[k]'hlt) 1, xs.getD 0 0, xs.getD 1 0⟩ : Ft)]).length = lF.length + 1 := by rw [List.length_append]; rfl
   rw [← e1] at ho107
   have e3 := ftV_snoc lF ⟨pc 32 (ls[k]'hlt) 1, xs.getD 0 0, xs.getD 1 0⟩
   simp only at e3
   rw [← e3] at ho107
   have hoF := ho107
   refine wl_know 107 (.slice (some ⟨g107, 0, none⟩) (lF.length + 1) cap107) e107 nu (wl_know 108 (.pointer (some ⟨b4, 1, none⟩)) e108 nu ?_)
   refine wl_st1 (v := .slice _ _ _) hb4 rfl rfl sz23_GLoose (by first | decide | simp) rfl rfl (fun w23 hq hs => ?_)
   replace hB := hB.tr1 hs lo4
   replace hb2 := hb2.tr1 hs om
   replace hb3 := hb3.tr1 hs om
   replace hbW := hbW.tr1 hs om
   replace hoT := hoT.tr1 hs (own_neC hoT hb4 dE)
   replace hRw := hRw.tr hs (fun g hg => by rw [List.mem_singleton.1 hg]; exact .inr ⟨_, _, hb4, by decide⟩)
   replace hoA := hoA.tr1 hs (own_neC hoA hb4 dE)
   replace hzh := nLT hzh (Same.size hs)
   replace hpr := hpr.tr hs (fun g hg => by rw [List.mem_singleton.1 hg]; exact .inr ⟨_, _, hb4, by decide⟩)
   replace hz2 := nLT hz2 (Same.size hs)
   replace hoF := hoF.tr1 hs (own_neC hoF hb4 dE)
   clear hs
   replace hb4 := hq
   refine x_nil (e_B (e_S (c_region (wl (r_add rfl rfl rfl om) (wmI rfl ?_)))))
   refine x_nil (e_LS (ls.length - (k + 1)) om agA ?_)
   first
     | exact ⟨k + 1, lT ++ [⟨pc 32 (ls[k]'hlt) 1, xs⟩], lF, _, _, _, _, _, by omega, rfl, rfl, by rw [List.length_append]; exact Nat.succ_le_succ hlT, by omega, hR2, hB, hb2, hb3, (by rw [e1]; exact hb4), hoT, hoF, hRw.up hz2⟩
     | exact ⟨k + 1, lT, lF ++ [⟨pc 32 (ls[k]'hlt) 1, xs.getD 0 0, xs.getD 1 0⟩], _, _, _, _, _, by omega, rfl, rfl, by omega, by rw [List.length_append]; exact Nat.succ_le_succ hlF, hR2, hB, hb2, hb3, (by rw [e1]; exact hb4), hoT, hoF, hRw.up hz2⟩
 have hfin := hR.trans (rdL_end om)
 refine c_exit (e_Sx (e_LSx (e_Bx (e_S (c_seq ?_)))))
 refine c_region (wl (r_ldS U25 rfl rfl hb4.range0 sz25) (wl (r_bd (vs := #[]) (cs := #[.int .i64 0, .int .i64 0]) (by simp) kR) ?_))
 refine wl_stW hb2 rfl rfl sz25 rfl oneA (fun w24 hq hs => ?_)
 replace hB := hB.tr1 hs lo2
 replace hb3 := hb3.tr1 hs om
 replace hb4 := hb4.tr1 hs om
 replace hoT := hoT.tr1 hs (own_neC hoT hb2 dE)
 replace hoF := hoF.tr1 hs (own_neC hoF hb2 dE)
 replace hRw := hRw.tr hs (fun g hg => by rw [List.mem_singleton.1 hg]; exact .inr ⟨_, _, hb2, by decide⟩)
 replace hzh := nLT hzh (Same.size hs)
 clear hs
 replace hb2 := hq
 refine wl_stW hb3 rfl rfl sz35_GLoose rfl oneA (fun w25 hq hs => ?_)
 replace hB := hB.tr1 hs lo3
 replace hb2 := hb2.tr1 hs om
 replace hb4 := hb4.tr1 hs om
 replace hoT := hoT.tr1 hs (own_neC hoT hb3 dE)
 replace hoF := hoF.tr1 hs (own_neC hoF hb3 dE)
 replace hRw := hRw.tr hs (fun g hg => by rw [List.mem_singleton.1 hg]; exact .inr ⟨_, _, hb3, by decide⟩)
 replace hzh := nLT hzh (Same.size hs)
 clear hs
 replace hb3 := hq
 refine x_nil (e_S (c_ret (fin2 (.inl rfl) rfl (rr_cell U25 rfl rfl hb2.range0 sz25) (rr_cell U35 rfl rfl hb3.range0 sz35_GLoose) ?_)))
 exact ⟨⟨AT, cT, AF, cF, lT, lF, (0, 0), hfin, rfl, hoT.cap_le, hoF.cap_le, fun w2 hf => types_own (hoT.fr (Nat.le_refl _) hf) (hRw.fr hf) rfl, fun w2 hf => feats_own (hoF.fr (Nat.le_refl _) hf) rfl⟩, hB⟩
end Go.Proofs.YtegngekpmpdngaaDoor
