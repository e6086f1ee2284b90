/- What these functions of the program compute, at every world: glosswright/glosswrightref4.AllPaths. What these functions of the program compute, at every world: glosswright/graph.Paths. -/
import Derived.Test.YtegngekpmpdngaaDoorU
import Derived.Test.YtegngekpmpdngaaDoorNPwk
namespace Go.Proofs.YtegngekpmpdngaaDoor
open Go.RowKit
theorem pthsN_len {g : List Nd} : ∀ {m a : Nat} {p : List Int}, p ∈ pthsN g m a → p.length ≤ m
  | 0, a, p, h => by rw [List.mem_singleton.1 h]; exact Nat.le_refl _
  | m + 1, a, p, h => by
    rw [pthsN_succ] at h
    rcases List.mem_cons.1 h with e | h
    · rw [e]; exact Nat.zero_le _
    · obtain ⟨x, _, h2⟩ := List.mem_flatMap.1 h
      obtain ⟨q, hq, rfl⟩ := List.mem_map.1 h2
      have := pthsN_len hq
      rw [List.length_cons]; omega
theorem pthsJ_pre (g : List Nd) (m a j : Nat) : ∃ s, pthsN g (m + 1) a = pthsJ g m a j ++ s := by
  refine ⟨((nd g a).ln.drop j).flatMap (fun x => (pthsN g m x.2.toNat).map (fun p => x.1 :: p)), ?_⟩
  rw [pthsN_succ]
  unfold pthsJ
  rw [List.cons_append, ← List.flatMap_append, List.take_append_drop]
theorem take_take_app {α : Type} (xs ys : List α) (n : Nat) : (xs ++ ys.take n).take n = (xs ++ ys).take n := by
  rw [List.take_append, List.take_append, List.take_take]
  congr 2
  omega
theorem sl_lenP {A : Option Addr} {m n cap : Nat} (h : n = m) : Value.slice A m cap = Value.slice A n cap := by rw [h]
theorem fn15 : callable Tryd.prog 15 = true := by kernel_rfl
set_option maxRecDepth 100000 in
set_option maxHeartbeats 4000000 in
theorem allp_step {G : Option Addr} {cg nf m : Nat} {gr : List Nd} {w : World} (hG : NodesIn w G gr) (hk : GOk2 nf gr) {a : Nat} (ha : a < gr.length) (hm : m ≤ 40) (IH : ∀ m1, m = m1 + 1 → ∀ (t : Nat) (w2 : World), t < gr.length → NodesIn w2 G gr → Calls Tryd.prog 15 #[.agg #[.slice G gr.length cg], .int .i64 (t : Nat), .int .i64 (((m1 + 1 : Nat) : Int) - 1)] w2 fun e w' => (∃ A X c, e = .returned (.slice A (List.length X) c) ∧ (∀ wz, FrSame w2.heap.size w' wz → MatIn wz A X) ∧ X = (pthsN gr m1 t).take 301) ∧ Bel w2 w') : Calls Tryd.prog 15 #[.agg #[.slice G gr.length cg], .int .i64 (a : Nat), .int .i64 ((m : Nat) : Int)] w fun e w' => (∃ A X c, e = .returned (.slice A (List.length X) c) ∧ (∀ wz, FrSame w.heap.size w' wz → MatIn wz A X) ∧ X = (pthsN gr m a).take 301) ∧ Bel w w' := by
 have hn6 := hk.le
 refine enter Tryd.func15 Tryd.ntmps15 rfl (Nat.le_of_ble_eq_true rfl) ?_
 have hB : Bel w w := Below.refl _ _
 refine c_seq (c_region ?_)
 refine wl_bx (v := .agg #[_]) (cs := #[_]) rfl rfl (fun b3 w1 hb3 hs hr => ?_)
 have lo3 := nLT (Bel.size hB) hr
 replace hB := hB.tr0 hs
 clear hs
 clear hr
 refine waS rfl (x_nil (e_S (c_seq (c_region ?_))))
 refine wl_bs (cs := #[_]) [(0, .slice _ _ _)] rfl U39 sz43_NPwk ze43_NPwk dE dE kR rfl (fun b12 w2 hb12 hs hr => ?_)
 have or_b3_b12 : b3 < b12 := nLL hb3.lt hr
 have lo12 := nLT (Bel.size hB) hr
 replace hB := hB.tr0 hs
 replace hb3 := hb3.tr0 hs
 clear hs
 clear hr
 refine waS rfl (x_nil (e_S (c_seq (c_seq ?_))))
 have ho : Own w2 w.heap.size 43 1 (some ⟨b12, 0, none⟩) ([[]] : List (List Int)).length 1 [.slice none 0 0] := own_blk hb12 lo12 rfl dE
 have hrw : RowsI w.heap.size w2 ([[]] : List (List Int)) [.slice none 0 0] := (RowsI.nil _ _).snoc (c := 0) (PthIn.nil _ _)
 have or_ho_b3 := own_neA ho hb3 dE
 refine c_region (wmI rfl (wl (r_eql rfl rfl) (x_nil (e_S ?_))))
 refine c_ifd rfl (fun c14 => ?_) (fun c14 => ?_)
 ·
  have hm0 : m = 0 := by omega
  subst hm0
  refine c_seq (c_region (wmS rfl (waS rfl (x_nil (e_S ?_)))))
  refine c_ret (e_Sr (fin1 (.inl rfl) rfl rfl ?_))
  exact ⟨⟨_, [[]], 1, rfl, fun w2 hf => out_mat (ho.fr (Nat.le_refl _) hf) (hrw.fr (Nat.le_refl _) hf) (by simp), rfl⟩, hB⟩
 obtain ⟨m1, rfl⟩ : ∃ m1, m = m1 + 1 := ⟨m - 1, by omega⟩
 refine c_skip (e_S (c_seq (c_seq ?_)))
 obtain ⟨nb, no, LA, lc, rfl, hnb, hnr, hln⟩ := hG.at_ hB ha
 have hmx := hln.1
 unfold maxI at hmx
 refine c_region (wl (r_fa U28 sz26 dE rfl rfl rfl) (wl (r_ld1 (v := .slice _ _ _) U26 rfl rfl (hb3.cell rfl)) (wmI rfl (wl (r_ia (i := a) U26 sz33 rfl rfl ha rfl) (wl (r_fa U33 sz31 dE rfl rfl rfl) ?_)))))
 refine wl (r_ld1 (v := .slice _ _ _) U31 rfl rfl (hnr 1 _ rfl)) (wl (r_len U31 rfl) (wmI rfl (x_nil (e_S (c_block ?_)))))
 refine c_loopS [7, 9, 11, 23, 24, 25, 26, 27, 28, 29, 30, 31, 32, 33, 34, 35, 36, 37, 38, 39, 40, 41, 42, 43, 44, 45, 46, 47, 48, 49, 50, 51, 52, 53] (fun m g w' => ∃ (j : Nat) (o : List (List Int)) (A : Option Addr) (c : Nat) (vs : List Value), j ≤ (gr[a]'ha).ln.length ∧ m = (gr[a]'ha).ln.length - j ∧ g 23 = .int .i64 j ∧ g 7 = .slice A o.length c ∧ o = (pthsJ gr m1 a j).take 301 ∧ Bel w w' ∧ Blk w' b3 28 #[.slice (some ⟨nb, no, none⟩) gr.length cg] ∧ Own w' w.heap.size 43 1 A (o).length c vs ∧ RowsI w.heap.size w' (o) vs) ((gr[a]'ha).ln.length) ?_ (fun m g5 w3 hI => ?_)
 ·
  exact ⟨0, [[]], _, _, _, Nat.zero_le _, rfl, rfl, rfl, rfl, hB, hb3, ho, hrw⟩
 obtain ⟨j, o, A, c, vs, hj, hmj, h23, h7, hoe, hB, hb3, ho, hrw⟩ := hI
 have hol : o.length ≤ 301 := by rw [hoe, List.length_take]; omega
 have or_ho_b3 := own_neA ho hb3 dE
 refine c_know 23 (.int .i64 j) h23 nu (c_know 7 (.slice A o.length c) h7 nu (c_seq (c_region (wl (r_lss rfl rfl) (x_nil ?_)))))
 refine e_S (c_seq ?_)
 refine c_ifd rfl (fun c24 => ?_) (fun c24 => ?_)
 ·
  have hjl : j < (gr[a]'ha).ln.length := by omega
  obtain ⟨lb, lof, rfl, hlb, hlr⟩ := hln.at_ hB hjl
  obtain ⟨t, ht, htl⟩ : ∃ t : Nat, ((gr[a]'ha).ln[j]'hjl).2 = (t : Int) ∧ t < gr.length := by
    have h1 := hk.ln a ha _ (List.getElem_mem hjl)
    exact ⟨(((gr[a]'ha).ln[j]'hjl).2).toNat, by omega, by omega⟩
  have hjn : j < (nd gr a).ln.length := by rw [nd_eq ha]; exact hjl
  have hsj := pthsJ_succ (m := m1) hjn
  have hlx : ((nd gr a).ln[j]'hjn) = ((gr[a]'ha).ln[j]'hjl) := by simp only [nd_eq ha]
  rw [hlx, ht, Int.toNat_natCast] at hsj
  refine c_skip (e_S (c_seq (c_block (c_seq (c_region ?_)))))
  refine wl (r_ia (i := j) U31 sz30 rfl rfl om rfl) (wl (r_ldS U30 rfl rfl hlr sz30) ?_)
  refine wl_al (cs := #[.int .i64 0, .int .i64 0]) ze30 rfl (fun b9 w4 hb9 hs hr => ?_)
  have or_b3_b9 : b3 < b9 := nLL hb3.lt hr
  have or_ho_b9 := (fun g hg => nLL (ho.lt g hg).2 hr)
  have lo9 := nLT (Bel.size hB) hr
  replace hB := hB.tr0 hs
  replace hb3 := hb3.tr0 hs
  replace ho := ho.tr0 hs
  replace hrw := hrw.tr hs (by simp)
  clear hs
  clear hr
  refine wl_stW hb9 rfl rfl sz30 rfl oneA (fun w5 hq hs => ?_)
  replace hB := hB.tr1 hs lo9
  replace hb3 := hb3.tr1 hs om
  replace ho := ho.tr1 hs (fun g hg => own_neA ho hb9 dE g hg)
  replace hrw := hrw.tr hs (fun g hg => by rw [List.mem_singleton.1 hg]; exact ⟨_, _, hb9, by decide⟩)
  clear hs
  replace hb9 := hq
  refine x_nil (e_S (c_seq (c_seq (c_region (wmS rfl ?_)))))
  refine wl (r_len U39 rfl) (wl (r_gtr rfl rfl) (x_nil (e_S ?_)))
  refine c_ifd rfl (fun c29 => ?_) (fun c29 => ?_)
  ·
   have hfull : o = (pthsN gr (m1 + 1) a).take 301 := by
     obtain ⟨s, hs⟩ := pthsJ_pre gr m1 a j
     rw [hs, take_fullP (by have h := congrArg List.length hoe; rw [List.length_take] at h; omega)]
     exact hoe
   refine c_exit (e_Sx (e_Bo rfl (e_Sx (e_LSx (e_Bx ?_)))))
   refine e_S (c_seq (c_region (wmS rfl (waS rfl (x_nil ?_)))))
   refine e_S (c_ret (fin1 (.inl rfl) rfl rfl ?_))
   exact ⟨⟨A, o, c, rfl, fun w2 hf => out_mat (ho.fr (Nat.le_refl _) hf) (hrw.fr (Nat.le_refl _) hf) om, hfull⟩, hB⟩
  refine c_skip (e_S (c_seq ?_))
  rw [ht] at hb9
  refine c_region (wl (r_ldS U28 rfl rfl hb3.range0 sz28) (wl (r_fa U30 sz3_GLoose dE rfl rfl rfl) (wl (r_ld1 (v := .int _ _) U3 rfl rfl (hb9.cell rfl)) (wmI rfl (wl (r_sub rfl rfl rfl om) ?_)))))
  have zq9 := hb9.lt
  have zq3 := hb3.lt
  have zqo := fun g hg => (ho.lt g hg).2
  refine wl_cl fn15 (IH m1 rfl t _ htl (hG.mono hB)) rfl (fun e' w6 hr => ?_)
  obtain ⟨⟨AX, X, cX, rfl, hMX, hXe⟩, hs⟩ := hr
  replace hs := Same.of_bel hs
  replace hB := hB.tr0 hs
  replace hb3 := hb3.tr0 hs
  replace ho := ho.tr0 hs
  replace hrw := hrw.tr hs (by simp)
  replace hb9 := hb9.tr0 hs
  clear hs
  obtain ⟨wX, hwX⟩ : ∃ z, z = w6 := ⟨_, rfl⟩
  obtain ⟨ZX, hZX⟩ : ∃ z, z = (w5).heap.size := ⟨_, rfl⟩
  rw [← hZX] at hMX zq9 zq3 zqo
  have hFX : FrSame ZX wX w6 := by rw [hwX]; exact FrSame.refl _ _
  rw [← hwX] at hMX
  have hoz : ∀ g ∈ aL A, g < ZX ∨ wX.heap.size ≤ g := fun g hg => .inl (zqo g hg)
  have hXl : X.length ≤ 301 := by rw [hXe, List.length_take]; omega
  have hXr : ∀ q ∈ X, q.length ≤ m1 := fun q hq => by rw [hXe] at hq; exact pthsN_len (List.mem_of_mem_take hq)
  have hst : o = (pthsJ gr m1 a j ++ (X.map (fun q => ((gr[a]'ha).ln[j]'hjl).1 :: q)).take 0).take 301 := by rw [List.take_zero, List.append_nil]; exact hoe
  refine ⟨_, rfl, ?_⟩
  refine wl (r_len U39 rfl) (wmI rfl (x_nil (e_S (c_block ?_))))
  refine c_loopS [7, 11, 37, 38, 39, 40, 41, 42, 43, 44, 45, 46, 47, 48, 49, 50, 51, 52] (fun m g w' => ∃ (k : Nat) (o2 : List (List Int)) (A2 : Option Addr) (c2 : Nat) (vs2 : List Value), k ≤ X.length ∧ m = X.length - k ∧ g 37 = .int .i64 k ∧ g 7 = .slice A2 o2.length c2 ∧ o2 = (pthsJ gr m1 a j ++ (X.map (fun q => ((gr[a]'ha).ln[j]'hjl).1 :: q)).take k).take 301 ∧ Bel w w' ∧ Blk w' b3 28 #[.slice (some ⟨nb, no, none⟩) gr.length cg] ∧ Own w' w.heap.size 43 1 A2 (o2).length c2 vs2 ∧ RowsI w.heap.size w' (o2) vs2 ∧ Blk w' b9 30 #[.int .i64 ((gr[a]'ha).ln[j]'hjl).1, .int .i64 ((t : Nat) : Int)] ∧ FrSame ZX wX w' ∧ (∀ g ∈ aL A2, g < ZX ∨ wX.heap.size ≤ g)) (X.length) ?_ (fun m g9 w7 hI => ?_)
  ·
   exact ⟨0, o, A, c, vs, Nat.zero_le _, rfl, rfl, rfl, hst, hB, hb3, ho, hrw, hb9, hFX, hoz⟩
  obtain ⟨k, o2, A2, c2, vs2, hkk, hmk, h37, h7, ho2e, hB, hb3, ho, hrw, hb9, hFX, hoz⟩ := hI
  have ho2l : o2.length ≤ 301 := by rw [ho2e, List.length_take]; omega
  refine c_know 37 (.int .i64 k) h37 nu (c_know 7 (.slice A2 o2.length c2) h7 nu (c_seq (c_region (wl (r_lss rfl rfl) (x_nil ?_)))))
  refine e_S (c_seq ?_)
  refine c_ifd rfl (fun c38 => ?_) (fun c38 => ?_)
  ·
   have hkl : k < X.length := by omega
   have hXk := hXr _ (List.getElem_mem hkl)
   have hky : k < (X.map (fun q => ((gr[a]'ha).ln[j]'hjl).1 :: q)).length := by rw [List.length_map]; exact hkl
   have hyk : (X.map (fun q => ((gr[a]'ha).ln[j]'hjl).1 :: q))[k]'hky = ((gr[a]'ha).ln[j]'hjl).1 :: X[k]'hkl := by simp
   obtain ⟨rb, ro, RA, rc, rfl, hrc, hri⟩ := (hMX _ hFX).at_ (Below.refl _ _ : Bel w7 w7) hkl
   refine c_skip (e_S (c_seq (c_block (c_seq (c_region ?_)))))
   refine wl (r_ia (i := k) U39 sz43_NPwk rfl rfl om rfl) (wl (r_ld1 (v := .slice _ _ _) U43 rfl rfl hrc) (waS rfl (x_nil (e_S (c_seq ?_)))))
   refine c_region (wmS rfl (wl (r_len U39 rfl) (wl (r_leq rfl rfl) (x_nil (e_S ?_)))))
   refine c_ifd rfl (fun c43 => ?_) (fun c43 => ?_)
   ·
    have hlt3 : o2.length < 301 := by omega
    have hpl : (pthsJ gr m1 a j ++ (X.map (fun q => ((gr[a]'ha).ln[j]'hjl).1 :: q)).take k).length < 301 := by
      have h := congrArg List.length ho2e
      rw [List.length_take] at h
      omega
    have ho3e : o2 ++ [((gr[a]'ha).ln[j]'hjl).1 :: X[k]'hkl] = (pthsJ gr m1 a j ++ (X.map (fun q => ((gr[a]'ha).ln[j]'hjl).1 :: q)).take (k + 1)).take 301 := by
      rw [take_snocP hky hpl, ← ho2e, hyk]
    have hal : (o2 ++ [((gr[a]'ha).ln[j]'hjl).1 :: X[k]'hkl]).length = o2.length + 1 := by simp
    have or_ho_b3 := own_neA ho hb3 dE
    have or_ho_b9 := own_neA ho hb9 dE
    refine c_region (wmS rfl (wl (r_fa U30 sz3_GLoose dE rfl rfl rfl) (wl (r_ld1 (v := .int _ _) U3 rfl rfl (hb9.cell rfl)) ?_)))
    refine wl_bs (cs := #[_]) [(0, .int _ _)] rfl U43 sz3_GLoose ze3_GUnr dE dE kR rfl (fun b47 w8 hb47 hs hr => ?_)
    have or_b3_b47 : b3 < b47 := nLL hb3.lt hr
    have or_b9_b47 : b9 < b47 := nLL hb9.lt hr
    have or_ho_b47 := (fun g hg => nLL (ho.lt g hg).2 hr)
    have or_hFX_b47 := (nLT hFX.size hr)
    have lo47 := nLT (Bel.size hB) hr
    replace hB := hB.tr0 hs
    replace hb3 := hb3.tr0 hs
    replace hb9 := hb9.tr0 hs
    replace ho := ho.tr0 hs
    replace hrw := hrw.tr hs (by simp)
    replace hFX := hFX.of hs (by simp)
    replace hri := hri.mono (Same.bel hs)
    clear hs
    clear hr
    refine wmS rfl ?_
    refine wl_appQ U43 in3 dE hb47 lo47 om hri rfl rfl (fun A49 c49 w9 hp49 hs => ?_)
    replace hB := hB.tr0 hs
    replace hb3 := hb3.tr0 hs
    replace hb9 := hb9.tr0 hs
    replace ho := ho.tr0 hs
    replace hrw := hrw.tr hs (by simp)
    replace hFX := hFX.of hs (by simp)
    replace hri := hri.mono (Same.bel hs)
    replace hb47 := hb47.tr0 hs
    clear hs
    have hFX0 := hFX.size
    refine wl_bs (cs := #[_]) [(0, .slice _ _ _)] rfl U39 sz43_NPwk ze43_NPwk dE dE kR rfl (fun b50 w10 hb50 hs hr => ?_)
    have or_b3_b50 : b3 < b50 := nLL hb3.lt hr
    have or_b9_b50 : b9 < b50 := nLL hb9.lt hr
    have or_ho_b50 := (fun g hg => nLL (ho.lt g hg).2 hr)
    have or_hFX_b50 := (nLT hFX.size hr)
    have lo50 := nLT (Bel.size hB) hr
    replace hB := hB.tr0 hs
    replace hb3 := hb3.tr0 hs
    replace hb9 := hb9.tr0 hs
    replace ho := ho.tr0 hs
    replace hrw := hrw.tr hs (by simp)
    replace hFX := hFX.of hs (by simp)
    replace hFX0 := nLT hFX0 (Same.size hs)
    replace hp49 := hp49.tr hs (by simp)
    clear hs
    clear hr
    refine wl_app U39 in43 rfl dE ho hb50 rfl rfl rfl rfl dE om om (Bel.size hB) (fun g51 cap51 w11 ho51 hs hg => ?_)
    have ne_ho51_b3 : g51 ≠ b3 := fun e => by
     have hl := hb3.lt
     rcases hg with hg | hg
     · have h1 := ho.lt g51 (by rw [hg]; exact List.mem_singleton.2 rfl)
       (try have := or_ho_b3 g51 (by rw [hg]; exact List.mem_singleton.2 rfl)); omega
     · omega
    have ne_ho51_b9 : g51 ≠ b9 := fun e => by
     have hl := hb9.lt
     rcases hg with hg | hg
     · have h1 := ho.lt g51 (by rw [hg]; exact List.mem_singleton.2 rfl)
       (try have := or_ho_b9 g51 (by rw [hg]; exact List.mem_singleton.2 rfl)); omega
     · omega
    replace hB := hB.tr hs (fun g hg => nLT (Nat.le_refl _) (ho.lt g hg).1)
    replace hb3 := hb3.tr hs (fun hx => by have := (ho.lt _ hx).1; (try have := or_ho_b3 _ hx); omega)
    replace hb9 := hb9.tr hs (fun hx => by have := (ho.lt _ hx).1; (try have := or_ho_b9 _ hx); omega)
    replace hrw := hrw.tr hs (fun g hg => by obtain ⟨cs, hc⟩ := (ho).typ g hg; exact ⟨cs, _, hc, by decide⟩)
    replace hFX := hFX.of hs hoz
    replace hFX0 := hFX0
    replace hp49 := hp49.tr hs (fun g hg => by obtain ⟨cs, hc⟩ := (ho).typ g hg; exact ⟨cs, _, hc, by decide⟩)
    have ho : Own w11 w.heap.size 43 1 (some ⟨g51, 0, none⟩) (o2 ++ [((gr[a]'ha).ln[j]'hjl).1 :: X[k]'hkl]).length cap51 (vs2 ++ [.slice A49 (((gr[a]'ha).ln[j]'hjl).1 :: X[k]'hkl).length c49]) := by rw [hal]; exact ho51
    have hoz2 : ∀ g ∈ aL (some (⟨g51, 0, none⟩ : Addr)), g < ZX ∨ wX.heap.size ≤ g := fun gz hz => by
      rw [List.mem_singleton.1 hz]
      rcases hg with h | h
      · exact hoz g51 (by rw [h]; exact List.mem_singleton.2 rfl)
      · exact .inr (nLT hFX0 h)
    replace hrw := hrw.snoc (c := c49) hp49
    refine waS rfl (x_nil (e_B (e_S (c_region (wl (r_add rfl rfl rfl om) ?_)))))
    refine wmI rfl (x_nil (e_LS (X.length - (k + 1)) om agA ?_))
    first
      | exact ⟨k + 1, o2 ++ [((gr[a]'ha).ln[j]'hjl).1 :: X[k]'hkl], _, _, _, by omega, rfl, rfl, sl_lenP hal, ho3e, hB, hb3, ho, hrw, hb9, hFX, hoz2⟩
      | exact ⟨k + 1, o2, A2, c2, vs2, by omega, rfl, rfl, rfl, ho3e, hB, hb3, ho, hrw, hb9, hFX, hoz⟩
   have ho3e : o2 = (pthsJ gr m1 a j ++ (X.map (fun q => ((gr[a]'ha).ln[j]'hjl).1 :: q)).take (k + 1)).take 301 := by
     have hlen : 301 ≤ (pthsJ gr m1 a j ++ (X.map (fun q => ((gr[a]'ha).ln[j]'hjl).1 :: q)).take k).length := by
       have h := congrArg List.length ho2e
       rw [List.length_take] at h
       omega
     have e1 : (X.map (fun q => ((gr[a]'ha).ln[j]'hjl).1 :: q)).take (k + 1) = (X.map (fun q => ((gr[a]'ha).ln[j]'hjl).1 :: q)).take k ++ [(X.map (fun q => ((gr[a]'ha).ln[j]'hjl).1 :: q))[k]'hky] := by rw [List.take_add_one, List.getElem?_eq_getElem hky]; rfl
     rw [e1, ← List.append_assoc, take_fullP hlen]
     exact ho2e
   refine c_skip (e_B (e_S (c_region (wl (r_add rfl rfl rfl om) (wmI rfl ?_)))))
   refine x_nil (e_LS (X.length - (k + 1)) om agA ?_)
   first
     | exact ⟨k + 1, o2 ++ [((gr[a]'ha).ln[j]'hjl).1 :: X[k]'hkl], _, _, _, by omega, rfl, rfl, sl_lenP hal, ho3e, hB, hb3, ho, hrw, hb9, hFX, hoz2⟩
     | exact ⟨k + 1, o2, A2, c2, vs2, by omega, rfl, rfl, rfl, ho3e, hB, hb3, ho, hrw, hb9, hFX, hoz⟩
  have hke : k = X.length := by omega
  have hoe3 : o2 = (pthsJ gr m1 a (j + 1)).take 301 := by
    rw [ho2e, List.take_of_length_le (l := (X.map (fun q => ((gr[a]'ha).ln[j]'hjl).1 :: q))) (by rw [List.length_map]; omega), hsj, hXe, List.map_take, take_take_app]
  refine c_exit (e_Sx (e_LSx (e_Bx (e_B (e_S ?_)))))
  refine c_region (wl (r_add rfl rfl rfl om) (wmI rfl (x_nil (e_LS ((gr[a]'ha).ln.length - (j + 1)) om agA ?_))))
  exact ⟨j + 1, o2, A2, c2, vs2, by omega, rfl, rfl, rfl, hoe3, hB, hb3, ho, hrw⟩
 have hjx : j = (gr[a]'ha).ln.length := by omega
 have hall : pthsJ gr m1 a j = pthsN gr (m1 + 1) a := pthsJ_all (by rw [nd_eq ha]; omega)
 have hfull : o = (pthsN gr (m1 + 1) a).take 301 := by rw [← hall]; exact hoe
 refine c_exit (e_Sx (e_LSx (e_Bx (e_S (c_seq ?_)))))
 refine c_region (wmS rfl (waS rfl (x_nil (e_S (c_ret ?_)))))
 refine fin1 (.inl rfl) rfl rfl ?_
 exact ⟨⟨A, o, c, rfl, fun w2 hf => out_mat (ho.fr (Nat.le_refl _) hf) (hrw.fr (Nat.le_refl _) hf) om, hfull⟩, hB⟩
theorem allp_any {G : Option Addr} {cg nf : Nat} {gr : List Nd} (hk : GOk2 nf gr) : ∀ (m a : Nat) (w : World), NodesIn w G gr → a < gr.length → m ≤ 40 → Calls Tryd.prog 15 #[.agg #[.slice G gr.length cg], .int .i64 (a : Nat), .int .i64 ((m : Nat) : Int)] w fun e w' => (∃ A X c, e = .returned (.slice A (List.length X) c) ∧ (∀ wz, FrSame w.heap.size w' wz → MatIn wz A X) ∧ X = (pthsN gr m a).take 301) ∧ Bel w w' := by
  intro m
  induction m with
  | zero => intro a w hG ha hm; exact allp_step hG hk ha hm (fun m1 h => by omega)
  | succ m ih => intro a w hG ha hm; exact allp_step hG hk ha hm (fun m1 h t w2 ht hG2 => by
    obtain rfl : m = m1 := by omega
    rw [show (((m + 1 : Nat) : Int) - 1) = ((m : Nat) : Int) by omega]
    exact ih t w2 hG2 ht om)
end Go.Proofs.YtegngekpmpdngaaDoor
namespace Go.Proofs.YtegngekpmpdngaaDoor
open Go.RowKit
def PathsS (l : List Ty) (fs : List Ft) (g : List Nd) (most : Int) (f : Fl) (X : List (List Int)) : Prop :=
  (¬ (graphF l fs g).1 = 0 ∧ f = graphF l fs g ∧ X = []) ∨ ((graphF l fs g).1 = 0 ∧ (((most < 0 ∨ 40 < most) ∧ f = (3, -3) ∧ X = []) ∨ (¬ (most < 0 ∨ 40 < most) ∧ (((pthsN g most.toNat 0).length ≤ 300 ∧ f = (0, 0) ∧ X = pthsN g most.toNat 0) ∨ (300 < (pthsN g most.toNat 0).length ∧ f = (17, -1) ∧ X = [])))))
theorem fn35_NPth : callable Tryd.prog 35 = true := by kernel_rfl
theorem sz79 : (Tryd.prog.info? 79).map (·.size) = some 1 := by kernel_rfl
theorem ze39 : (Tryd.prog.info? 39).map (·.zero) = some (some (.slice none 0 0)) := by kernel_rfl
theorem ze79 : (Tryd.prog.info? 79).map (·.zero) = some (some (.nilFunc)) := by kernel_rfl
set_option maxHeartbeats 4000000 in
theorem paths_any (A B G : Option Addr) (c d cg : Nat) (l : List Ty) (fs : List Ft) (gr : List Nd) (w : World) (most : Int) (hTab : TabIn w) (hT : TypesIn w A l) (hF : FeatsIn w B fs) (hG : NodesIn w G gr) : Calls Tryd.prog 11 #[.agg #[.slice A l.length c, .slice B fs.length d], .agg #[.slice G gr.length cg], .int .i64 most] w fun e w' => (∃ A' X cX f, e = .returned (.tuple #[.slice A' (List.length X) cX, .agg #[.int .i64 (Prod.fst f), .int .i64 f.2]]) ∧ OutI w' A' X cX ∧ PathsS l fs gr most f X) ∧ Bel w w' := by
 refine enter Tryd.func11 Tryd.ntmps11 rfl (Nat.le_of_ble_eq_true rfl) ?_
 have hB : Bel w w := Below.refl _ _
 refine c_seq (c_region ?_)
 refine wl_bx (v := .agg #[_, _]) (cs := #[_, _]) rfl rfl (fun b3 w1 hb3 hs hr => ?_)
 have lo3 := nLT (Bel.size hB) hr
 replace hB := hB.tr0 hs
 clear hs
 clear hr
 refine wl_bx (v := .agg #[_]) (cs := #[_]) rfl rfl (fun b4 w2 hb4 hs hr => ?_)
 have or_b3_b4 : b3 < b4 := nLL hb3.lt hr
 have lo4 := nLT (Bel.size hB) hr
 replace hB := hB.tr0 hs
 replace hb3 := hb3.tr0 hs
 clear hs
 clear hr
 refine wl_bx (v := .int _ _) rfl rfl (fun b5 w3 hb5 hs hr => ?_)
 have or_b3_b5 : b3 < b5 := nLL hb3.lt hr
 have or_b4_b5 : b4 < b5 := nLL hb4.lt hr
 have lo5 := nLT (Bel.size hB) hr
 replace hB := hB.tr0 hs
 replace hb3 := hb3.tr0 hs
 replace hb4 := hb4.tr0 hs
 clear hs
 clear hr
 refine waS rfl ?_
 refine wl_al (cs := #[.int .i64 0, .int .i64 0]) ze35_GLoose rfl (fun b7 w4 hb7 hs hr => ?_)
 have or_b3_b7 : b3 < b7 := nLL hb3.lt hr
 have or_b4_b7 : b4 < b7 := nLL hb4.lt hr
 have or_b5_b7 : b5 < b7 := nLL hb5.lt hr
 have lo7 := nLT (Bel.size hB) hr
 replace hB := hB.tr0 hs
 replace hb3 := hb3.tr0 hs
 replace hb4 := hb4.tr0 hs
 replace hb5 := hb5.tr0 hs
 clear hs
 clear hr
 refine x_nil (e_S (c_seq (c_seq (c_region (wl (r_ldS U25 rfl rfl hb3.range0 sz25) ?_)))))
 refine wl (r_ldS U28 rfl rfl hb4.range0 sz28) ?_
 refine wl_cl fn35_NPth (gval_any A B G c d cg l fs gr _ (hTab.mono hB) (hT.mono hB) (hF.mono hB) (hG.mono hB)) rfl (fun e' w5 hr => ?_)
 obtain ⟨rfl, hs⟩ := hr
 replace hs := Same.of_bel hs
 replace hB := hB.tr0 hs
 replace hb3 := hb3.tr0 hs
 replace hb4 := hb4.tr0 hs
 replace hb5 := hb5.tr0 hs
 replace hb7 := hb7.tr0 hs
 clear hs
 refine ⟨_, rfl, ?_⟩
 refine wl_al (cs := #[.int .i64 0, .int .i64 0]) ze35_GLoose rfl (fun b8 w6 hb8 hs hr => ?_)
 have or_b3_b8 : b3 < b8 := nLL hb3.lt hr
 have or_b4_b8 : b4 < b8 := nLL hb4.lt hr
 have or_b5_b8 : b5 < b8 := nLL hb5.lt hr
 have or_b7_b8 : b7 < b8 := nLL hb7.lt hr
 have lo8 := nLT (Bel.size hB) hr
 replace hB := hB.tr0 hs
 replace hb3 := hb3.tr0 hs
 replace hb4 := hb4.tr0 hs
 replace hb5 := hb5.tr0 hs
 replace hb7 := hb7.tr0 hs
 clear hs
 clear hr
 refine wl_stW hb8 rfl rfl sz35_GLoose rfl oneA (fun w7 hq hs => ?_)
 replace hB := hB.tr1 hs lo8
 replace hb3 := hb3.tr1 hs om
 replace hb4 := hb4.tr1 hs om
 replace hb5 := hb5.tr1 hs om
 replace hb7 := hb7.tr1 hs om
 clear hs
 replace hb8 := hq
 refine x_nil (e_S (c_seq (c_region (wl (r_fa U35 sz3_GLoose dE rfl rfl rfl) (wl (r_ld1 (v := .int _ _) U3 rfl rfl (hb8.cell rfl)) ?_)))))
 refine wl (r_neq rfl rfl) (x_nil (e_S ?_))
 refine c_ifd rfl (fun c16 => ?_) (fun c16 => ?_)
 ·
  refine c_seq ?_
  refine c_all #[false, false, false] kR (by rfl) (fun w8 hs => ?_)
  replace hB := hB.tr0 hs
  replace hb3 := hb3.tr0 hs
  replace hb4 := hb4.tr0 hs
  replace hb5 := hb5.tr0 hs
  replace hb7 := hb7.tr0 hs
  replace hb8 := hb8.tr0 hs
  clear hs
  refine a_step [0, 1] kR rfl ⟨fun o hoq => ?_, fun o hoq => ?_, trivial⟩
  ·
   obtain rfl := sI hoq
   refine wl (r_ldS U35 rfl rfl hb8.range0 sz35_GLoose) (x_nil (e_A (listed' := #[true, false, false]) (by rfl) ?_))
   refine a_step [1] kR rfl ⟨fun o hoq => ?_, trivial⟩
   obtain rfl := sI hoq
   refine waS rfl (x_nil (e_A (listed' := #[true, true, false]) (by rfl) ?_))
   refine a_step [2] kR rfl ⟨fun o hoq => ?_, trivial⟩
   obtain rfl := sI hoq
   refine wl_stW hb7 rfl rfl sz35_GLoose rfl oneA (fun w9 hq hs => ?_)
   replace hB := hB.tr1 hs lo7
   replace hb3 := hb3.tr1 hs om
   replace hb4 := hb4.tr1 hs om
   replace hb5 := hb5.tr1 hs om
   replace hb8 := hb8.tr1 hs om
   clear hs
   replace hb7 := hq
   refine x_nil (e_A (listed' := #[true, true, true]) (by rfl) (a_end kR (e_S (c_ret (e_Sr ?_)))))
   refine fin2 (.inl rfl) rfl rfl (rr_cell U35 rfl rfl hb7.range0 sz35_GLoose) ?_
   exact ⟨⟨none, [], 0, graphF l fs gr, rfl, OutI.nil _, .inl ⟨c16, rfl, rfl⟩⟩, hB⟩
  obtain rfl := sI hoq
  refine waS rfl (x_nil (e_A (listed' := #[false, true, false]) (by rfl) ?_))
  refine a_step [0] kR rfl ⟨fun o hoq => ?_, trivial⟩
  obtain rfl := sI hoq
  refine wl (r_ldS U35 rfl rfl hb8.range0 sz35_GLoose) (x_nil (e_A (listed' := #[true, true, false]) (by rfl) ?_))
  refine a_step [2] kR rfl ⟨fun o hoq => ?_, trivial⟩
  obtain rfl := sI hoq
  refine wl_stW hb7 rfl rfl sz35_GLoose rfl oneA (fun w10 hq hs => ?_)
  replace hB := hB.tr1 hs lo7
  replace hb3 := hb3.tr1 hs om
  replace hb4 := hb4.tr1 hs om
  replace hb5 := hb5.tr1 hs om
  replace hb8 := hb8.tr1 hs om
  clear hs
  replace hb7 := hq
  refine x_nil (e_A (listed' := #[true, true, true]) (by rfl) (a_end kR (e_S (c_ret (e_Sr ?_)))))
  refine fin2 (.inl rfl) rfl rfl (rr_cell U35 rfl rfl hb7.range0 sz35_GLoose) ?_
  exact ⟨⟨none, [], 0, graphF l fs gr, rfl, OutI.nil _, .inl ⟨c16, rfl, rfl⟩⟩, hB⟩
 have h0 := Decidable.not_not.1 c16
 have hva := gv_of h0
 have h60 := hva.gok.le
 have hk2 := hva.gok.two
 refine c_skip (e_S (c_seq (c_seq ?_)))
 refine c_cut1 [18, 19, 20, 21, 22, 23] 23 (.bool (decide (most < 0 ∨ 40 < most))) nu ?_ (fun gq => ?_)
 ·
  refine c_region (wl (r_ld1 (v := .int _ _) U3 rfl rfl (hb5.cell rfl)) (wl (r_lss rfl rfl) (wmB rfl ?_)))
  refine wl_casesd 20 rfl (fun g20 => ?_) (fun g20 => ?_)
  ·
   refine wlgn 20 rfl rfl rfl (wlgn 20 rfl rfl rfl (wl (r_pt (v := .bool _) rfl rfl) ?_))
   refine x_nil (e_R ⟨rfl, agA, ?_⟩)
   exact clA
  refine wl_gd 20 rfl rfl (wl (r_ld1 (v := .int _ _) U3 rfl rfl (hb5.cell rfl)) (wl_gd 20 rfl rfl (wl (r_gtr rfl rfl) (wl (r_pf (v := .bool _) rfl rfl) ?_))))
  refine x_nil (e_R ⟨rfl, agA, ?_⟩)
  exact clA
 refine e_S ?_
 refine c_ifd rfl (fun c23 => ?_) (fun c23 => ?_)
 ·
  refine c_seq (c_region ?_)
  refine wl_cl fn37 (gfault_any _ _ _) rfl (fun e' w11 hr => ?_)
  obtain ⟨rfl, hs⟩ := hr
  replace hs := Same.of_bel hs
  replace hB := hB.tr0 hs
  replace hb3 := hb3.tr0 hs
  replace hb4 := hb4.tr0 hs
  replace hb5 := hb5.tr0 hs
  replace hb7 := hb7.tr0 hs
  replace hb8 := hb8.tr0 hs
  clear hs
  refine ⟨_, rfl, ?_⟩
  refine waS rfl ?_
  refine wl_stW hb7 rfl rfl sz35_GLoose rfl oneA (fun w12 hq hs => ?_)
  replace hB := hB.tr1 hs lo7
  replace hb3 := hb3.tr1 hs om
  replace hb4 := hb4.tr1 hs om
  replace hb5 := hb5.tr1 hs om
  replace hb8 := hb8.tr1 hs om
  clear hs
  replace hb7 := hq
  refine x_nil (e_S (c_ret (e_Sr (fin2 (.inl rfl) rfl rfl (rr_cell U35 rfl rfl hb7.range0 sz35_GLoose) ?_))))
  exact ⟨⟨none, [], 0, (3, -3), rfl, OutI.nil _, .inr ⟨h0, .inl ⟨c23, rfl, rfl⟩⟩⟩, hB⟩
 obtain ⟨mm, rfl⟩ : ∃ mm : Nat, most = (mm : Int) := ⟨most.toNat, by omega⟩
 have hm40 : mm ≤ 40 := by omega
 have hmt : ((mm : Nat) : Int).toNat = mm := Int.toNat_natCast mm
 refine c_skip (e_S (c_seq (c_region ?_)))
 refine wl_al (cs := #[.slice none 0 0]) ze39 rfl (fun b9 w13 hb9 hs hr => ?_)
 have or_b3_b9 : b3 < b9 := nLL hb3.lt hr
 have or_b4_b9 : b4 < b9 := nLL hb4.lt hr
 have or_b5_b9 : b5 < b9 := nLL hb5.lt hr
 have or_b7_b9 : b7 < b9 := nLL hb7.lt hr
 have or_b8_b9 : b8 < b9 := nLL hb8.lt hr
 have lo9 := nLT (Bel.size hB) hr
 replace hB := hB.tr0 hs
 replace hb3 := hb3.tr0 hs
 replace hb4 := hb4.tr0 hs
 replace hb5 := hb5.tr0 hs
 replace hb7 := hb7.tr0 hs
 replace hb8 := hb8.tr0 hs
 clear hs
 clear hr
 refine x_nil (e_S (c_seq (c_region ?_)))
 refine wl_al (cs := #[.nilFunc]) ze79 rfl (fun b10 w14 hb10 hs hr => ?_)
 have or_b3_b10 : b3 < b10 := nLL hb3.lt hr
 have or_b4_b10 : b4 < b10 := nLL hb4.lt hr
 have or_b5_b10 : b5 < b10 := nLL hb5.lt hr
 have or_b7_b10 : b7 < b10 := nLL hb7.lt hr
 have or_b8_b10 : b8 < b10 := nLL hb8.lt hr
 have or_b9_b10 : b9 < b10 := nLL hb9.lt hr
 have lo10 := nLT (Bel.size hB) hr
 replace hB := hB.tr0 hs
 replace hb3 := hb3.tr0 hs
 replace hb4 := hb4.tr0 hs
 replace hb5 := hb5.tr0 hs
 replace hb7 := hb7.tr0 hs
 replace hb8 := hb8.tr0 hs
 replace hb9 := hb9.tr0 hs
 clear hs
 clear hr
 refine x_nil (e_S (c_seq (c_region (wl (r_mf rfl) ?_))))
 refine wl_st1 (v := .func _ _ _) hb10 rfl rfl sz79 (by first | decide | simp) rfl rfl (fun w15 hq hs => ?_)
 replace hB := hB.tr1 hs lo10
 replace hb3 := hb3.tr1 hs om
 replace hb4 := hb4.tr1 hs om
 replace hb5 := hb5.tr1 hs om
 replace hb7 := hb7.tr1 hs om
 replace hb8 := hb8.tr1 hs om
 replace hb9 := hb9.tr1 hs om
 clear hs
 replace hb10 := hq
 refine x_nil (e_S (c_seq (c_seq ?_)))
 obtain ⟨base, hbase⟩ : ∃ b, b = w15.heap.size := ⟨_, rfl⟩
 have hlo : w.heap.size ≤ base := by rw [hbase]; exact Bel.size hB
 have hbz : base ≤ w15.heap.size := Nat.le_of_eq hbase
 have hpl := pthsN_pos gr mm 0
 have ho0 : Own w15 base 43 1 none ([] : List (List Int)).length 0 [] := Own.nil _ _ _ _
 have hr0 := RowsI.nil 0 w15
 refine c_region (wl (r_ld1 (v := .func _ _ _) Tryd.underlying79 rfl rfl (hb10.cell rfl)) ?_)
 refine wl_clv rfl fn38 (pwalk_any (w0 := w) (G := G) (cg := cg) (bO := b9) (bM := b5) (bG := b4) (bV := b10) (base := base) (most := mm) hG hk2 hm40 hlo lo9 lo5 lo4 lo10 om om om mm [] none 0 [] none 0 [] _ 0 (by simp) (Nat.zero_le _) hva.gok.pos (Nat.zero_le _) hB hbz hb9 hb5 hb4 hb10 ho0 hr0 (PthIn.nil 0 _) (Nat.zero_le _)) rfl rfl (fun e' w16 hr => ?_)
 obtain ⟨b27, rfl, ht27, hf27, oX, AX, cX, vX, hoX, ho3, hb9n, ho, hrw, hC, _⟩ := hr
 have hzZ : ∀ g, ZP b9 none g → g = b9 := fun g hg => hg.elim id (fun h => by cases h)
 replace hB := hB.chG hC (fun g hg => by rw [hzZ g hg]; exact lo9)
 replace hb7 := hb7.chG hC (fun hg => by have := hzZ _ hg; omega)
 replace hb9 := hb9n
 simp only [List.length_nil, Nat.sub_zero, Nat.zero_add, behind_nil, List.nil_append] at ht27 hf27 hoX
 refine ⟨_, rfl, ?_⟩
 refine wl (r_not rfl) (x_nil (e_S ?_))
 refine c_if rfl (fun c28 => ?_) (fun c28 => ?_)
 ·
  have hbig := hf27 (by simpa using c28)
  refine c_seq (c_region ?_)
  refine wl_cl fn37 (gfault_any _ _ _) rfl (fun e' w17 hr => ?_)
  obtain ⟨rfl, hs⟩ := hr
  replace hs := Same.of_bel hs
  replace hB := hB.tr0 hs
  replace hb7 := hb7.tr0 hs
  replace hb9 := hb9.tr0 hs
  replace ho := ho.tr0 hs
  replace hrw := hrw.tr hs (by simp)
  clear hs
  refine ⟨_, rfl, ?_⟩
  refine waS rfl ?_
  refine wl_stW hb7 rfl rfl sz35_GLoose rfl oneA (fun w18 hq hs => ?_)
  replace hB := hB.tr1 hs lo7
  replace hb9 := hb9.tr1 hs om
  replace ho := ho.tr1 hs (fun g hg => own_neA ho hb7 dE g hg)
  replace hrw := hrw.tr hs (fun g hg => by rw [List.mem_singleton.1 hg]; exact ⟨_, _, hb7, by decide⟩)
  clear hs
  replace hb7 := hq
  refine x_nil (e_S (c_ret (e_Sr (fin2 (.inl rfl) rfl rfl (rr_cell U35 rfl rfl hb7.range0 sz35_GLoose) ?_))))
  exact ⟨⟨none, [], 0, (17, -1), rfl, OutI.nil _, .inr ⟨h0, .inr ⟨c23, .inr ⟨by rw [hmt]; exact hbig, rfl, rfl⟩⟩⟩⟩, hB⟩
 have hsm := ht27 (by simpa using c28)
 have hoE := hoX (by simpa using c28)
 refine c_skip (e_S (c_seq (c_region (wl (r_ld1 (v := .slice _ _ _) U39 rfl rfl (hb9.cell rfl)) (wl (r_bd (vs := #[]) (cs := #[.int .i64 0, .int .i64 0]) (by simp) kR) ?_)))))
 refine waS rfl ?_
 refine wl_stW hb7 rfl rfl sz35_GLoose rfl oneA (fun w19 hq hs => ?_)
 replace hB := hB.tr1 hs lo7
 replace hb9 := hb9.tr1 hs om
 replace ho := ho.tr1 hs (fun g hg => own_neA ho hb7 dE g hg)
 replace hrw := hrw.tr hs (fun g hg => by rw [List.mem_singleton.1 hg]; exact ⟨_, _, hb7, by decide⟩)
 clear hs
 replace hb7 := hq
 refine x_nil (e_S (c_ret (fin2 (.inl rfl) rfl rfl (rr_cell U35 rfl rfl hb7.range0 sz35_GLoose) ?_)))
 exact ⟨⟨AX, oX, cX, (0, 0), rfl, ⟨by omega, vX, ho.low (Nat.zero_le _), hrw⟩, .inr ⟨h0, .inr ⟨c23, .inl ⟨by rw [hmt]; exact hsm, rfl, by rw [hmt]; exact hoE⟩⟩⟩⟩, hB⟩
end Go.Proofs.YtegngekpmpdngaaDoor
