/- What these functions of the program compute, at every world: glosswright/glosswrightref4.Filled. -/
import Derived.Test.YtegngekpmpdngaaDoorU
import Derived.Test.YtegngekpmpdngaaDoorWITot
import Derived.Test.YtegngekpmpdngaaDoorWFil
namespace Go.Proofs.YtegngekpmpdngaaDoor
open Go.RowKit
theorem fn23 : callable Tryd.prog 23 = true := by kernel_rfl
theorem fn56 : callable Tryd.prog 56 = true := by kernel_rfl
set_option maxRecDepth 100000 in
set_option maxHeartbeats 16000000 in
theorem filled_any (A0 B G : Option Addr) (c d cg : Nat) (l : List Ty) (fs : List Ft) (gr : List Nd) (w : World) (hT : TypesIn w A0 l) (hF : FeatsIn w B fs) (hG : NodesIn w G gr) (h0 : (graphF l fs gr).1 = 0) : Calls Tryd.prog 22 #[.agg #[.slice A0 l.length c, .slice B fs.length d], .agg #[.slice G gr.length cg]] w fun e w' => (∃ A' X cX ok, e = .returned (.tuple #[.agg #[.slice A' (List.length X) cX], .bool ok]) ∧ (∀ w2, FrSame w.heap.size w' w2 → NodesIn w2 A' X) ∧ FilledS l fs gr ok X) ∧ Bel w w' := by
 have hva := gv_of h0
 have hf40 := hva.few
 refine enter Tryd.func22 Tryd.ntmps22 rfl (Nat.le_of_ble_eq_true rfl) ?_
 have hB : Bel w w := Below.refl _ _
 refine c_seq (c_region ?_)
 refine wl_bx (v := .agg #[_, _]) (cs := #[_, _]) rfl rfl (fun b2 w1 hb2 hs hr => ?_)
 have lo2 := nLT (Bel.size hB) hr
 replace hB := hB.tr0 hs
 clear hs
 clear hr
 refine wl_bx (v := .agg #[_]) (cs := #[_]) rfl rfl (fun b3 w2 hb3 hs hr => ?_)
 have or_b2_b3 : b2 < b3 := nLL hb2.lt hr
 have lo3 := nLT (Bel.size hB) hr
 replace hB := hB.tr0 hs
 replace hb2 := hb2.tr0 hs
 clear hs
 clear hr
 refine wl_al (cs := #[.slice none 0 0]) ze28_GTgt rfl (fun b4 w3 hb4 hs hr => ?_)
 have or_b2_b4 : b2 < b4 := nLL hb2.lt hr
 have or_b3_b4 : b3 < b4 := nLL hb3.lt hr
 have lo4 := nLT (Bel.size hB) hr
 replace hB := hB.tr0 hs
 replace hb2 := hb2.tr0 hs
 replace hb3 := hb3.tr0 hs
 clear hs
 clear hr
 refine waB rfl (x_nil (e_S (c_seq (c_region (wl (r_ldS U28 rfl rfl hb3.range0 sz28_GTgt) ?_)))))
 have zq2 := hb2.lt
 have zq4 := hb4.lt
 refine wl_cl fn56 (rcanon_any G cg l.length fs.length gr _ (hG.mono hB) hva.gok om) rfl (fun e' w4 hr => ?_)
 obtain ⟨⟨o, AC, cC, hD0, rfl, hNX⟩, hs⟩ := hr
 replace hs := Same.of_bel hs
 replace hB := hB.tr0 hs
 replace hb2 := hb2.tr0 hs
 replace hb3 := hb3.tr0 hs
 replace hb4 := hb4.tr0 hs
 clear hs
 obtain ⟨wX, hwX⟩ : ∃ z, z = w4 := ⟨_, rfl⟩
 obtain ⟨ZX, hZX⟩ : ∃ z, z = (w3).heap.size := ⟨_, rfl⟩
 rw [← hZX] at hNX zq2 zq4
 have hFX : FrSame ZX wX w4 := by rw [hwX]; exact FrSame.refl _ _
 rw [← hwX] at hNX
 have hC := gv_can hva hD0
 obtain ⟨C, hCe⟩ : ∃ z, z = canG gr o := ⟨_, rfl⟩
 have hCl : o.length = C.length := by rw [hCe, canG_len]
 rw [← hCe] at hNX hC
 have hC60 := hC.gok.le
 refine ⟨_, rfl, ?_⟩
 refine wl_al (cs := #[.slice none 0 0]) ze28_GTgt rfl (fun b6 w5 hb6 hs hr => ?_)
 have or_b2_b6 : b2 < b6 := nLL hb2.lt hr
 have or_b3_b6 : b3 < b6 := nLL hb3.lt hr
 have or_b4_b6 : b4 < b6 := nLL hb4.lt hr
 have or_hFX_b6 := (nLT hFX.size hr)
 have lo6 := nLT (Bel.size hB) hr
 replace hB := hB.tr0 hs
 replace hb2 := hb2.tr0 hs
 replace hb3 := hb3.tr0 hs
 replace hb4 := hb4.tr0 hs
 replace hFX := hFX.of hs (by simp)
 clear hs
 clear hr
 refine wl_stW hb6 rfl rfl sz28_GTgt rfl oneA (fun w6 hq hs => ?_)
 replace hB := hB.tr1 hs lo6
 replace hb2 := hb2.tr1 hs om
 replace hb3 := hb3.tr1 hs om
 replace hb4 := hb4.tr1 hs om
 replace hFX := hFX.of hs (fun g hg => by rw [List.mem_singleton.1 hg]; omega)
 clear hs
 replace hb6 := hq
 have hNC := hNX _ hFX
 rw [hCl] at hb6
 refine x_nil (e_S (c_seq (c_block ?_)))
 refine c_loopS [5, 7, 9, 10, 11, 12, 13, 14, 17, 18, 19, 20, 21, 22, 23, 24, 25, 26, 27, 28, 29, 30, 31, 32, 33, 34, 35, 36, 37, 38, 39, 40, 41, 42, 43, 44, 45, 46, 47, 48, 49, 50, 51, 52, 53, 54, 55, 56, 57, 58, 59, 60, 61, 62, 63, 64, 65, 66, 67, 68, 69, 70, 71, 72, 73, 74, 75, 76, 77, 78, 79, 80, 81, 82, 83, 84, 85, 86, 87, 88, 89, 90, 91, 92, 93, 94, 95, 96, 97, 98, 99, 100, 101, 102, 103, 104] (fun m g w' => ∃ (A : List Nd) (na : List Nm) (AO : Option Addr) (cO : Nat), m = 61 - A.length ∧ Fil l fs C A na ∧ A.length ≤ 60 ∧ NodesIn w' AO A ∧ Bel w w' ∧ Blk w' b2 25 #[.slice A0 l.length c, .slice B fs.length d] ∧ Blk w' b4 28 #[.slice none 0 0] ∧ Blk w' b6 28 #[.slice AO A.length cO]) (61 - C.length) ?_ (fun m g2 w7 hI => ?_)
 ·
  exact ⟨C, _, _, _, rfl, Fil.start hC, hC60, hNC, hB, hb2, hb4, hb6⟩
 obtain ⟨A, na, AO, cO, hm2, hFi, h60, hNT, hB, hb2, hb4, hb6⟩ := hI
 obtain ⟨wT, hwT⟩ : ∃ x, x = w7 := ⟨_, rfl⟩
 have hBT : Bel wT w7 := by rw [hwT]; exact Below.refl _ _
 obtain ⟨zlo, hzlo⟩ : ∃ z, z = w7.heap.size := ⟨_, rfl⟩
 have hzh : zlo ≤ w7.heap.size := Nat.le_of_eq hzlo
 have hBwT := Bel.size hB
 have ltq6 : b6 < zlo := by rw [hzlo]; exact hb6.lt
 have ltq2 : b2 < zlo := by rw [hzlo]; exact hb2.lt
 have ltq4 : b4 < zlo := by rw [hzlo]; exact hb4.lt
 have hzT : zlo = wT.heap.size := by rw [hwT, hzlo]
 rw [← hwT] at hNT hBwT
 have hAv := gv_of (show (graphF l fs A).1 = 0 by rw [hFi.valid hC h60])
 refine c_seq (c_seq (c_region (wl (r_ldS U25 rfl rfl hb2.range0 sz25_SFind) (wl (r_ldS U28 rfl rfl hb6.range0 sz28_GTgt) ?_))))
 refine wl_cl fn23 (itot_any A0 B AO c d cO l fs A _ (hT.mono hB) (hF.mono hB) (hNT.mono hBT) hAv) rfl (fun e' w8 hr => ?_)
 obtain ⟨rfl, hs⟩ := hr
 replace hs := Same.of_bel hs
 replace hB := hB.tr0 hs
 replace hb2 := hb2.tr0 hs
 replace hb4 := hb4.tr0 hs
 replace hb6 := hb6.tr0 hs
 replace hBT := hBT.tr0 hs
 replace hzh := nLT hzh (Same.size hs)
 clear hs
 refine ⟨_, rfl, ?_⟩
 refine wl (r_not rfl) (x_nil (e_S ?_))
 refine c_if rfl (fun c20 => ?_) (fun c20 => ?_)
 ·
  have hnt : ¬ Tot l fs A := fun h => by rw [totB_yes h] at c20; cases c20
  refine c_skip (e_S (c_block (c_seq (c_region ?_))))
  refine wl_al (cs := #[.slice none 0 0]) ze28_GTgt rfl (fun b7 w9 hb7 hs hr => ?_)
  have or_b2_b7 : b2 < b7 := nLL hb2.lt hr
  have or_b4_b7 : b4 < b7 := nLL hb4.lt hr
  have or_b6_b7 : b6 < b7 := nLL hb6.lt hr
  have or_hzh_b7 := (nLT hzh hr)
  have lo7 := nLT (Bel.size hB) hr
  have lo_hBT_b7 := nLT (Bel.size hBT) hr
  replace hB := hB.tr0 hs
  replace hb2 := hb2.tr0 hs
  replace hb4 := hb4.tr0 hs
  replace hb6 := hb6.tr0 hs
  replace hBT := hBT.tr0 hs
  replace hzh := nLT hzh (Same.size hs)
  clear hs
  clear hr
  refine x_nil (e_S (c_seq (c_seq (c_region (wl (r_fa U28 sz26_GTgt dE rfl rfl rfl) ?_)))))
  refine wl (r_ld1 (v := .slice _ _ _) U26 rfl rfl (hb6.cell rfl)) (wl (r_len U26 rfl) (wmI rfl (x_nil (e_S (c_block ?_)))))
  refine c_loopS [9, 24, 25, 26, 27, 28, 29, 30, 31, 32, 33, 34, 35, 36] (fun m g w' => ∃ (p : Nat) (N : Option Addr) (cN : Nat) (V : Nat → Value), p ≤ A.length ∧ m = A.length - p ∧ g 24 = .int .i64 p ∧ Bel w w' ∧ Bel wT w' ∧ Blk w' b2 25 #[.slice A0 l.length c, .slice B fs.length d] ∧ Blk w' b4 28 #[.slice none 0 0] ∧ Blk w' b6 28 #[.slice AO A.length cO] ∧ Blk w' b7 28 #[.slice N p cN] ∧ Own w' zlo 33 2 N p cN (ndV (tyA A) V p) ∧ RowsG w' zlo p V (fun _ => []) ∧ zlo ≤ w'.heap.size) (A.length) ?_ (fun m g5 w10 hI => ?_)
  ·
   exact ⟨0, none, 0, fun _ => .slice none 0 0, Nat.zero_le _, rfl, rfl, hB, hBT, hb2, hb4, hb6, hb7, Own.nil _ _ _ _, RowsG.nil _ _ _ _, hzh⟩
  obtain ⟨p, N, cN, V, hp, hm5, h24, hB, hBT, hb2, hb4, hb6, hb7, ho, hRw, hzh⟩ := hI
  refine c_know 24 (.int .i64 p) h24 nu (c_seq (c_region (wl (r_lss rfl rfl) (x_nil (e_S ?_)))))
  refine c_seq ?_
  refine c_ifd rfl (fun c25 => ?_) (fun c25 => ?_)
  ·
   have hpl : p < A.length := by omega
   obtain ⟨nb, no, LA, lc, rfl, hnb, hnr, _⟩ := hNT.at_ (Below.refl _ _ : Bel wT wT) hpl
   refine c_skip (e_S (c_seq (c_block (c_seq (c_region ?_)))))
   refine wl (r_ia (i := p) U26 sz33_GTgt rfl rfl om rfl) (wl (r_ldS U33 rfl rfl (hBT.range hnb hnr) sz33_GTgt) ?_)
   refine wl_al (cs := #[.int .i64 0, .slice none 0 0]) ze33_GTgt rfl (fun b9 w11 hb9 hs hr => ?_)
   have or_b2_b9 : b2 < b9 := nLL hb2.lt hr
   have or_b4_b9 : b4 < b9 := nLL hb4.lt hr
   have or_b6_b9 : b6 < b9 := nLL hb6.lt hr
   have or_b7_b9 : b7 < b9 := nLL hb7.lt hr
   have or_ho_b9 := (fun g hg => nLL (ho.lt g hg).2 hr)
   have or_hzh_b9 := (nLT hzh hr)
   have lo9 := nLT (Bel.size hB) hr
   have lo_hBT_b9 := nLT (Bel.size hBT) hr
   replace hB := hB.tr0 hs
   replace hb2 := hb2.tr0 hs
   replace hb4 := hb4.tr0 hs
   replace hb6 := hb6.tr0 hs
   replace hBT := hBT.tr0 hs
   replace hb7 := hb7.tr0 hs
   replace ho := ho.tr0 hs
   replace hRw := hRw.tr hs (by simp)
   replace hzh := nLT hzh (Same.size hs)
   clear hs
   clear hr
   refine wl_stW hb9 rfl rfl sz33_GTgt rfl oneA (fun w12 hq hs => ?_)
   replace hB := hB.tr1 hs lo9
   replace hb2 := hb2.tr1 hs om
   replace hb4 := hb4.tr1 hs om
   replace hb6 := hb6.tr1 hs om
   replace hBT := hBT.tr1 hs lo_hBT_b9
   replace hb7 := hb7.tr1 hs om
   replace ho := ho.tr1 hs (fun g hg => by first | exact own_neA ho hb9 dE g hg | (have := (ho.lt g hg).1; (try have := or_ho_b9 g hg); omega))
   replace hRw := hRw.tr hs (fun g hg => by rw [List.mem_singleton.1 hg]; first | exact .inr (.inl ⟨_, _, hb9, by decide⟩) | exact .inl om)
   replace hzh := nLT hzh (Same.size hs)
   clear hs
   replace hb9 := hq
   refine x_nil (e_S ?_)
   have or_ho_b7 := own_neA ho hb7 dE
   refine c_region (wl (r_fa U28 sz26_GTgt dE rfl rfl rfl) (wl (r_ld1 (v := .slice _ _ _) U26 rfl rfl (hb7.cell rfl)) (wl (r_fa U33 sz3_GSearch dE rfl rfl rfl) (wl (r_ld1 (v := .int _ _) U3 rfl rfl (hb9.cell rfl)) (wl (r_bd1 (v0 := .int _ _) (fun v0 => #[v0, .slice none 0 0]) rfl kR) ?_)))))
   refine wl_bs (cs := #[_, _]) [(0, .agg _)] rfl U26 sz33_GTgt ze33_GTgt dE dE kR rfl (fun b33 w13 hb33 hs hr => ?_)
   have or_b2_b33 : b2 < b33 := nLL hb2.lt hr
   have or_b4_b33 : b4 < b33 := nLL hb4.lt hr
   have or_b6_b33 : b6 < b33 := nLL hb6.lt hr
   have or_b7_b33 : b7 < b33 := nLL hb7.lt hr
   have or_ho_b33 := (fun g hg => nLL (ho.lt g hg).2 hr)
   have or_hzh_b33 := (nLT hzh hr)
   have or_b9_b33 : b9 < b33 := nLL hb9.lt hr
   have lo33 := nLT (Bel.size hB) hr
   have lo_hBT_b33 := nLT (Bel.size hBT) hr
   replace hB := hB.tr0 hs
   replace hb2 := hb2.tr0 hs
   replace hb4 := hb4.tr0 hs
   replace hb6 := hb6.tr0 hs
   replace hBT := hBT.tr0 hs
   replace hb7 := hb7.tr0 hs
   replace ho := ho.tr0 hs
   replace hRw := hRw.tr hs (by simp)
   replace hzh := nLT hzh (Same.size hs)
   replace hb9 := hb9.tr0 hs
   clear hs
   clear hr
   refine wl_app U26 in33 rfl dE ho hb33 rfl rfl rfl oneA dE om om hzh (fun g34 cap34 w14 ho34 hs hg => ?_)
   have ne_ho34_b2 : g34 ≠ b2 := fun e => by
    have hl := hb2.lt
    rcases hg with hg | hg
    · have h1 := ho.lt g34 (by rw [hg]; exact List.mem_singleton.2 rfl)
      (try have := or_ho_b2 g34 (by rw [hg]; exact List.mem_singleton.2 rfl)); omega
    · omega
   have ne_ho34_b4 : g34 ≠ b4 := fun e => by
    have hl := hb4.lt
    rcases hg with hg | hg
    · have h1 := ho.lt g34 (by rw [hg]; exact List.mem_singleton.2 rfl)
      (try have := or_ho_b4 g34 (by rw [hg]; exact List.mem_singleton.2 rfl)); omega
    · omega
   have ne_ho34_b6 : g34 ≠ b6 := fun e => by
    have hl := hb6.lt
    rcases hg with hg | hg
    · have h1 := ho.lt g34 (by rw [hg]; exact List.mem_singleton.2 rfl)
      (try have := or_ho_b6 g34 (by rw [hg]; exact List.mem_singleton.2 rfl)); omega
    · omega
   have ne_ho34_b7 : g34 ≠ b7 := fun e => by
    have hl := hb7.lt
    rcases hg with hg | hg
    · have h1 := ho.lt g34 (by rw [hg]; exact List.mem_singleton.2 rfl)
      (try have := or_ho_b7 g34 (by rw [hg]; exact List.mem_singleton.2 rfl)); omega
    · omega
   have ne_ho34_b9 : g34 ≠ b9 := fun e => by
    have hl := hb9.lt
    rcases hg with hg | hg
    · have h1 := ho.lt g34 (by rw [hg]; exact List.mem_singleton.2 rfl)
      (try have := or_ho_b9 g34 (by rw [hg]; exact List.mem_singleton.2 rfl)); omega
    · omega
   replace hB := hB.tr hs (fun g hg => nLT om (ho.lt g hg).1)
   replace hb2 := hb2.tr hs (fun hx => by have := (ho.lt _ hx).1; (try have := or_ho_b2 _ hx); omega)
   replace hb4 := hb4.tr hs (fun hx => by have := (ho.lt _ hx).1; (try have := or_ho_b4 _ hx); omega)
   replace hb6 := hb6.tr hs (fun hx => by have := (ho.lt _ hx).1; (try have := or_ho_b6 _ hx); omega)
   replace hBT := hBT.tr hs (fun g hg => nLT om (ho.lt g hg).1)
   replace hb7 := hb7.tr hs (fun hx => by have := (ho.lt _ hx).1; (try have := or_ho_b7 _ hx); omega)
   replace hRw := hRw.tr hs (fun g hg => .inr (.inl (by obtain ⟨cs, hc⟩ := (ho).typ g hg; exact ⟨cs, _, hc, by decide⟩)))
   replace hzh := nLT hzh (Same.size hs)
   replace hb9 := hb9.tr hs (fun hx => by have := (ho.lt _ hx).1; (try have := or_ho_b9 _ hx); omega)
   have ho : Own w14 zlo 33 2 (some ⟨g34, 0, none⟩) (p + 1) cap34 (ndV (tyA A) (putG V p (.slice none 0 0)) (p + 1)) := by
     rw [ndV_snoc, ndV_congr (f' := tyA A) (h' := V) (fun _ _ => rfl) (fun x hx => by unfold putG; rw [if_neg om])]
     have e1 : tyA A p = .int .i64 (A[p]'hpl).ty := by unfold tyA; rw [nd_eq hpl]
     have e2 : putG V p (.slice none 0 0) p = .slice none 0 0 := by simp [putG]
     rw [e1, e2]
     exact ho34
   refine wl (r_fa U28 sz26_GTgt dE rfl rfl rfl) ?_
   refine wl_st1 (v := .slice _ _ _) hb7 rfl rfl sz26_GTgt (by first | decide | simp) rfl rfl (fun w15 hq hs => ?_)
   replace hB := hB.tr1 hs lo7
   replace hb2 := hb2.tr1 hs om
   replace hb4 := hb4.tr1 hs om
   replace hb6 := hb6.tr1 hs om
   replace hBT := hBT.tr1 hs lo_hBT_b7
   replace hRw := hRw.tr hs (fun g hg => by rw [List.mem_singleton.1 hg]; first | exact .inr (.inl ⟨_, _, hb7, by decide⟩) | exact .inl om)
   replace hzh := nLT hzh (Same.size hs)
   replace hb9 := hb9.tr1 hs om
   replace ho := ho.tr1 hs (fun g hg => by first | exact own_neA ho hb7 dE g hg | (have := (ho.lt g hg).1; (try have := or_ho_b7 g hg); omega))
   clear hs
   replace hb7 := hq
   replace hRw : RowsG w15 zlo (p + 1) (putG V p (.slice none 0 0)) (fun _ => []) := hRw.snoc.congr (fun _ _ => rfl) (fun x _ => by split <;> rfl)
   refine x_nil (e_B (e_S (c_region (wl (r_add rfl rfl rfl om) (wmI rfl ?_)))))
   refine x_nil (e_LS (A.length - (p + 1)) om agA ?_)
   exact ⟨p + 1, _, _, _, by omega, rfl, rfl, hB, hBT, hb2, hb4, hb6, hb7, ho, hRw, hzh⟩
  have hpe : p = A.length := by omega
  subst hpe
  refine c_exit (e_Sx (e_LSx (e_Bx (e_S (c_seq ?_)))))
  refine c_seq (c_region (wl (r_fa U28 sz26_GTgt dE rfl rfl rfl) (wl (r_ld1 (v := .slice _ _ _) U26 rfl rfl (hb6.cell rfl)) (wl (r_len U26 rfl) (wmI rfl ?_)))))
  refine x_nil (e_S (c_block ?_))
  refine c_loopS [10, 11, 12, 13, 14, 40, 41, 42, 43, 44, 45, 46, 47, 48, 49, 50, 51, 52, 53, 54, 55, 56, 57, 58, 59, 60, 61, 62, 63, 64, 65, 66, 67, 68, 69, 70, 71, 72, 73, 74, 75, 76, 77, 78, 79, 80, 81, 82, 83, 84, 85, 86, 87, 88, 89, 90, 91, 92, 93, 94, 95, 96, 97, 98] (fun m g w' => ∃ (i : Nat) (D : List Nd) (nm : List Nm) (N : Option Addr) (cN : Nat) (V : Nat → Value), i ≤ A.length ∧ m = A.length - i ∧ g 40 = .int .i64 i ∧ Rnd l fs C A D na nm i 0 ∧ D.length ≤ 60 + i * 40 ∧ Bel w w' ∧ Bel wT w' ∧ Blk w' b2 25 #[.slice A0 l.length c, .slice B fs.length d] ∧ Blk w' b4 28 #[.slice none 0 0] ∧ Blk w' b6 28 #[.slice AO A.length cO] ∧ Blk w' b7 28 #[.slice N D.length cN] ∧ Own w' zlo 33 2 N D.length cN (ndV (tyA D) V D.length) ∧ RowsG w' zlo D.length V (fun x => rowB D i 0 x) ∧ zlo ≤ w'.heap.size) (A.length) ?_ (fun m g10 w16 hI => ?_)
  ·
   exact ⟨0, A, na, N, cN, V, Nat.zero_le _, rfl, rfl, Rnd.start hFi, by omega, hB, hBT, hb2, hb4, hb6, hb7, ho, hRw.congr (fun _ _ => rfl) (fun x _ => (rowB_zero (fun z hz => (hFi.feats hC 0 hAv.gx.pos z hz).1) x).symm), hzh⟩
  obtain ⟨i, D, nm, N, cN, V, hi, hm10, h40, hR, hDb, hB, hBT, hb2, hb4, hb6, hb7, ho, hRw, hzh⟩ := hI
  refine c_know 40 (.int .i64 i) h40 nu (c_seq (c_region (wl (r_lss rfl rfl) (x_nil (e_S ?_)))))
  refine c_seq ?_
  refine c_ifd rfl (fun c41 => ?_) (fun c41 => ?_)
  ·
   have hil : i < A.length := by omega
   obtain ⟨nb, no, LA, lc, rfl, hnb, hnr, _⟩ := hNT.at_ (Below.refl _ _ : Bel wT wT) hil
   obtain ⟨tn, htn, htnl⟩ : ∃ t : Nat, (A[i]'hil).ty = (t : Int) ∧ t < l.length := by
     have h := hAv.gok.ty i hil
     exact ⟨(A[i]'hil).ty.toNat, by omega, by omega⟩
   have htnd : (nd A i).ty.toNat = tn := by rw [nd_eq hil, htn]; rfl
   refine c_skip (e_S (c_seq (c_block (c_seq (c_region ?_)))))
   refine wmI rfl (wl (r_ia (i := i) U26 sz33_GTgt rfl rfl om rfl) (wl (r_ldS U33 rfl rfl (hBT.range hnb hnr) sz33_GTgt) ?_))
   refine wl_al (cs := #[.int .i64 0, .slice none 0 0]) ze33_GTgt rfl (fun b11 w17 hb11 hs hr => ?_)
   have or_b2_b11 : b2 < b11 := nLL hb2.lt hr
   have or_b4_b11 : b4 < b11 := nLL hb4.lt hr
   have or_b6_b11 : b6 < b11 := nLL hb6.lt hr
   have or_b7_b11 : b7 < b11 := nLL hb7.lt hr
   have or_ho_b11 := (fun g hg => nLL (ho.lt g hg).2 hr)
   have or_hzh_b11 := (nLT hzh hr)
   have lo11 := nLT (Bel.size hB) hr
   have lo_hBT_b11 := nLT (Bel.size hBT) hr
   replace hB := hB.tr0 hs
   replace hb2 := hb2.tr0 hs
   replace hb4 := hb4.tr0 hs
   replace hb6 := hb6.tr0 hs
   replace hBT := hBT.tr0 hs
   replace hb7 := hb7.tr0 hs
   replace ho := ho.tr0 hs
   replace hRw := hRw.tr hs (by simp)
   replace hzh := nLT hzh (Same.size hs)
   clear hs
   clear hr
   refine waI rfl ?_
   refine wl_stW hb11 rfl rfl sz33_GTgt rfl oneA (fun w18 hq hs => ?_)
   replace hB := hB.tr1 hs lo11
   replace hb2 := hb2.tr1 hs om
   replace hb4 := hb4.tr1 hs om
   replace hb6 := hb6.tr1 hs om
   replace hBT := hBT.tr1 hs lo_hBT_b11
   replace hb7 := hb7.tr1 hs om
   replace ho := ho.tr1 hs (fun g hg => by first | exact own_neA ho hb11 dE g hg | (have := (ho.lt g hg).1; (try have := or_ho_b11 g hg); omega))
   replace hRw := hRw.tr hs (fun g hg => by rw [List.mem_singleton.1 hg]; first | exact .inr (.inl ⟨_, _, hb11, by decide⟩) | exact .inl om)
   replace hzh := nLT hzh (Same.size hs)
   clear hs
   replace hb11 := hq
   refine x_nil (e_S (c_seq ?_))
   rw [htn] at hb11
   refine c_region (wl (r_fa U25 sz23_GLoose dE rfl rfl rfl) (wl (r_ld1 (v := .slice _ _ _) U23 rfl rfl (hb2.cell rfl)) (wl (r_len U23 rfl) (wmI rfl (x_nil ?_)))))
   refine e_S (c_block ?_)
   refine c_loopS [12, 13, 14, 48, 49, 50, 51, 52, 53, 54, 55, 56, 57, 58, 59, 60, 61, 62, 63, 64, 65, 66, 67, 68, 69, 70, 71, 72, 73, 74, 75, 76, 77, 78, 79, 80, 81, 82, 83, 84, 85, 86, 87, 88, 89, 90, 91, 92, 93, 94, 95, 96, 97] (fun m g w' => ∃ (k : Nat) (D : List Nd) (nm : List Nm) (N : Option Addr) (cN : Nat) (V : Nat → Value), k ≤ fs.length ∧ m = fs.length - k ∧ g 48 = .int .i64 k ∧ Rnd l fs C A D na nm i k ∧ D.length ≤ 60 + i * 40 + k ∧ Bel w w' ∧ Bel wT w' ∧ Blk w' b2 25 #[.slice A0 l.length c, .slice B fs.length d] ∧ Blk w' b4 28 #[.slice none 0 0] ∧ Blk w' b6 28 #[.slice (some ⟨nb, no, none⟩) A.length cO] ∧ Blk w' b7 28 #[.slice N D.length cN] ∧ Own w' zlo 33 2 N D.length cN (ndV (tyA D) V D.length) ∧ RowsG w' zlo D.length V (fun x => rowB D i k x) ∧ zlo ≤ w'.heap.size ∧ Blk w' b11 33 #[.int .i64 ((tn : Nat) : Int), .slice LA (A[i]'hil).ln.length lc] ∧ ∀ g ∈ aL N, g ≠ b11) (fs.length) ?_ (fun m g13 w19 hI => ?_)
   ·
    exact ⟨0, D, nm, N, cN, V, Nat.zero_le _, rfl, rfl, hR, hDb, hB, hBT, hb2, hb4, hb6, hb7, ho, hRw, hzh, hb11, fun g hg => Nat.ne_of_lt (or_ho_b11 g hg)⟩
   obtain ⟨k, D, nm, N, cN, V, hk, hm13, h48, hR, hDb, hB, hBT, hb2, hb4, hb6, hb7, ho, hRw, hzh, hb11, or_ho_b11⟩ := hI
   have hdge := hR.ge
   refine c_know 48 (.int .i64 k) h48 nu (c_seq (c_region (wl (r_lss rfl rfl) (x_nil (e_S ?_)))))
   refine c_seq ?_
   refine c_ifd rfl (fun c49 => ?_) (fun c49 => ?_)
   ·
    have hkl : k < fs.length := by omega
    obtain ⟨fb, fo, rfl, hfb, hfr2⟩ := hF.at_ (Below.refl _ _ : Bel w w) hkl
    have hff := hva.f.at_ k hkl
    obtain ⟨on, hon, honl⟩ : ∃ t : Nat, (fs[k]'hkl).of = (t : Int) ∧ t < l.length := ⟨(fs[k]'hkl).of.toNat, by omega, by omega⟩
    obtain ⟨vn, hvn, hvnl⟩ : ∃ t : Nat, (fs[k]'hkl).val = (t : Int) ∧ t < l.length := ⟨(fs[k]'hkl).val.toNat, by omega, by omega⟩
    have hfa : ftAt fs ((k : Nat) : Int) = fs[k] := by simp [ftAt, List.getD, hkl]
    have hof : (ftAt fs ((k : Nat) : Int)).of.toNat = on := by rw [hfa, hon]; rfl
    have hvl : (ftAt fs ((k : Nat) : Int)).val = (vn : Int) := by rw [hfa, hvn]
    refine c_skip (e_S (c_seq (c_block (c_seq (c_region ?_)))))
    refine wmI rfl (wl (r_ia (i := k) U23 sz63_GVal rfl rfl om rfl) (wl (r_ldS U63 rfl rfl (hB.range hfb hfr2) sz63_GVal) ?_))
    refine wl_al (cs := #[.string ⟨#[]⟩, .int .i64 0, .int .i64 0]) ze63_GVal rfl (fun b13 w20 hb13 hs hr => ?_)
    have or_b2_b13 : b2 < b13 := nLL hb2.lt hr
    have or_b4_b13 : b4 < b13 := nLL hb4.lt hr
    have or_b6_b13 : b6 < b13 := nLL hb6.lt hr
    have or_b7_b13 : b7 < b13 := nLL hb7.lt hr
    have or_b11_b13 : b11 < b13 := nLL hb11.lt hr
    have or_ho_b13 := (fun g hg => nLL (ho.lt g hg).2 hr)
    have or_hzh_b13 := (nLT hzh hr)
    have lo13 := nLT (Bel.size hB) hr
    have lo_hBT_b13 := nLT (Bel.size hBT) hr
    replace hB := hB.tr0 hs
    replace hb2 := hb2.tr0 hs
    replace hb4 := hb4.tr0 hs
    replace hb6 := hb6.tr0 hs
    replace hBT := hBT.tr0 hs
    replace hb7 := hb7.tr0 hs
    replace hb11 := hb11.tr0 hs
    replace ho := ho.tr0 hs
    replace hRw := hRw.tr hs (by simp)
    replace hzh := nLT hzh (Same.size hs)
    clear hs
    clear hr
    refine waI rfl ?_
    refine wl_stW hb13 rfl rfl sz63_GVal rfl oneA (fun w21 hq hs => ?_)
    replace hB := hB.tr1 hs lo13
    replace hb2 := hb2.tr1 hs om
    replace hb4 := hb4.tr1 hs om
    replace hb6 := hb6.tr1 hs om
    replace hBT := hBT.tr1 hs lo_hBT_b13
    replace hb7 := hb7.tr1 hs om
    replace hb11 := hb11.tr1 hs om
    replace ho := ho.tr1 hs (fun g hg => by first | exact own_neA ho hb13 dE g hg | (have := (ho.lt g hg).1; (try have := or_ho_b13 g hg); omega))
    replace hRw := hRw.tr hs (fun g hg => by rw [List.mem_singleton.1 hg]; first | exact .inr (.inl ⟨_, _, hb13, by decide⟩) | exact .inl om)
    replace hzh := nLT hzh (Same.size hs)
    clear hs
    replace hb13 := hq
    refine x_nil (e_S (c_seq ?_))
    rw [hon, hvn] at hb13
    refine c_region (wl (r_ldS U28 rfl rfl hb6.range0 sz28_GTgt) (wmI rfl (wmI rfl ?_)))
    refine wl_cl fn57 (rtarget_any (some ⟨nb, no, none⟩) cO A i ((k : Nat) : Int) _ (hNT.mono hBT) hil) rfl (fun e' w22 hr => ?_)
    obtain ⟨rfl, hs⟩ := hr
    replace hs := Same.of_bel hs
    replace hB := hB.tr0 hs
    replace hb2 := hb2.tr0 hs
    replace hb4 := hb4.tr0 hs
    replace hb6 := hb6.tr0 hs
    replace hBT := hBT.tr0 hs
    replace hb7 := hb7.tr0 hs
    replace hb11 := hb11.tr0 hs
    replace ho := ho.tr0 hs
    replace hRw := hRw.tr hs (by simp)
    replace hzh := nLT hzh (Same.size hs)
    replace hb13 := hb13.tr0 hs
    clear hs
    refine ⟨_, rfl, ?_⟩
    refine waI rfl (x_nil (e_S (c_seq (c_seq ?_))))
    refine c_cutS [57, 58, 59, 60, 61, 62, 63, 64, 65, 66, 67] (fun g w' => (g 67 = .bool (decide (tgt (A[i]'hil).ln ((k : Nat) : Int) < 0 ∧ sub l tn on = true))) ∧ Same [] w22 w') ?_ (fun g16 w23 hI => ?_)
    ·
     have hZ : SameQ [] w22 w22 := Same.refl _ _
     refine c_region (wmI rfl (wl (r_lss rfl rfl) (wmB rfl ?_)))
     refine wl_casesd 59 rfl (fun g59 => ?_) (fun g59 => ?_)
     ·
      refine wl_gd 59 rfl rfl (wl (r_fa U25 sz22_SFind dE rfl rfl rfl) (wl_gd 59 rfl rfl (wl (r_ld1 (v := .slice _ _ _) U22 rfl rfl (hb2.cell rfl)) (wl_gd 59 rfl rfl (wl (r_fa U33 sz3_GSearch dE rfl rfl rfl) ?_)))))
      refine wl_gd 59 rfl rfl (wl (r_ld1 (v := .int _ _) U3 rfl rfl (hb11.cell rfl)) (wl_gd 59 rfl rfl (wl (r_fa U63 sz3_GSearch dE rfl rfl rfl) (wl_gd 59 rfl rfl (wl (r_ld1 (v := .int _ _) U3 rfl rfl (hb13.cell rfl)) ?_)))))
      refine wl_gd 59 rfl rfl ?_
      refine wl_cl fn58_GVal (sub_any A0 c l tn on _ (hT.mono hB) hva.s.vt hva.s.le htnl honl) rfl (fun e' w24 hr => ?_)
      obtain ⟨rfl, hs⟩ := hr
      replace hs := Same.of_bel hs
      replace hB := hB.tr0 hs
      replace hb2 := hb2.tr0 hs
      replace hb4 := hb4.tr0 hs
      replace hb6 := hb6.tr0 hs
      replace hBT := hBT.tr0 hs
      replace hb7 := hb7.tr0 hs
      replace hb11 := hb11.tr0 hs
      replace ho := ho.tr0 hs
      replace hRw := hRw.tr hs (by simp)
      replace hzh := nLT hzh (Same.size hs)
      replace hb13 := hb13.tr0 hs
      replace hZ := SameQ.trans hZ hs (by simp)
      clear hs
      refine ⟨_, rfl, ?_⟩
      refine wl (r_pt (v := .bool _) rfl rfl) (x_nil ?_)
      refine e_R ⟨agA, ?_⟩
      refine ⟨?_, hZ⟩
      refine congrArg Value.bool ?_
      first
        | exact (decide_eq_false (fun h => g59 h.1)).symm
        | exact (by cases hsb : sub l tn on <;> simp [g59])
     refine wlgn 59 rfl rfl rfl (wlgn 59 rfl rfl rfl (wlgn 59 rfl rfl rfl (wlgn 59 rfl rfl rfl (wlgn 59 rfl rfl rfl (wlgn 59 rfl rfl rfl ?_)))))
     refine wlgn 59 rfl rfl rfl (wl (r_pf (v := .bool _) rfl rfl) (x_nil ?_))
     refine e_R ⟨agA, ?_⟩
     refine ⟨?_, hZ⟩
     refine congrArg Value.bool ?_
     first
       | exact (decide_eq_false (fun h => g59 h.1)).symm
       | exact (by cases hsb : sub l tn on <;> simp [g59])
    obtain ⟨hgp, hs⟩ := hI
    replace hB := hB.tr0 hs
    replace hb2 := hb2.tr0 hs
    replace hb4 := hb4.tr0 hs
    replace hb6 := hb6.tr0 hs
    replace hBT := hBT.tr0 hs
    replace hb7 := hb7.tr0 hs
    replace hb11 := hb11.tr0 hs
    replace ho := ho.tr0 hs
    replace hRw := hRw.tr hs (by simp)
    replace hzh := nLT hzh (Same.size hs)
    replace hb13 := hb13.tr0 hs
    clear hs
    refine e_know 67 (.bool (decide (tgt (A[i]'hil).ln ((k : Nat) : Int) < 0 ∧ sub l tn on = true))) hgp nu (e_S ?_)
    refine c_ifd rfl (fun c67 => ?_) (fun c67 => ?_)
    ·
     have hsubT : sub l (nd D i).ty.toNat (ftAt fs ((k : Nat) : Int)).of.toNat = true := by rw [hR.ty_ hil, htnd, hof]; exact c67.2
     have htgD : tgt (nd D i).ln ((k : Nat) : Int) < 0 := by rw [hR.tgt_ hil, nd_eq hil]; exact c67.1
     refine c_seq (c_region (wl (r_fa U28 sz26_GTgt dE rfl rfl rfl) (wl (r_ld1 (v := .slice _ _ _) U26 rfl rfl (hb7.cell rfl)) (wl (r_len U26 rfl) (waI rfl ?_)))))
     refine x_nil (e_S ?_)
     have or_ho_b7 := own_neA ho hb7 dE
     have or_ho_b13 := own_neA ho hb13 dE
     refine c_region (wl (r_fa U28 sz26_GTgt dE rfl rfl rfl) (wl (r_ld1 (v := .slice _ _ _) U26 rfl rfl (hb7.cell rfl)) (wl (r_fa U63 sz3_GSearch dE rfl rfl rfl) (wl (r_ld1 (v := .int _ _) U3 rfl rfl (hb13.cell rfl)) (wl (r_bd1 (v0 := .int _ _) (fun v0 => #[v0, .slice none 0 0]) rfl kR) ?_)))))
     refine wl_bs (cs := #[_, _]) [(0, .agg _)] rfl U26 sz33_GTgt ze33_GTgt dE dE kR rfl (fun b76 w25 hb76 hs hr => ?_)
     have or_b2_b76 : b2 < b76 := nLL hb2.lt hr
     have or_b4_b76 : b4 < b76 := nLL hb4.lt hr
     have or_b6_b76 : b6 < b76 := nLL hb6.lt hr
     have or_b7_b76 : b7 < b76 := nLL hb7.lt hr
     have or_b11_b76 : b11 < b76 := nLL hb11.lt hr
     have or_ho_b76 := (fun g hg => nLL (ho.lt g hg).2 hr)
     have or_hzh_b76 := (nLT hzh hr)
     have or_b13_b76 : b13 < b76 := nLL hb13.lt hr
     have lo76 := nLT (Bel.size hB) hr
     have lo_hBT_b76 := nLT (Bel.size hBT) hr
     replace hB := hB.tr0 hs
     replace hb2 := hb2.tr0 hs
     replace hb4 := hb4.tr0 hs
     replace hb6 := hb6.tr0 hs
     replace hBT := hBT.tr0 hs
     replace hb7 := hb7.tr0 hs
     replace hb11 := hb11.tr0 hs
     replace ho := ho.tr0 hs
     replace hRw := hRw.tr hs (by simp)
     replace hzh := nLT hzh (Same.size hs)
     replace hb13 := hb13.tr0 hs
     clear hs
     clear hr
     refine wl_app U26 in33 rfl dE ho hb76 rfl rfl rfl oneA dE om om hzh (fun g77 cap77 w26 ho77 hs hg => ?_)
     have ne_ho77_b2 : g77 ≠ b2 := fun e => by
      have hl := hb2.lt
      rcases hg with hg | hg
      · have h1 := ho.lt g77 (by rw [hg]; exact List.mem_singleton.2 rfl)
        (try have := or_ho_b2 g77 (by rw [hg]; exact List.mem_singleton.2 rfl)); omega
      · omega
     have ne_ho77_b4 : g77 ≠ b4 := fun e => by
      have hl := hb4.lt
      rcases hg with hg | hg
      · have h1 := ho.lt g77 (by rw [hg]; exact List.mem_singleton.2 rfl)
        (try have := or_ho_b4 g77 (by rw [hg]; exact List.mem_singleton.2 rfl)); omega
      · omega
     have ne_ho77_b6 : g77 ≠ b6 := fun e => by
      have hl := hb6.lt
      rcases hg with hg | hg
      · have h1 := ho.lt g77 (by rw [hg]; exact List.mem_singleton.2 rfl)
        (try have := or_ho_b6 g77 (by rw [hg]; exact List.mem_singleton.2 rfl)); omega
      · omega
     have ne_ho77_b7 : g77 ≠ b7 := fun e => by
      have hl := hb7.lt
      rcases hg with hg | hg
      · have h1 := ho.lt g77 (by rw [hg]; exact List.mem_singleton.2 rfl)
        (try have := or_ho_b7 g77 (by rw [hg]; exact List.mem_singleton.2 rfl)); omega
      · omega
     have ne_ho77_b11 : g77 ≠ b11 := fun e => by
      have hl := hb11.lt
      rcases hg with hg | hg
      · have h1 := ho.lt g77 (by rw [hg]; exact List.mem_singleton.2 rfl)
        (try have := or_ho_b11 g77 (by rw [hg]; exact List.mem_singleton.2 rfl)); omega
      · omega
     have ne_ho77_b13 : g77 ≠ b13 := fun e => by
      have hl := hb13.lt
      rcases hg with hg | hg
      · have h1 := ho.lt g77 (by rw [hg]; exact List.mem_singleton.2 rfl)
        (try have := or_ho_b13 g77 (by rw [hg]; exact List.mem_singleton.2 rfl)); omega
      · omega
     replace hB := hB.tr hs (fun g hg => nLT om (ho.lt g hg).1)
     replace hb2 := hb2.tr hs (fun hx => by have := (ho.lt _ hx).1; (try have := or_ho_b2 _ hx); omega)
     replace hb4 := hb4.tr hs (fun hx => by have := (ho.lt _ hx).1; (try have := or_ho_b4 _ hx); omega)
     replace hb6 := hb6.tr hs (fun hx => by have := (ho.lt _ hx).1; (try have := or_ho_b6 _ hx); omega)
     replace hBT := hBT.tr hs (fun g hg => nLT om (ho.lt g hg).1)
     replace hb7 := hb7.tr hs (fun hx => by have := (ho.lt _ hx).1; (try have := or_ho_b7 _ hx); omega)
     replace hb11 := hb11.tr hs (fun hx => by have := (ho.lt _ hx).1; (try have := or_ho_b11 _ hx); omega)
     replace hRw := hRw.tr hs (fun g hg => .inr (.inl (by obtain ⟨cs, hc⟩ := (ho).typ g hg; exact ⟨cs, _, hc, by decide⟩)))
     replace hzh := nLT hzh (Same.size hs)
     replace hb13 := hb13.tr hs (fun hx => by have := (ho.lt _ hx).1; (try have := or_ho_b13 _ hx); omega)
     obtain ⟨D2, hD2⟩ : ∃ z, z = addN D i k (ftAt fs ((k : Nat) : Int)).val := ⟨_, rfl⟩
     have hD2e : D2.length = D.length + 1 := by rw [hD2, addN_len]
     have hD2i : ∀ x, x < D.length → (nd D2 x).ty = (nd D x).ty := fun x hx => by
       by_cases e : x = i
       · subst e; rw [hD2, addN_at hx]
       · rw [hD2, addN_ne hx e]
     have hD2n : nd D2 D.length = ⟨(vn : Int), []⟩ := by rw [hD2, addN_new, hvl]
     obtain ⟨V2, hV2⟩ : ∃ z, z = putG V D.length (.slice none 0 0) := ⟨_, rfl⟩
     have ho : Own w26 zlo 33 2 (some ⟨g77, 0, none⟩) D2.length cap77 (ndV (tyA D2) V2 D2.length) := by
       rw [hD2e, hV2, ndV_snoc, ndV_congr (f' := tyA D) (h' := V) (fun x hx => by unfold tyA; rw [hD2i x hx]) (fun x hx => by unfold putG; rw [if_neg om])]
       have e1 : tyA D2 D.length = .int .i64 ((vn : Nat) : Int) := by unfold tyA; rw [hD2n]
       have e2 : putG V D.length (.slice none 0 0) D.length = .slice none 0 0 := by simp [putG]
       rw [e1, e2]
       exact ho77
     refine wl (r_fa U28 sz26_GTgt dE rfl rfl rfl) ?_
     refine wl_st1 (v := .slice _ _ _) hb7 rfl rfl sz26_GTgt (by first | decide | simp) rfl rfl (fun w27 hq hs => ?_)
     replace hB := hB.tr1 hs lo7
     replace hb2 := hb2.tr1 hs om
     replace hb4 := hb4.tr1 hs om
     replace hb6 := hb6.tr1 hs om
     replace hBT := hBT.tr1 hs lo_hBT_b7
     replace hb11 := hb11.tr1 hs om
     replace hRw := hRw.tr hs (fun g hg => by rw [List.mem_singleton.1 hg]; first | exact .inr (.inl ⟨_, _, hb7, by decide⟩) | exact .inl om)
     replace hzh := nLT hzh (Same.size hs)
     replace hb13 := hb13.tr1 hs om
     replace ho := ho.tr1 hs (fun g hg => by first | exact own_neA ho hb7 dE g hg | (have := (ho.lt g hg).1; (try have := or_ho_b7 g hg); omega))
     clear hs
     replace hb7 := hq
     replace hb7 : Blk w27 b7 28 #[.slice (some ⟨g77, 0, none⟩) D2.length cap77] := by rw [hD2e]; exact hb7
     replace hRw : RowsG w27 zlo D2.length V2 (fun x => rowB D2 i k x) := by
       have h := hRw.snoc
       rw [hD2e, hV2]
       refine h.congr (fun _ _ => rfl) (fun x hx => ?_)
       by_cases e : x = D.length
       · subst e
         simp only [if_true]
         unfold rowB
         rw [if_neg om, if_neg om]
       · simp only [if_neg e]
         rw [hD2]
         by_cases e2 : x = i
         · subst e2; exact (rowB_self om).symm
         · exact (rowB_add e2 om).symm
     obtain ⟨nm2, hR2⟩ : ∃ nm2, Rnd l fs C A D2 na nm2 i (k + 1) := by rw [hD2]; exact hR.add hC hil hkl hsubT htgD
     obtain ⟨toI, htoI⟩ : ∃ z : Int, z = ((D.length : Nat) : Int) := ⟨_, rfl⟩
     have hto : 0 ≤ toI → (((k : Nat) : Int), toI) ∈ (nd D2 i).ln := fun _ => by
       obtain ⟨jj, pp, hjj⟩ := hR.fd.at_ (show i < D.length by omega)
       rw [hD2, addN_at om, htoI]
       exact (insF_mem (tgt_neg (hR.fd.srt i om) (hR.fd.tpos hC hjj) htgD) _).2 (.inr rfl)
     have hnoT : toI < 0 → tgt (nd D2 i).ln ((k : Nat) : Int) < 0 := fun h => by omega
     have hD2l : D2.length ≤ 60 + i * 40 + (k + 1) := by omega
     obtain ⟨N2, hN2⟩ : ∃ z, z = some (⟨g77, 0, none⟩ : Addr) := ⟨_, rfl⟩
     rw [← hN2] at hb7 ho
     obtain ⟨cN2, rfl⟩ : ∃ z, z = cap77 := ⟨_, rfl⟩
     have or_ho_b11 : ∀ g ∈ aL N2, g ≠ b11 := fun g hg => by rw [hN2] at hg; rw [List.mem_singleton.1 hg]; exact ne_ho77_b11
     refine x_nil (e_S (c_seq (c_region (wmI rfl (wl (r_geq rfl rfl) ?_)))))
     refine x_nil (e_S ?_)
     refine c_ifd rfl (fun c80 => ?_) (fun c80 => ?_)
     ·
      have hmT := hto om
      have hdge2 := hR2.ge
      have hsrt2 := hR2.fd.srt i om
      have hiD : i < D2.length := by omega
      obtain ⟨gN, curN, eN, hgN3, hbN, hcs, hcv, hcb⟩ := ho.open_ om
      cases eN
      obtain ⟨AR, cR, hVk, hoR0⟩ := hRw.1 i hiD
      have hoR : Own w27 zlo 30 2 AR (rowB D2 i k i).length cR (lnV (rowB D2 i k i)) := hoR0
      clear hoR0
      have hVk : V2 i = .slice AR (rowB D2 i k i).length cR := hVk
      have hlw : (rowB D2 i k i).length ≤ 1000 := by have := rowB_few (k := k) (hR2.fd.srt i hiD) (hR2.fd.feats hC i hiD); omega
      have hcell : curN[0 + i * 2 + 1]? = some (.slice AR (rowB D2 i k i).length cR) := by
        rw [hcv _ om, Nat.zero_add, (ndV_get (tyA D2) V2 hiD).2, hVk]
      have or_hoR_b7 := own_neA hoR hb7 dE
      have or_hoR_b11 := own_neA hoR hb11 dE
      have or_hoR_b13 := own_neA hoR hb13 dE
      have or_hoR_gN := own_neA hoR hbN dE
      have nN7 : b7 ≠ gN := fun e => absurd (blk_type (e ▸ hb7) hbN) dE
      have nN11 : b11 ≠ gN := fun e => or_ho_b11 gN (List.mem_singleton.2 rfl) e.symm
      have nN13 : b13 ≠ gN := fun e => absurd (blk_type (e ▸ hb13) hbN) dE
      have zo := fun g hg => (hoR.lt g hg).2
      have lo_hBT_gN : wT.heap.size ≤ gN := by omega
      refine c_monoSO 16 [81, 82, 83, 84, 85, 86, 87, 88, 89, 90, 91, 92, 93, 94, 95, 96] (aL AR) 13 (fun ix v wv => match ix with | 0 => v = .pointer (some ⟨b7, 0, none⟩) | 1 => v = .slice (some ⟨gN, 0, none⟩) D2.length cN2 | 2 => v = .int .i64 ((i : Nat) : Int) | 3 => v = .pointer (some ⟨b7, 0, none⟩) | 4 => v = .slice (some ⟨gN, 0, none⟩) D2.length cN2 | 5 => v = .int .i64 ((i : Nat) : Int) | 6 => v = .pointer (some ⟨gN, 0 + i * 2, none⟩) | 7 => v = .pointer (some ⟨gN, 0 + i * 2 + 1, none⟩) | 8 => v = .slice AR (rowB D2 i k i).length cR | 9 => v = .int .i64 ((k : Nat) : Int) | 10 => v = .int .i64 toI | 11 => v = .agg #[.int .i64 ((k : Nat) : Int), .int .i64 toI] | 12 => ∃ b, v = .slice (some ⟨b, 0, none⟩) 1 1 ∧ w27.heap.size ≤ b ∧ Blk wv b 30 #[.int .i64 ((k : Nat) : Int), .int .i64 toI] | 13 => ∃ g cap, v = .slice (some ⟨g, 0, none⟩) ((rowB D2 i k i).length + 1) cap ∧ Own wv zlo 30 2 (some ⟨g, 0, none⟩) ((rowB D2 i k i).length + 1) cap (lnV (rowB D2 i k i) ++ [.int .i64 ((k : Nat) : Int), .int .i64 toI]) ∧ (aL AR = [g] ∨ w27.heap.size ≤ g) | 14 => v = .pointer (some ⟨gN, 0 + i * 2, none⟩) | 15 => v = .pointer (some ⟨gN, 0 + i * 2 + 1, none⟩) | _ => True) (fun _ => True) kR kR ?_ (fun _ _ _ _ => trivial) ?_ ?_ dE ?_
      ·
       intro ix v wv wv2 h hs
       match ix, h with
       | 0, h => exact h
       | 1, h => exact h
       | 2, h => exact h
       | 3, h => exact h
       | 4, h => exact h
       | 5, h => exact h
       | 6, h => exact h
       | 7, h => exact h
       | 8, h => exact h
       | 9, h => exact h
       | 10, h => exact h
       | 11, h => exact h
       | 12, h =>
        obtain ⟨b93, e93, lo93, hb93⟩ := (show ∃ b, v = .slice (some ⟨b, 0, none⟩) 1 1 ∧ w27.heap.size ≤ b ∧ Blk wv b 30 #[.int .i64 ((k : Nat) : Int), .int .i64 toI] from h)
        exact ⟨b93, e93, lo93, hb93.tr0 hs⟩
       | 13, h =>
        obtain ⟨g94, cap94, e94, ho94, hg94⟩ := (show ∃ g cap, v = .slice (some ⟨g, 0, none⟩) ((rowB D2 i k i).length + 1) cap ∧ Own wv zlo 30 2 (some ⟨g, 0, none⟩) ((rowB D2 i k i).length + 1) cap (lnV (rowB D2 i k i) ++ [.int .i64 ((k : Nat) : Int), .int .i64 toI]) ∧ (aL AR = [g] ∨ w27.heap.size ≤ g) from h)
        exact ⟨g94, cap94, e94, ho94.tr0 hs, hg94⟩
       | 14, h => exact h
       | 15, h => exact h
       | _ + 16, h => exact trivial
      ·
       intro ix o hix hne hoq gg wx hs hd
       match ix, hix, hne, hoq with
       | 0, _, _, hoq =>
        obtain rfl := sI hoq
        have hs0 := hs
        replace hb7 := hb7.tr hs (fun hx => by have := (hoR.lt _ hx).1; (try have := or_hoR_b7 _ hx); omega)
        refine os_rv (r_fa U28 sz26_GTgt dE rfl rfl rfl) ⟨Same.refl _ _, ?_⟩
        exact rfl
       | 1, _, _, hoq =>
        obtain rfl := sI hoq
        have hs0 := hs
        replace hb7 := hb7.tr hs (fun hx => by have := (hoR.lt _ hx).1; (try have := or_hoR_b7 _ hx); omega)
        have d0 : gg 81 = .pointer (some ⟨b7, 0, none⟩) := hd 0 (dep_of kR)
        have e81 := d0
        refine os_know 81 (.pointer (some ⟨b7, 0, none⟩)) e81 nu ?_
        refine os_rv (r_ld1 (v := .slice _ _ _) U26 rfl rfl (hb7.cell rfl)) ⟨Same.refl _ _, ?_⟩
        exact rfl
       | 2, _, _, hoq =>
        obtain rfl := sI hoq
        have hs0 := hs
        refine os_rv (r_mv (v := .int _ _) rfl) ⟨Same.refl _ _, ?_⟩
        exact rfl
       | 3, _, _, hoq =>
        obtain rfl := sI hoq
        have hs0 := hs
        replace hb7 := hb7.tr hs (fun hx => by have := (hoR.lt _ hx).1; (try have := or_hoR_b7 _ hx); omega)
        refine os_rv (r_fa U28 sz26_GTgt dE rfl rfl rfl) ⟨Same.refl _ _, ?_⟩
        exact rfl
       | 4, _, _, hoq =>
        obtain rfl := sI hoq
        have hs0 := hs
        replace hb7 := hb7.tr hs (fun hx => by have := (hoR.lt _ hx).1; (try have := or_hoR_b7 _ hx); omega)
        have d3 : gg 84 = .pointer (some ⟨b7, 0, none⟩) := hd 3 (dep_of kR)
        have e84 := d3
        refine os_know 84 (.pointer (some ⟨b7, 0, none⟩)) e84 nu ?_
        refine os_rv (r_ld1 (v := .slice _ _ _) U26 rfl rfl (hb7.cell rfl)) ⟨Same.refl _ _, ?_⟩
        exact rfl
       | 5, _, _, hoq =>
        obtain rfl := sI hoq
        have hs0 := hs
        refine os_rv (r_mv (v := .int _ _) rfl) ⟨Same.refl _ _, ?_⟩
        exact rfl
       | 6, _, _, hoq =>
        obtain rfl := sI hoq
        have hs0 := hs
        have d4 : gg 85 = .slice (some ⟨gN, 0, none⟩) D2.length cN2 := hd 4 (dep_of kR)
        have e85 := d4
        have d5 : gg 86 = .int .i64 ((i : Nat) : Int) := hd 5 (dep_of kR)
        have e86 := d5
        refine os_know 85 (.slice (some ⟨gN, 0, none⟩) D2.length cN2) e85 nu (os_know 86 (.int .i64 ((i : Nat) : Int)) e86 nu ?_)
        refine os_rv (r_ia (i := i) U26 sz33_GTgt rfl rfl hiD rfl) ⟨Same.refl _ _, ?_⟩
        exact rfl
       | 7, _, _, hoq =>
        obtain rfl := sI hoq
        have hs0 := hs
        have d6 : gg 87 = .pointer (some ⟨gN, 0 + i * 2, none⟩) := hd 6 (dep_of kR)
        have e87 := d6
        refine os_know 87 (.pointer (some ⟨gN, 0 + i * 2, none⟩)) e87 nu ?_
        refine os_rv (r_fa U33 sz31_GTgt dE rfl rfl rfl) ⟨Same.refl _ _, ?_⟩
        exact rfl
       | 8, _, _, hoq =>
        obtain rfl := sI hoq
        have hs0 := hs
        replace hbN := hbN.tr hs (fun hx => by have := (hoR.lt _ hx).1; (try have := or_hoR_gN _ hx); omega)
        have d7 : gg 88 = .pointer (some ⟨gN, 0 + i * 2 + 1, none⟩) := hd 7 (dep_of kR)
        have e88 := d7
        refine os_know 88 (.pointer (some ⟨gN, 0 + i * 2 + 1, none⟩)) e88 nu ?_
        refine os_rv (r_ld1 (v := .slice _ _ _) U31 rfl rfl (hbN.cell hcell)) ⟨Same.refl _ _, ?_⟩
        exact rfl
       | 9, _, _, hoq =>
        obtain rfl := sI hoq
        have hs0 := hs
        refine os_rv (r_mv (v := .int _ _) rfl) ⟨Same.refl _ _, ?_⟩
        exact rfl
       | 10, _, _, hoq =>
        obtain rfl := sI hoq
        have hs0 := hs
        refine os_rv (r_mv (v := .int _ _) rfl) ⟨Same.refl _ _, ?_⟩
        exact (by first | rfl | exact congrArg (fun n : Int => Value.int .i64 n) htoI.symm)
       | 11, _, _, hoq =>
        obtain rfl := sI hoq
        have hs0 := hs
        have d9 : gg 90 = .int .i64 ((k : Nat) : Int) := hd 9 (dep_of kR)
        have e90 := d9
        have d10 : gg 91 = .int .i64 toI := hd 10 (dep_of kR)
        have e91 := d10
        refine os_know 90 (.int .i64 ((k : Nat) : Int)) e90 nu (os_know 91 (.int .i64 toI) e91 nu ?_)
        refine os_rv (r_bd2 (v0 := .int _ _) (v1 := .int _ _) (fun v0 v1 => #[v0, v1]) rfl rfl kR) ⟨Same.refl _ _, ?_⟩
        exact rfl
       | 12, _, _, hoq =>
        obtain rfl := sI hoq
        have hs0 := hs
        have d11 : gg 92 = .agg #[.int .i64 ((k : Nat) : Int), .int .i64 toI] := hd 11 (dep_of kR)
        have e92 := d11
        refine os_know 92 (.agg #[.int .i64 ((k : Nat) : Int), .int .i64 toI]) e92 nu ?_
        refine os_wl (fun ops Q K => ?_)
        refine wl_bs (cs := #[_, _]) [(0, .agg _)] rfl U31 sz30_GSearch ze30_GTgt dE dE kR rfl (fun b93 w28 hb93 hs hr => ?_)
        exact K _ _ ⟨hs, ⟨_, rfl, nLT hs0.size hr, hb93⟩⟩
       | 13, _, hne, _ => exact absurd rfl hne
       | 14, _, _, hoq =>
        obtain rfl := sI hoq
        have hs0 := hs
        have d1 : gg 82 = .slice (some ⟨gN, 0, none⟩) D2.length cN2 := hd 1 (dep_of kR)
        have e82 := d1
        have d2 : gg 83 = .int .i64 ((i : Nat) : Int) := hd 2 (dep_of kR)
        have e83 := d2
        refine os_know 82 (.slice (some ⟨gN, 0, none⟩) D2.length cN2) e82 nu (os_know 83 (.int .i64 ((i : Nat) : Int)) e83 nu ?_)
        refine os_rv (r_ia (i := i) U26 sz33_GTgt rfl rfl hiD rfl) ⟨Same.refl _ _, ?_⟩
        exact rfl
       | 15, _, _, hoq =>
        obtain rfl := sI hoq
        have hs0 := hs
        have d14 : gg 95 = .pointer (some ⟨gN, 0 + i * 2, none⟩) := hd 14 (dep_of kR)
        have e95 := d14
        refine os_know 95 (.pointer (some ⟨gN, 0 + i * 2, none⟩)) e95 nu ?_
        refine os_rv (r_fa U33 sz31_GTgt dE rfl rfl rfl) ⟨Same.refl _ _, ?_⟩
        exact rfl
       | _ + 16, hix, _, _ => exact absurd hix om
      ·
       intro o hoq gg wx hs hd
       obtain rfl := sI hoq
       have hs0 := hs
       replace hB := hB.tr0 hs
       replace hb2 := hb2.tr0 hs
       replace hb4 := hb4.tr0 hs
       replace hb6 := hb6.tr0 hs
       replace hBT := hBT.tr0 hs
       replace hb7 := hb7.tr0 hs
       replace hb11 := hb11.tr0 hs
       replace hzh := nLT hzh (Same.size hs)
       replace hb13 := hb13.tr0 hs
       replace hbN := hbN.tr0 hs
       replace hoR := hoR.tr0 hs
       clear hs
       have d8 : gg 89 = .slice AR (rowB D2 i k i).length cR := hd 8 (dep_of kR)
       have e89 := d8
       have d12 : ∃ b, gg 93 = .slice (some ⟨b, 0, none⟩) 1 1 ∧ w27.heap.size ≤ b ∧ Blk wx b 30 #[.int .i64 ((k : Nat) : Int), .int .i64 toI] := hd 12 (dep_of kR)
       obtain ⟨b93, e93, lo93, hb93⟩ := d12
       refine os_know 89 (.slice AR (rowB D2 i k i).length cR) e89 nu (os_know 93 (.slice (some ⟨b93, 0, none⟩) 1 1) e93 nu ?_)
       refine os_wl (fun ops Q K => ?_)
       refine wl_app U31 in30 rfl dE hoR hb93 rfl rfl rfl oneA dE om om hzh (fun g94 cap94 w2 ho94 hs2 hg94 => ?_)
       refine K _ _ ⟨hs2, ⟨_, _, rfl, ho94, hg94.imp id (fun h => nLT hs0.size h)⟩, trivial, fun kx v hne h => ?_⟩
       match kx, hne, h with
       | 0, _, h => exact h
       | 1, _, h => exact h
       | 2, _, h => exact h
       | 3, _, h => exact h
       | 4, _, h => exact h
       | 5, _, h => exact h
       | 6, _, h => exact h
       | 7, _, h => exact h
       | 8, _, h => exact h
       | 9, _, h => exact h
       | 10, _, h => exact h
       | 11, _, h => exact h
       | 12, _, h =>
        obtain ⟨b93, e93, lo93, hb93⟩ := (show ∃ b, v = .slice (some ⟨b, 0, none⟩) 1 1 ∧ w27.heap.size ≤ b ∧ Blk wx b 30 #[.int .i64 ((k : Nat) : Int), .int .i64 toI] from h)
        exact ⟨b93, e93, lo93, hb93.tr hs2 (fun hx => by have := zo _ hx; omega)⟩
       | 13, hne, _ => exact absurd rfl hne
       | 14, _, h => exact h
       | 15, _, h => exact h
       | _ + 16, _, _ => exact trivial
      intro gg w29 hs _ hR
      have hs0 := hs
      replace hB := hB.tr hs (fun g hg => nLT om (hoR.lt g hg).1)
      replace hb2 := hb2.tr hs (fun hx => by have := (hoR.lt _ hx).1; (try have := or_hoR_b2 _ hx); omega)
      replace hb4 := hb4.tr hs (fun hx => by have := (hoR.lt _ hx).1; (try have := or_hoR_b4 _ hx); omega)
      replace hb6 := hb6.tr hs (fun hx => by have := (hoR.lt _ hx).1; (try have := or_hoR_b6 _ hx); omega)
      replace hBT := hBT.tr hs (fun g hg => nLT om (hoR.lt g hg).1)
      replace hb7 := hb7.tr hs (fun hx => by have := (hoR.lt _ hx).1; (try have := or_hoR_b7 _ hx); omega)
      replace hb11 := hb11.tr hs (fun hx => by have := (hoR.lt _ hx).1; (try have := or_hoR_b11 _ hx); omega)
      replace hzh := nLT hzh (Same.size hs)
      replace hb13 := hb13.tr hs (fun hx => by have := (hoR.lt _ hx).1; (try have := or_hoR_b13 _ hx); omega)
      replace hbN := hbN.tr hs (fun hx => by have := (hoR.lt _ hx).1; (try have := or_hoR_gN _ hx); omega)
      have d13 : ∃ g cap, gg 94 = .slice (some ⟨g, 0, none⟩) ((rowB D2 i k i).length + 1) cap ∧ Own w29 zlo 30 2 (some ⟨g, 0, none⟩) ((rowB D2 i k i).length + 1) cap (lnV (rowB D2 i k i) ++ [.int .i64 ((k : Nat) : Int), .int .i64 toI]) ∧ (aL AR = [g] ∨ w27.heap.size ≤ g) := hR 13 dE
      obtain ⟨g94, cap94, e94, ho94, hg94⟩ := d13
      have d14 : gg 95 = .pointer (some ⟨gN, 0 + i * 2, none⟩) := hR 14 dE
      have e95 := d14
      have d15 : gg 96 = .pointer (some ⟨gN, 0 + i * 2 + 1, none⟩) := hR 15 dE
      have e96 := d15
      have hRw := hRw.app (y := (((k : Nat) : Int), toI)) hiD hVk hs0 ho94 hg94
      refine wl_know 94 (.slice (some ⟨g94, 0, none⟩) ((rowB D2 i k i).length + 1) cap94) e94 nu (wl_know 95 (.pointer (some ⟨gN, 0 + i * 2, none⟩)) e95 nu (wl_know 96 (.pointer (some ⟨gN, 0 + i * 2 + 1, none⟩)) e96 nu ?_))
      refine wl_st1 (v := .slice _ _ _) hbN rfl rfl sz31_GTgt (by show 0 + i * 2 + 1 < curN.size; omega) rfl rfl (fun w30 hq hs => ?_)
      replace hB := hB.tr1 hs om
      replace hb2 := hb2.tr1 hs om
      replace hb4 := hb4.tr1 hs om
      replace hb6 := hb6.tr1 hs om
      replace hBT := hBT.tr1 hs lo_hBT_gN
      replace hb7 := hb7.tr1 hs om
      replace hb11 := hb11.tr1 hs om
      replace hzh := nLT hzh (Same.size hs)
      replace hb13 := hb13.tr1 hs om
      replace hRw := hRw.tr hs (fun g hg => by rw [List.mem_singleton.1 hg]; first | exact .inr (.inl ⟨_, _, hbN, by decide⟩) | exact .inl om)
      clear hs
      replace hbN := hq
      have ho := hcb w30 _ _ hbN
      rw [ndV_set1] at ho
      replace hRw := hRw.congr (V' := fun x => if x = i then .slice (some ⟨g94, 0, none⟩) ((rowB D2 i k i).length + 1) cap94 else V2 x) (L' := fun x => rowB D2 i (k + 1) x) (fun x hx => rfl) (fun x hx => by
        by_cases e : x = i
        · subst e
          rw [rowB_yes hsrt2 hmT]
          simp
        · rw [rowB_other (k := k + 1) (k' := k) e]
          simp [e])
      refine x_nil (e_B (e_S (c_region (wl (r_add rfl rfl rfl om) (wmI rfl ?_)))))
      refine x_nil (e_LS (fs.length - (k + 1)) (lt_next hm13 hkl) agA ?_)
      exact ⟨k + 1, D2, nm2, _, _, _, by omega, rfl, rfl, hR2, by omega, hB, hBT, hb2, hb4, hb6, hb7, ho, hRw, hzh, hb11, or_ho_b11⟩
     have hnoF : tgt (nd D2 i).ln ((k : Nat) : Int) < 0 := hnoT om
     have hdge2 := hR2.ge
     replace hRw : RowsG w27 zlo D2.length V2 (fun x => rowB D2 i (k + 1) x) := hRw.congr (fun _ _ => rfl) (fun x hx => by
       by_cases e : x = i
       · subst e
         obtain ⟨jj, pp, hjj⟩ := hR2.fd.at_ hx
         exact (rowB_no (hR2.fd.tpos hC hjj) (hR2.fd.srt x hx) hnoF).symm
       · exact rowB_other e)
     refine c_skip (e_B (e_S (c_region (wl (r_add rfl rfl rfl om) (wmI rfl ?_)))))
     refine x_nil (e_LS (fs.length - (k + 1)) (lt_next hm13 hkl) agA ?_)
     exact ⟨k + 1, D2, nm2, _, _, _, by omega, rfl, rfl, hR2, by omega, hB, hBT, hb2, hb4, hb6, hb7, ho, hRw, hzh, hb11, or_ho_b11⟩
    obtain ⟨D2, rfl⟩ : ∃ z, z = D := ⟨_, rfl⟩
    obtain ⟨nm2, rfl⟩ : ∃ z, z = nm := ⟨_, rfl⟩
    obtain ⟨V2, rfl⟩ : ∃ z, z = V := ⟨_, rfl⟩
    obtain ⟨cN2, rfl⟩ : ∃ z, z = cN := ⟨_, rfl⟩
    obtain ⟨toI, htoI⟩ : ∃ z : Int, z = tgt (A[i]'hil).ln ((k : Nat) : Int) := ⟨_, rfl⟩
    have hR2 := hR.skip (fun hs => by
      rw [hR.ty_ hil, htnd, hof] at hs
      rw [hR.tgt_ hil, nd_eq hil]
      exact Int.not_lt.1 (fun h => c67 ⟨h, hs⟩))
    have hto : 0 ≤ toI → (((k : Nat) : Int), toI) ∈ (nd D2 i).ln := fun h => by
      have h1 := mem_tgt (xs := (nd D2 i).ln) (f := ((k : Nat) : Int)) (by rw [hR.tgt_ hil, nd_eq hil, ← htoI]; exact h)
      rw [hR.tgt_ hil, nd_eq hil, ← htoI] at h1
      exact h1
    have hnoT : toI < 0 → tgt (nd D2 i).ln ((k : Nat) : Int) < 0 := fun h => by rw [hR.tgt_ hil, nd_eq hil, ← htoI]; exact h
    have hD2l : D2.length ≤ 60 + i * 40 + (k + 1) := by omega
    refine c_skip (e_S (c_seq (c_region (wmI rfl (wl (r_geq rfl rfl) ?_)))))
    refine x_nil (e_S ?_)
    refine c_ifd rfl (fun c80 => ?_) (fun c80 => ?_)
    ·
     have hmT := hto om
     have hdge2 := hR2.ge
     have hsrt2 := hR2.fd.srt i om
     have hiD : i < D2.length := by omega
     obtain ⟨gN, curN, eN, hgN3, hbN, hcs, hcv, hcb⟩ := ho.open_ om
     cases eN
     obtain ⟨AR, cR, hVk, hoR0⟩ := hRw.1 i hiD
     have hoR : Own w23 zlo 30 2 AR (rowB D2 i k i).length cR (lnV (rowB D2 i k i)) := hoR0
     clear hoR0
     have hVk : V2 i = .slice AR (rowB D2 i k i).length cR := hVk
     have hlw : (rowB D2 i k i).length ≤ 1000 := by have := rowB_few (k := k) (hR2.fd.srt i hiD) (hR2.fd.feats hC i hiD); omega
     have hcell : curN[0 + i * 2 + 1]? = some (.slice AR (rowB D2 i k i).length cR) := by
       rw [hcv _ om, Nat.zero_add, (ndV_get (tyA D2) V2 hiD).2, hVk]
     have or_hoR_b7 := own_neA hoR hb7 dE
     have or_hoR_b11 := own_neA hoR hb11 dE
     have or_hoR_b13 := own_neA hoR hb13 dE
     have or_hoR_gN := own_neA hoR hbN dE
     have nN7 : b7 ≠ gN := fun e => absurd (blk_type (e ▸ hb7) hbN) dE
     have nN11 : b11 ≠ gN := fun e => or_ho_b11 gN (List.mem_singleton.2 rfl) e.symm
     have nN13 : b13 ≠ gN := fun e => absurd (blk_type (e ▸ hb13) hbN) dE
     have zo := fun g hg => (hoR.lt g hg).2
     have lo_hBT_gN : wT.heap.size ≤ gN := by omega
     refine c_monoSO 16 [81, 82, 83, 84, 85, 86, 87, 88, 89, 90, 91, 92, 93, 94, 95, 96] (aL AR) 13 (fun ix v wv => match ix with | 0 => v = .pointer (some ⟨b7, 0, none⟩) | 1 => v = .slice (some ⟨gN, 0, none⟩) D2.length cN2 | 2 => v = .int .i64 ((i : Nat) : Int) | 3 => v = .pointer (some ⟨b7, 0, none⟩) | 4 => v = .slice (some ⟨gN, 0, none⟩) D2.length cN2 | 5 => v = .int .i64 ((i : Nat) : Int) | 6 => v = .pointer (some ⟨gN, 0 + i * 2, none⟩) | 7 => v = .pointer (some ⟨gN, 0 + i * 2 + 1, none⟩) | 8 => v = .slice AR (rowB D2 i k i).length cR | 9 => v = .int .i64 ((k : Nat) : Int) | 10 => v = .int .i64 toI | 11 => v = .agg #[.int .i64 ((k : Nat) : Int), .int .i64 toI] | 12 => ∃ b, v = .slice (some ⟨b, 0, none⟩) 1 1 ∧ w23.heap.size ≤ b ∧ Blk wv b 30 #[.int .i64 ((k : Nat) : Int), .int .i64 toI] | 13 => ∃ g cap, v = .slice (some ⟨g, 0, none⟩) ((rowB D2 i k i).length + 1) cap ∧ Own wv zlo 30 2 (some ⟨g, 0, none⟩) ((rowB D2 i k i).length + 1) cap (lnV (rowB D2 i k i) ++ [.int .i64 ((k : Nat) : Int), .int .i64 toI]) ∧ (aL AR = [g] ∨ w23.heap.size ≤ g) | 14 => v = .pointer (some ⟨gN, 0 + i * 2, none⟩) | 15 => v = .pointer (some ⟨gN, 0 + i * 2 + 1, none⟩) | _ => True) (fun _ => True) kR kR ?_ (fun _ _ _ _ => trivial) ?_ ?_ dE ?_
     ·
      intro ix v wv wv2 h hs
      match ix, h with
      | 0, h => exact h
      | 1, h => exact h
      | 2, h => exact h
      | 3, h => exact h
      | 4, h => exact h
      | 5, h => exact h
      | 6, h => exact h
      | 7, h => exact h
      | 8, h => exact h
      | 9, h => exact h
      | 10, h => exact h
      | 11, h => exact h
      | 12, h =>
       obtain ⟨b93, e93, lo93, hb93⟩ := (show ∃ b, v = .slice (some ⟨b, 0, none⟩) 1 1 ∧ w23.heap.size ≤ b ∧ Blk wv b 30 #[.int .i64 ((k : Nat) : Int), .int .i64 toI] from h)
       exact ⟨b93, e93, lo93, hb93.tr0 hs⟩
      | 13, h =>
       obtain ⟨g94, cap94, e94, ho94, hg94⟩ := (show ∃ g cap, v = .slice (some ⟨g, 0, none⟩) ((rowB D2 i k i).length + 1) cap ∧ Own wv zlo 30 2 (some ⟨g, 0, none⟩) ((rowB D2 i k i).length + 1) cap (lnV (rowB D2 i k i) ++ [.int .i64 ((k : Nat) : Int), .int .i64 toI]) ∧ (aL AR = [g] ∨ w23.heap.size ≤ g) from h)
       exact ⟨g94, cap94, e94, ho94.tr0 hs, hg94⟩
      | 14, h => exact h
      | 15, h => exact h
      | _ + 16, h => exact trivial
     ·
      intro ix o hix hne hoq gg wx hs hd
      match ix, hix, hne, hoq with
      | 0, _, _, hoq =>
       obtain rfl := sI hoq
       have hs0 := hs
       replace hb7 := hb7.tr hs (fun hx => by have := (hoR.lt _ hx).1; (try have := or_hoR_b7 _ hx); omega)
       refine os_rv (r_fa U28 sz26_GTgt dE rfl rfl rfl) ⟨Same.refl _ _, ?_⟩
       exact rfl
      | 1, _, _, hoq =>
       obtain rfl := sI hoq
       have hs0 := hs
       replace hb7 := hb7.tr hs (fun hx => by have := (hoR.lt _ hx).1; (try have := or_hoR_b7 _ hx); omega)
       have d0 : gg 81 = .pointer (some ⟨b7, 0, none⟩) := hd 0 (dep_of kR)
       have e81 := d0
       refine os_know 81 (.pointer (some ⟨b7, 0, none⟩)) e81 nu ?_
       refine os_rv (r_ld1 (v := .slice _ _ _) U26 rfl rfl (hb7.cell rfl)) ⟨Same.refl _ _, ?_⟩
       exact rfl
      | 2, _, _, hoq =>
       obtain rfl := sI hoq
       have hs0 := hs
       refine os_rv (r_mv (v := .int _ _) rfl) ⟨Same.refl _ _, ?_⟩
       exact rfl
      | 3, _, _, hoq =>
       obtain rfl := sI hoq
       have hs0 := hs
       replace hb7 := hb7.tr hs (fun hx => by have := (hoR.lt _ hx).1; (try have := or_hoR_b7 _ hx); omega)
       refine os_rv (r_fa U28 sz26_GTgt dE rfl rfl rfl) ⟨Same.refl _ _, ?_⟩
       exact rfl
      | 4, _, _, hoq =>
       obtain rfl := sI hoq
       have hs0 := hs
       replace hb7 := hb7.tr hs (fun hx => by have := (hoR.lt _ hx).1; (try have := or_hoR_b7 _ hx); omega)
       have d3 : gg 84 = .pointer (some ⟨b7, 0, none⟩) := hd 3 (dep_of kR)
       have e84 := d3
       refine os_know 84 (.pointer (some ⟨b7, 0, none⟩)) e84 nu ?_
       refine os_rv (r_ld1 (v := .slice _ _ _) U26 rfl rfl (hb7.cell rfl)) ⟨Same.refl _ _, ?_⟩
       exact rfl
      | 5, _, _, hoq =>
       obtain rfl := sI hoq
       have hs0 := hs
       refine os_rv (r_mv (v := .int _ _) rfl) ⟨Same.refl _ _, ?_⟩
       exact rfl
      | 6, _, _, hoq =>
       obtain rfl := sI hoq
       have hs0 := hs
       have d4 : gg 85 = .slice (some ⟨gN, 0, none⟩) D2.length cN2 := hd 4 (dep_of kR)
       have e85 := d4
       have d5 : gg 86 = .int .i64 ((i : Nat) : Int) := hd 5 (dep_of kR)
       have e86 := d5
       refine os_know 85 (.slice (some ⟨gN, 0, none⟩) D2.length cN2) e85 nu (os_know 86 (.int .i64 ((i : Nat) : Int)) e86 nu ?_)
       refine os_rv (r_ia (i := i) U26 sz33_GTgt rfl rfl hiD rfl) ⟨Same.refl _ _, ?_⟩
       exact rfl
      | 7, _, _, hoq =>
       obtain rfl := sI hoq
       have hs0 := hs
       have d6 : gg 87 = .pointer (some ⟨gN, 0 + i * 2, none⟩) := hd 6 (dep_of kR)
       have e87 := d6
       refine os_know 87 (.pointer (some ⟨gN, 0 + i * 2, none⟩)) e87 nu ?_
       refine os_rv (r_fa U33 sz31_GTgt dE rfl rfl rfl) ⟨Same.refl _ _, ?_⟩
       exact rfl
      | 8, _, _, hoq =>
       obtain rfl := sI hoq
       have hs0 := hs
       replace hbN := hbN.tr hs (fun hx => by have := (hoR.lt _ hx).1; (try have := or_hoR_gN _ hx); omega)
       have d7 : gg 88 = .pointer (some ⟨gN, 0 + i * 2 + 1, none⟩) := hd 7 (dep_of kR)
       have e88 := d7
       refine os_know 88 (.pointer (some ⟨gN, 0 + i * 2 + 1, none⟩)) e88 nu ?_
       refine os_rv (r_ld1 (v := .slice _ _ _) U31 rfl rfl (hbN.cell hcell)) ⟨Same.refl _ _, ?_⟩
       exact rfl
      | 9, _, _, hoq =>
       obtain rfl := sI hoq
       have hs0 := hs
       refine os_rv (r_mv (v := .int _ _) rfl) ⟨Same.refl _ _, ?_⟩
       exact rfl
      | 10, _, _, hoq =>
       obtain rfl := sI hoq
       have hs0 := hs
       refine os_rv (r_mv (v := .int _ _) rfl) ⟨Same.refl _ _, ?_⟩
       exact (by first | rfl | exact congrArg (fun n : Int => Value.int .i64 n) htoI.symm)
      | 11, _, _, hoq =>
       obtain rfl := sI hoq
       have hs0 := hs
       have d9 : gg 90 = .int .i64 ((k : Nat) : Int) := hd 9 (dep_of kR)
       have e90 := d9
       have d10 : gg 91 = .int .i64 toI := hd 10 (dep_of kR)
       have e91 := d10
       refine os_know 90 (.int .i64 ((k : Nat) : Int)) e90 nu (os_know 91 (.int .i64 toI) e91 nu ?_)
       refine os_rv (r_bd2 (v0 := .int _ _) (v1 := .int _ _) (fun v0 v1 => #[v0, v1]) rfl rfl kR) ⟨Same.refl _ _, ?_⟩
       exact rfl
      | 12, _, _, hoq =>
       obtain rfl := sI hoq
       have hs0 := hs
       have d11 : gg 92 = .agg #[.int .i64 ((k : Nat) : Int), .int .i64 toI] := hd 11 (dep_of kR)
       have e92 := d11
       refine os_know 92 (.agg #[.int .i64 ((k : Nat) : Int), .int .i64 toI]) e92 nu ?_
       refine os_wl (fun ops Q K => ?_)
       refine wl_bs (cs := #[_, _]) [(0, .agg _)] rfl U31 sz30_GSearch ze30_GTgt dE dE kR rfl (fun b93 w31 hb93 hs hr => ?_)
       exact K _ _ ⟨hs, ⟨_, rfl, nLT hs0.size hr, hb93⟩⟩
      | 13, _, hne, _ => exact absurd rfl hne
      | 14, _, _, hoq =>
       obtain rfl := sI hoq
       have hs0 := hs
       have d1 : gg 82 = .slice (some ⟨gN, 0, none⟩) D2.length cN2 := hd 1 (dep_of kR)
       have e82 := d1
       have d2 : gg 83 = .int .i64 ((i : Nat) : Int) := hd 2 (dep_of kR)
       have e83 := d2
       refine os_know 82 (.slice (some ⟨gN, 0, none⟩) D2.length cN2) e82 nu (os_know 83 (.int .i64 ((i : Nat) : Int)) e83 nu ?_)
       refine os_rv (r_ia (i := i) U26 sz33_GTgt rfl rfl hiD rfl) ⟨Same.refl _ _, ?_⟩
       exact rfl
      | 15, _, _, hoq =>
       obtain rfl := sI hoq
       have hs0 := hs
       have d14 : gg 95 = .pointer (some ⟨gN, 0 + i * 2, none⟩) := hd 14 (dep_of kR)
       have e95 := d14
       refine os_know 95 (.pointer (some ⟨gN, 0 + i * 2, none⟩)) e95 nu ?_
       refine os_rv (r_fa U33 sz31_GTgt dE rfl rfl rfl) ⟨Same.refl _ _, ?_⟩
       exact rfl
      | _ + 16, hix, _, _ => exact absurd hix om
     ·
      intro o hoq gg wx hs hd
      obtain rfl := sI hoq
      have hs0 := hs
      replace hB := hB.tr0 hs
      replace hb2 := hb2.tr0 hs
      replace hb4 := hb4.tr0 hs
      replace hb6 := hb6.tr0 hs
      replace hBT := hBT.tr0 hs
      replace hb7 := hb7.tr0 hs
      replace hb11 := hb11.tr0 hs
      replace hzh := nLT hzh (Same.size hs)
      replace hb13 := hb13.tr0 hs
      replace hbN := hbN.tr0 hs
      replace hoR := hoR.tr0 hs
      clear hs
      have d8 : gg 89 = .slice AR (rowB D2 i k i).length cR := hd 8 (dep_of kR)
      have e89 := d8
      have d12 : ∃ b, gg 93 = .slice (some ⟨b, 0, none⟩) 1 1 ∧ w23.heap.size ≤ b ∧ Blk wx b 30 #[.int .i64 ((k : Nat) : Int), .int .i64 toI] := hd 12 (dep_of kR)
      obtain ⟨b93, e93, lo93, hb93⟩ := d12
      refine os_know 89 (.slice AR (rowB D2 i k i).length cR) e89 nu (os_know 93 (.slice (some ⟨b93, 0, none⟩) 1 1) e93 nu ?_)
      refine os_wl (fun ops Q K => ?_)
      refine wl_app U31 in30 rfl dE hoR hb93 rfl rfl rfl oneA dE om om hzh (fun g94 cap94 w2 ho94 hs2 hg94 => ?_)
      refine K _ _ ⟨hs2, ⟨_, _, rfl, ho94, hg94.imp id (fun h => nLT hs0.size h)⟩, trivial, fun kx v hne h => ?_⟩
      match kx, hne, h with
      | 0, _, h => exact h
      | 1, _, h => exact h
      | 2, _, h => exact h
      | 3, _, h => exact h
      | 4, _, h => exact h
      | 5, _, h => exact h
      | 6, _, h => exact h
      | 7, _, h => exact h
      | 8, _, h => exact h
      | 9, _, h => exact h
      | 10, _, h => exact h
      | 11, _, h => exact h
      | 12, _, h =>
       obtain ⟨b93, e93, lo93, hb93⟩ := (show ∃ b, v = .slice (some ⟨b, 0, none⟩) 1 1 ∧ w23.heap.size ≤ b ∧ Blk wx b 30 #[.int .i64 ((k : Nat) : Int), .int .i64 toI] from h)
       exact ⟨b93, e93, lo93, hb93.tr hs2 (fun hx => by have := zo _ hx; omega)⟩
      | 13, hne, _ => exact absurd rfl hne
      | 14, _, h => exact h
      | 15, _, h => exact h
      | _ + 16, _, _ => exact trivial
     intro gg w32 hs _ hR
     have hs0 := hs
     replace hB := hB.tr hs (fun g hg => nLT om (hoR.lt g hg).1)
     replace hb2 := hb2.tr hs (fun hx => by have := (hoR.lt _ hx).1; (try have := or_hoR_b2 _ hx); omega)
     replace hb4 := hb4.tr hs (fun hx => by have := (hoR.lt _ hx).1; (try have := or_hoR_b4 _ hx); omega)
     replace hb6 := hb6.tr hs (fun hx => by have := (hoR.lt _ hx).1; (try have := or_hoR_b6 _ hx); omega)
     replace hBT := hBT.tr hs (fun g hg => nLT om (hoR.lt g hg).1)
     replace hb7 := hb7.tr hs (fun hx => by have := (hoR.lt _ hx).1; (try have := or_hoR_b7 _ hx); omega)
     replace hb11 := hb11.tr hs (fun hx => by have := (hoR.lt _ hx).1; (try have := or_hoR_b11 _ hx); omega)
     replace hzh := nLT hzh (Same.size hs)
     replace hb13 := hb13.tr hs (fun hx => by have := (hoR.lt _ hx).1; (try have := or_hoR_b13 _ hx); omega)
     replace hbN := hbN.tr hs (fun hx => by have := (hoR.lt _ hx).1; (try have := or_hoR_gN _ hx); omega)
     have d13 : ∃ g cap, gg 94 = .slice (some ⟨g, 0, none⟩) ((rowB D2 i k i).length + 1) cap ∧ Own w32 zlo 30 2 (some ⟨g, 0, none⟩) ((rowB D2 i k i).length + 1) cap (lnV (rowB D2 i k i) ++ [.int .i64 ((k : Nat) : Int), .int .i64 toI]) ∧ (aL AR = [g] ∨ w23.heap.size ≤ g) := hR 13 dE
     obtain ⟨g94, cap94, e94, ho94, hg94⟩ := d13
     have d14 : gg 95 = .pointer (some ⟨gN, 0 + i * 2, none⟩) := hR 14 dE
     have e95 := d14
     have d15 : gg 96 = .pointer (some ⟨gN, 0 + i * 2 + 1, none⟩) := hR 15 dE
     have e96 := d15
     have hRw := hRw.app (y := (((k : Nat) : Int), toI)) hiD hVk hs0 ho94 hg94
     refine wl_know 94 (.slice (some ⟨g94, 0, none⟩) ((rowB D2 i k i).length + 1) cap94) e94 nu (wl_know 95 (.pointer (some ⟨gN, 0 + i * 2, none⟩)) e95 nu (wl_know 96 (.pointer (some ⟨gN, 0 + i * 2 + 1, none⟩)) e96 nu ?_))
     refine wl_st1 (v := .slice _ _ _) hbN rfl rfl sz31_GTgt (by show 0 + i * 2 + 1 < curN.size; omega) rfl rfl (fun w33 hq hs => ?_)
     replace hB := hB.tr1 hs om
     replace hb2 := hb2.tr1 hs om
     replace hb4 := hb4.tr1 hs om
     replace hb6 := hb6.tr1 hs om
     replace hBT := hBT.tr1 hs lo_hBT_gN
     replace hb7 := hb7.tr1 hs om
     replace hb11 := hb11.tr1 hs om
     replace hzh := nLT hzh (Same.size hs)
     replace hb13 := hb13.tr1 hs om
     replace hRw := hRw.tr hs (fun g hg => by rw [List.mem_singleton.1 hg]; first | exact .inr (.inl ⟨_, _, hbN, by decide⟩) | exact .inl om)
     clear hs
     replace hbN := hq
     have ho := hcb w33 _ _ hbN
     rw [ndV_set1] at ho
     replace hRw := hRw.congr (V' := fun x => if x = i then .slice (some ⟨g94, 0, none⟩) ((rowB D2 i k i).length + 1) cap94 else V2 x) (L' := fun x => rowB D2 i (k + 1) x) (fun x hx => rfl) (fun x hx => by
       by_cases e : x = i
       · subst e
         rw [rowB_yes hsrt2 hmT]
         simp
       · rw [rowB_other (k := k + 1) (k' := k) e]
         simp [e])
     refine x_nil (e_B (e_S (c_region (wl (r_add rfl rfl rfl om) (wmI rfl ?_)))))
     refine x_nil (e_LS (fs.length - (k + 1)) (lt_next hm13 hkl) agA ?_)
     exact ⟨k + 1, D2, nm2, _, _, _, by omega, rfl, rfl, hR2, by omega, hB, hBT, hb2, hb4, hb6, hb7, ho, hRw, hzh, hb11, or_ho_b11⟩
    have hnoF : tgt (nd D2 i).ln ((k : Nat) : Int) < 0 := hnoT om
    have hdge2 := hR2.ge
    replace hRw : RowsG w23 zlo D2.length V2 (fun x => rowB D2 i (k + 1) x) := hRw.congr (fun _ _ => rfl) (fun x hx => by
      by_cases e : x = i
      · subst e
        obtain ⟨jj, pp, hjj⟩ := hR2.fd.at_ hx
        exact (rowB_no (hR2.fd.tpos hC hjj) (hR2.fd.srt x hx) hnoF).symm
      · exact rowB_other e)
    refine c_skip (e_B (e_S (c_region (wl (r_add rfl rfl rfl om) (wmI rfl ?_)))))
    refine x_nil (e_LS (fs.length - (k + 1)) (lt_next hm13 hkl) agA ?_)
    exact ⟨k + 1, D2, nm2, _, _, _, by omega, rfl, rfl, hR2, by omega, hB, hBT, hb2, hb4, hb6, hb7, ho, hRw, hzh, hb11, or_ho_b11⟩
   have hke : k = fs.length := by omega
   subst hke
   refine c_exit (e_Sx (e_LSx (e_Bx (e_B (e_S ?_)))))
   refine c_region (wl (r_add rfl rfl rfl om) (wmI rfl (x_nil (e_LS (A.length - (i + 1)) om agA ?_))))
   exact ⟨i + 1, D, nm, N, cN, V, by omega, rfl, rfl, hR.row, by omega, hB, hBT, hb2, hb4, hb6, hb7, ho, hRw.congr (fun _ _ => rfl) (fun x hx => hR.rows_next hC hil hx), hzh⟩
  have hie : i = A.length := by omega
  subst hie
  have hgrow := hR.grow hnt
  replace hRw : RowsG w16 zlo D.length V (fun x => (nd D x).ln) := hRw.congr (fun _ _ => rfl) (fun x hx => hR.rows_end hC hx)
  refine c_exit (e_Sx (e_LSx (e_Bx (e_S (c_seq ?_)))))
  refine c_seq (c_region (wl (r_fa U28 sz26_GTgt dE rfl rfl rfl) (wl (r_ld1 (v := .slice _ _ _) U26 rfl rfl (hb7.cell rfl)) (wl (r_len U26 rfl) (wl (r_gtr rfl rfl) ?_)))))
  refine x_nil (e_S ?_)
  refine c_ifd rfl (fun c102 => ?_) (fun c102 => ?_)
  ·
   have hmany := hR.fd.over2 om
   refine c_seq (c_region (wl (r_bd (vs := #[]) (cs := #[.slice none 0 0]) (by simp) kR) ?_))
   refine wl_stW hb4 rfl rfl sz28_GTgt rfl oneA (fun w34 hq hs => ?_)
   replace hB := hB.tr1 hs lo4
   replace hb2 := hb2.tr1 hs om
   replace hb6 := hb6.tr1 hs om
   replace hb7 := hb7.tr1 hs om
   clear hs
   replace hb4 := hq
   refine waB rfl (x_nil (e_S (c_ret (e_Sr (e_Br ?_)))))
   refine e_LSr (e_Br (e_Sr (fin2 (.inl rfl) rfl (rr_cell U28 rfl rfl hb4.range0 sz28_GTgt) rfl ?_)))
   exact ⟨⟨none, [], 0, false, rfl, fun w2 _ => nodes_nil w2 none, o, hD0, .inr ⟨hCe ▸ hmany, rfl, rfl⟩⟩, hB⟩
  have hD60 : D.length ≤ 60 := by omega
  refine c_skip (e_S ?_)
  have or_ho_b6 := own_neA ho hb6 dE
  refine c_region (wl (r_ldS U28 rfl rfl hb7.range0 sz28_GTgt) ?_)
  refine wl_stW hb6 rfl rfl sz28_GTgt rfl oneA (fun w35 hq hs => ?_)
  replace hB := hB.tr1 hs lo6
  replace hb2 := hb2.tr1 hs om
  replace hb4 := hb4.tr1 hs om
  replace ho := ho.tr1 hs (fun g hg => by first | exact own_neA ho hb6 dE g hg | (have := (ho.lt g hg).1; (try have := or_ho_b6 g hg); omega))
  replace hRw := hRw.tr hs (fun g hg => by rw [List.mem_singleton.1 hg]; first | exact .inr (.inl ⟨_, _, hb6, by decide⟩) | exact .inl om)
  replace hzh := nLT hzh (Same.size hs)
  clear hs
  replace hb6 := hq
  refine x_nil (e_B (e_LS (61 - D.length) om agA ?_))
  exact ⟨D, nm, N, cN, rfl, hR.fd, by omega, rows_nodes ho rfl (fun _ _ => rfl) hRw, hB, hb2, hb4, hb6⟩
 have htot : Tot l fs A := totB_iff.1 (by
   cases hb : totB l fs A with
   | true => rfl
   | false => rw [hb] at c20; cases c20)
 refine c_exit (e_Sx (e_LSx (e_Bx (e_S (c_seq ?_)))))
 refine c_region (wl (r_ldS U28 rfl rfl hb6.range0 sz28_GTgt) ?_)
 have zq2 := hb2.lt
 have zq4 := hb4.lt
 have hszq := Bel.size hB
 refine wl_cl fn56 (rcanon_any AO cO l.length fs.length A _ (hNT.mono hBT) hAv.gok om) rfl (fun e' w36 hr => ?_)
 obtain ⟨⟨oA, AX, cX, hDA, rfl, hNX2⟩, hs⟩ := hr
 replace hs := Same.of_bel hs
 replace hB := hB.tr0 hs
 replace hb4 := hb4.tr0 hs
 replace hb6 := hb6.tr0 hs
 replace hzh := nLT hzh (Same.size hs)
 clear hs
 obtain ⟨ZY, hZY⟩ : ∃ z, z = (w8).heap.size := ⟨_, rfl⟩
 rw [← hZY] at hNX2 zq4 hszq
 obtain ⟨wY, hwY⟩ : ∃ z, z = w36 := ⟨_, rfl⟩
 have hFY : FrSame ZY wY w36 := by rw [hwY]; exact FrSame.refl _ _
 rw [← hwY] at hNX2
 refine ⟨_, rfl, ?_⟩
 refine wl_stW hb4 rfl rfl sz28_GTgt rfl oneA (fun w37 hq hs => ?_)
 replace hB := hB.tr1 hs lo4
 replace hb6 := hb6.tr1 hs om
 replace hzh := nLT hzh (Same.size hs)
 replace hFY := hFY.of hs (fun g hg => by rw [List.mem_singleton.1 hg]; omega)
 clear hs
 replace hb4 := hq
 refine waB rfl (x_nil (e_S (c_ret (fin2 (.inl rfl) rfl (rr_cell U28 rfl rfl hb4.range0 sz28_GTgt) rfl ?_))))
 have hcl : (canG A oA).length = oA.length := canG_len A oA
 exact ⟨⟨AX, canG A oA, cX, true, by rw [hcl]; rfl, fun w2 hf => hNX2 w2 (hFY.then hf hszq), o, hD0, .inl ⟨⟨A, na, oA, hCe ▸ hFi, htot, h60, hDA, rfl⟩, rfl⟩⟩, hB⟩
end Go.Proofs.YtegngekpmpdngaaDoor
