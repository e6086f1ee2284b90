/- What these functions of the program compute, at every world: glosswright/glosswrightref4.Written. What these functions of the program compute, at every world: glosswright/avm.fault, glosswright/avm.Print. -/
import Derived.Test.YtegngekpmpdngaaDoorU
import Derived.Test.YtegngekpmpdngaaDoorAWt
import Derived.Test.YtegngekpmpdngaaDoorATx
import Derived.Test.YtegngekpmpdngaaDoorSFind
namespace Go.Proofs.YtegngekpmpdngaaDoor
open Go.RowKit
theorem fn56 : callable Tryd.prog 56 = true := by kernel_rfl
set_option maxRecDepth 100000 in
set_option maxHeartbeats 4000000 in
theorem wtn_any (A B G : Option Addr) (c d cg : Nat) (l : List Ty) (fs : List Ft) (gr : List Nd) (w : World) (hT : TypesIn w A l) (hF : FeatsIn w B fs) (hG : NodesIn w G gr) (hva : GV l fs gr) : Calls Tryd.prog 31 #[.agg #[.slice A l.length c, .slice B fs.length d], .agg #[.slice G gr.length cg]] w fun e w' => (∃ o, DL gr [0] [] o ∧ e = .returned (.string ⟨(txtB l fs (canG gr o)).toArray⟩)) ∧ Bel w w' := by
 have h60g := hva.gok.le
 have hf40 := hva.few
 refine enter Tryd.func31 Tryd.ntmps31 rfl (Nat.le_of_ble_eq_true rfl) ?_
 have hB : Bel w w := Below.refl _ _
 refine c_seq (c_region ?_)
 refine wl_bx (v := .agg #[_, _]) (cs := #[_, _]) rfl rfl (fun b2 w1 hb2 hs hr => ?_)
 have lo2 := nLT (Bel.size hB) hr
 replace hB := hB.tr0 hs
 clear hs
 clear hr
 refine wl_bx (v := .agg #[_]) (cs := #[_]) rfl rfl (fun b3 w2 hb3 hs hr => ?_)
 have or_b2_b3 : b2 < b3 := nLL hb2.lt hr
 have lo3 := nLT (Bel.size hB) hr
 replace hB := hB.tr0 hs
 replace hb2 := hb2.tr0 hs
 clear hs
 clear hr
 refine wl (r_as (v := .string _) rfl) (x_nil (e_S (c_seq (c_region (wl (r_ldS U28 rfl rfl hb3.range0 sz28) ?_)))))
 have zq2 := hb2.lt
 have zq3 := hb3.lt
 refine wl_cl fn56 (rcanon_any G cg l.length fs.length gr _ (hG.mono hB) hva.gok om) rfl (fun e' w3 hr => ?_)
 obtain ⟨⟨o, AX, cX, hDA, rfl, hNX⟩, hs⟩ := hr
 replace hs := Same.of_bel hs
 replace hB := hB.tr0 hs
 replace hb2 := hb2.tr0 hs
 replace hb3 := hb3.tr0 hs
 clear hs
 obtain ⟨ZX, hZX⟩ : ∃ z, z = (w2).heap.size := ⟨_, rfl⟩
 rw [← hZX] at hNX zq2 zq3
 obtain ⟨wX, hwX⟩ : ∃ z, z = w3 := ⟨_, rfl⟩
 have hFX : FrSame ZX wX w3 := by rw [hwX]; exact FrSame.refl _ _
 rw [← hwX] at hNX
 have hvX := gv_can hva hDA
 obtain ⟨X, hXe⟩ : ∃ z, z = canG gr o := ⟨_, rfl⟩
 have hXl : o.length = X.length := by rw [hXe, canG_len]
 rw [← hXe] at hNX hvX
 have hWX := gw_of hvX
 have h60 := hvX.gok.le
 have hX0 := hvX.gok.pos
 have hX40 := hvX.few
 refine ⟨_, rfl, ?_⟩
 refine wl_stW hb3 rfl rfl sz28 rfl oneA (fun w4 hq hs => ?_)
 replace hB := hB.tr1 hs lo3
 replace hb2 := hb2.tr1 hs om
 replace hFX := hFX.of hs (fun g hg => by rw [List.mem_singleton.1 hg]; omega)
 clear hs
 replace hb3 := hq
 rw [hXl] at hb3
 have hNC := hNX _ hFX
 obtain ⟨wN, hwN⟩ : ∃ z, z = w4 := ⟨_, rfl⟩
 have hBN : Bel wN w4 := by rw [hwN]; exact Below.refl _ _
 have hBwN : Bel w wN := by rw [hwN]; exact hB
 have hszN := Bel.size hB
 rw [← hwN] at hNC
 refine x_nil (e_S (c_seq (c_region (wl (r_fa U28 sz26 dE rfl rfl rfl) (wl (r_ld1 (v := .slice _ _ _) U26 rfl rfl (hb3.cell rfl)) ?_)))))
 refine wl (r_len U26 rfl) ?_
 refine wl_mkR (m := X.length) U43 in3 rfl rfl rfl om om (fun b18 w5 hb18 hs hr => ?_)
 have or_b2_b18 : b2 < b18 := nLL hb2.lt hr
 have or_b3_b18 : b3 < b18 := nLL hb3.lt hr
 have lo18 := nLT (Bel.size hB) hr
 have lo_hBN_b18 := nLT (Bel.size hBN) hr
 replace hB := hB.tr0 hs
 replace hb2 := hb2.tr0 hs
 replace hb3 := hb3.tr0 hs
 replace hBN := hBN.tr0 hs
 clear hs
 clear hr
 refine waS rfl (x_nil (e_S (c_seq (c_region (waI rfl ?_)))))
 refine x_nil (e_S (c_seq (c_seq (c_region (wl (r_fa U28 sz26 dE rfl rfl rfl) ?_)))))
 refine wl (r_ld1 (v := .slice _ _ _) U26 rfl rfl (hb3.cell rfl)) (wl (r_len U26 rfl) (wmI rfl (x_nil (e_S (c_block ?_)))))
 refine c_loopS [6, 7, 8, 10, 12, 22, 23, 24, 25, 26, 27, 28, 29, 30, 31, 32, 33, 34, 35, 36, 37, 38, 39, 40, 41, 42, 43, 44, 45, 46, 47, 48, 49, 50, 51, 52, 53, 54, 55, 56, 57] (fun m g w' => ∃ i : Nat, i ≤ X.length ∧ m = X.length - i ∧ g 22 = .int .i64 i ∧ g 6 = .int .i64 ((lastN X i : Nat) : Int) ∧ Bel w w' ∧ Bel wN w' ∧ Blk w' b2 25 #[.slice A l.length c, .slice B fs.length d] ∧ Blk w' b3 28 #[.slice AX X.length cX] ∧ Blk w' b18 3 (row X.length (fun x => .int .i64 ((if x < i then tgs X x else 0 : Nat) : Int)))) (X.length) ?_ (fun m g5 w6 hI => ?_)
 ·
  refine ⟨0, Nat.zero_le _, rfl, rfl, rfl, hB, hBN, hb2, hb3, ?_⟩
  rw [row_congr (g' := fun _ => .int .i64 0) (fun x _ => by simp)]; exact hb18
 obtain ⟨i, hi, hm, h22, h6, hB, hBN, hb2, hb3, hb18⟩ := hI
 refine c_know 22 (.int .i64 i) h22 nu (c_know 6 (.int .i64 ((lastN X i : Nat) : Int)) h6 nu (c_seq (c_region (wl (r_lss rfl rfl) (x_nil ?_)))))
 refine e_S (c_seq ?_)
 refine c_ifd rfl (fun c23 => ?_) (fun c23 => ?_)
 ·
  have hil : i < X.length := by omega
  have hla := last_le X i
  refine c_skip (e_S (c_seq (c_block (c_seq (c_region ?_)))))
  refine wmI rfl (waI rfl (x_nil (e_S (c_seq (c_region ?_)))))
  refine waI rfl (x_nil (e_S (c_seq (c_seq (c_region ?_)))))
  refine wmI rfl (wl (r_eql rfl rfl) (x_nil (e_S ?_)))
  refine c_ifd rfl (fun c26 => ?_) (fun c26 => ?_)
  ·
   have hone : one0 i = 1 := by unfold one0; rw [if_pos om]
   refine c_region (waI rfl (x_nil (e_S (c_seq (c_seq ?_)))))
   refine c_region (wl (r_fa U28 sz26 dE rfl rfl rfl) (wl (r_ld1 (v := .slice _ _ _) U26 rfl rfl (hb3.cell rfl)) (wl (r_len U26 rfl) (wmI rfl (x_nil ?_)))))
   refine e_S (c_block ?_)
   refine c_loopS [8, 10, 12, 30, 31, 32, 33, 34, 35, 36, 37, 38, 39, 40, 41, 42, 43, 44, 45, 46, 47, 48] (fun m g w' => ∃ q : Nat, q ≤ X.length ∧ m = X.length - q ∧ g 30 = .int .i64 q ∧ g 8 = .int .i64 ((one0 i + (befT X q 0).count i : Nat) : Int) ∧ Bel w w' ∧ Bel wN w' ∧ Blk w' b2 25 #[.slice A l.length c, .slice B fs.length d] ∧ Blk w' b3 28 #[.slice AX X.length cX] ∧ Blk w' b18 3 (row X.length (fun x => .int .i64 ((if x < i then tgs X x else 0 : Nat) : Int)))) (X.length) ?_ (fun m g11 w7 hI => ?_)
   ·
    exact ⟨0, Nat.zero_le _, rfl, rfl, by rw [hone]; rfl, hB, hBN, hb2, hb3, hb18⟩
   obtain ⟨q, hq, hmq, h30, h8, hB, hBN, hb2, hb3, hb18⟩ := hI
   refine c_know 30 (.int .i64 q) h30 nu (c_know 8 (.int .i64 ((one0 i + (befT X q 0).count i : Nat) : Int)) h8 nu (c_seq (c_region (wl (r_lss rfl rfl) (x_nil ?_)))))
   refine e_S (c_seq ?_)
   refine c_ifd rfl (fun c31 => ?_) (fun c31 => ?_)
   ·
    have hql : q < X.length := by omega
    obtain ⟨nb, no, LA, lc, rfl, hnb, hnr, hlnk⟩ := hNC.at_ (Below.refl _ _ : Bel wN wN) hql
    have hmx := hlnk.1
    unfold maxI at hmx
    have hfi := hWX.few q
    rw [nd_eq hql] at hfi
    refine c_skip (e_S (c_seq (c_block (c_seq (c_region ?_)))))
    refine wl (r_ia (i := q) U26 sz33 rfl rfl om rfl) (wl (r_ldS U33 rfl rfl (hBN.range hnb hnr) sz33) ?_)
    refine wl_al (cs := #[.int .i64 0, .slice none 0 0]) ze33 rfl (fun b10 w8 hb10 hs hr => ?_)
    have or_b2_b10 : b2 < b10 := nLL hb2.lt hr
    have or_b3_b10 : b3 < b10 := nLL hb3.lt hr
    have or_b18_b10 : b18 < b10 := nLL hb18.lt hr
    have lo10 := nLT (Bel.size hB) hr
    have lo_hBN_b10 := nLT (Bel.size hBN) hr
    replace hB := hB.tr0 hs
    replace hb2 := hb2.tr0 hs
    replace hb3 := hb3.tr0 hs
    replace hBN := hBN.tr0 hs
    replace hb18 := hb18.tr0 hs
    clear hs
    clear hr
    refine wl_stW hb10 rfl rfl sz33 rfl oneA (fun w9 hq hs => ?_)
    replace hB := hB.tr1 hs lo10
    replace hb2 := hb2.tr1 hs om
    replace hb3 := hb3.tr1 hs om
    replace hBN := hBN.tr1 hs lo_hBN_b10
    replace hb18 := hb18.tr1 hs om
    clear hs
    replace hb10 := hq
    refine x_nil (e_S (c_seq (c_region (wl (r_fa U33 sz31 dE rfl rfl rfl) (wl (r_ld1 (v := .slice _ _ _) U31 rfl rfl (hb10.cell rfl)) ?_)))))
    refine wl (r_len U31 rfl) (wmI rfl (x_nil (e_S (c_block ?_))))
    refine c_loopS [8, 12, 37, 38, 39, 40, 41, 42, 43, 44, 45, 46, 47] (fun m g w' => ∃ j : Nat, j ≤ (X[q]'hql).ln.length ∧ m = (X[q]'hql).ln.length - j ∧ g 37 = .int .i64 j ∧ g 8 = .int .i64 ((one0 i + (befT X q j).count i : Nat) : Int) ∧ Bel w w' ∧ Bel wN w' ∧ Blk w' b2 25 #[.slice A l.length c, .slice B fs.length d] ∧ Blk w' b3 28 #[.slice (some ⟨nb, no, none⟩) X.length cX] ∧ Blk w' b18 3 (row X.length (fun x => .int .i64 ((if x < i then tgs X x else 0 : Nat) : Int)))) ((X[q]'hql).ln.length) ?_ (fun m g14 w10 hI => ?_)
    ·
     exact ⟨0, Nat.zero_le _, rfl, rfl, rfl, hB, hBN, hb2, hb3, hb18⟩
    obtain ⟨j, hj, hmj, h37, h8, hB, hBN, hb2, hb3, hb18⟩ := hI
    refine c_know 37 (.int .i64 j) h37 nu (c_know 8 (.int .i64 ((one0 i + (befT X q j).count i : Nat) : Int)) h8 nu (c_seq (c_region (wl (r_lss rfl rfl) (x_nil ?_)))))
    refine e_S (c_seq ?_)
    refine c_ifd rfl (fun c38 => ?_) (fun c38 => ?_)
    ·
     have hjl : j < (X[q]'hql).ln.length := by omega
     obtain ⟨lb, lof, rfl, hlb, hlr⟩ := hlnk.at_ (Below.refl _ _ : Bel wN wN) hjl
     obtain ⟨t, ht, htl⟩ : ∃ z : Nat, ((X[q]'hql).ln[j]'hjl).2 = (z : Int) ∧ z < X.length := by
       have h1 := hvX.gok.ln q hql _ (List.getElem_mem hjl)
       exact ⟨(((X[q]'hql).ln[j]'hjl).2).toNat, by omega, by omega⟩
     have htk := take_succN hql hjl ht
     have hbl := befT_len hWX.few q j
     have hcl : (befT X q j).count i ≤ (befT X q j).length := List.count_le_length
     have hone : one0 i ≤ 1 := by unfold one0; split <;> omega
     refine c_skip (e_S (c_seq (c_block (c_seq (c_region ?_)))))
     refine wl (r_ia (i := j) U31 sz30 rfl rfl om rfl) (wl (r_ldS U30 rfl rfl (hBN.range hlb hlr) sz30) ?_)
     refine wl_al (cs := #[.int .i64 0, .int .i64 0]) ze30 rfl (fun b12 w11 hb12 hs hr => ?_)
     have or_b2_b12 : b2 < b12 := nLL hb2.lt hr
     have or_b3_b12 : b3 < b12 := nLL hb3.lt hr
     have or_b18_b12 : b18 < b12 := nLL hb18.lt hr
     have lo12 := nLT (Bel.size hB) hr
     have lo_hBN_b12 := nLT (Bel.size hBN) hr
     replace hB := hB.tr0 hs
     replace hb2 := hb2.tr0 hs
     replace hb3 := hb3.tr0 hs
     replace hBN := hBN.tr0 hs
     replace hb18 := hb18.tr0 hs
     clear hs
     clear hr
     refine wl_stW hb12 rfl rfl sz30 rfl oneA (fun w12 hq hs => ?_)
     replace hB := hB.tr1 hs lo12
     replace hb2 := hb2.tr1 hs om
     replace hb3 := hb3.tr1 hs om
     replace hBN := hBN.tr1 hs lo_hBN_b12
     replace hb18 := hb18.tr1 hs om
     clear hs
     replace hb12 := hq
     refine x_nil (e_S (c_seq ?_))
     rw [ht] at hb12
     refine c_region (wl (r_fa U30 sz3_GLoose dE rfl rfl rfl) (wl (r_ld1 (v := .int _ _) U3 rfl rfl (hb12.cell rfl)) (wmI rfl (wl (r_eql rfl rfl) (x_nil ?_)))))
     refine e_S ?_
     refine c_ifd rfl (fun c44 => ?_) (fun c44 => ?_)
     ·
      have hti : t = i := by omega
      have hcy : one0 i + (befT X q (j + 1)).count i = one0 i + (befT X q j).count i + 1 := by rw [befT_put htk, List.count_append, hti]; simp; omega
      refine c_region (wmI rfl (wl (r_add rfl rfl rfl om) (waI rfl (x_nil (e_B ?_)))))
      refine e_S (c_region (wl (r_add rfl rfl rfl om) (wmI rfl (x_nil (e_LS ((X[q]'hql).ln.length - (j + 1)) om agA ?_)))))
      first
        | exact ⟨j + 1, by omega, rfl, rfl, by rw [hcy]; rfl, hB, hBN, hb2, hb3, hb18⟩
        | exact ⟨j + 1, by omega, rfl, rfl, by rw [hcn]; rfl, hB, hBN, hb2, hb3, hb18⟩
     have hti : ¬ t = i := by omega
     have hcn : one0 i + (befT X q (j + 1)).count i = one0 i + (befT X q j).count i := by rw [befT_put htk, List.count_append]; simp [hti]
     refine c_skip (e_B (e_S (c_region (wl (r_add rfl rfl rfl om) (wmI rfl ?_)))))
     refine x_nil (e_LS ((X[q]'hql).ln.length - (j + 1)) om agA ?_)
     first
       | exact ⟨j + 1, by omega, rfl, rfl, by rw [hcy]; rfl, hB, hBN, hb2, hb3, hb18⟩
       | exact ⟨j + 1, by omega, rfl, rfl, by rw [hcn]; rfl, hB, hBN, hb2, hb3, hb18⟩
    have hjx : j = (X[q]'hql).ln.length := by omega
    have hfin : (succN X q).take j = succN X q := List.take_of_length_le (by simp [succN, nd_eq hql, hjx])
    refine c_exit (e_Sx (e_LSx (e_Bx (e_B (e_S ?_)))))
    refine c_region (wl (r_add rfl rfl rfl om) (wmI rfl (x_nil (e_LS (X.length - (q + 1)) om agA ?_))))
    exact ⟨q + 1, by omega, rfl, rfl, by rw [← befT_row hfin]; rfl, hB, hBN, hb2, hb3, hb18⟩
   have hqe : q = X.length := by omega
   obtain ⟨N, hN⟩ : ∃ z, z = inc X i := ⟨_, rfl⟩
   have hN2 : one0 i + (befT X q 0).count i = inc X i := by rw [hqe, befT_all]; rfl
   refine c_exit (e_Sx (e_LSx (e_Bx (e_S (c_seq ?_)))))
   refine c_region (wmI rfl (wl (r_gtr rfl rfl) (x_nil (e_S ?_))))
   refine c_ifd rfl (fun c50 => ?_) (fun c50 => ?_)
   ·
    have hly := last_yes (g := X) (t := i) om
    refine c_seq (c_region (wmI rfl (wl (r_add rfl rfl rfl om) (waI rfl (x_nil ?_)))))
    refine e_S (c_region (wmS rfl (wmI rfl (wmI rfl (wl (r_ia (i := i) U43 sz3_GLoose rfl rfl om rfl) ?_)))))
    refine wl_st1 (v := .int _ _) hb18 rfl rfl sz3_GLoose (by rw [row_size]; omega) rfl row_set (fun w13 hq hs => ?_)
    replace hB := hB.tr1 hs lo18
    replace hb2 := hb2.tr1 hs om
    replace hb3 := hb3.tr1 hs om
    replace hBN := hBN.tr1 hs lo_hBN_b18
    clear hs
    replace hb18 := hq
    replace hb18 : Blk w13 b18 3 (row X.length (fun x => .int .i64 ((if x < i + 1 then tgs X x else 0 : Nat) : Int))) := by
      rw [row_congr (g' := fun x => .int .i64 ((if x < i + 1 then tgs X x else 0 : Nat) : Int)) (fun x _ => by
        by_cases e : x = i
        · subst e; simp [hly.2]
        · have e1 : (x < i + 1) ↔ (x < i) := by omega
          simp [e, e1])] at hb18
      exact hb18
    refine x_nil (e_B (e_S (c_region (wl (r_add rfl rfl rfl om) (wmI rfl ?_)))))
    refine x_nil (e_LS (X.length - (i + 1)) om agA ?_)
    first
      | exact ⟨i + 1, by omega, rfl, rfl, by rw [hly.1]; rfl, hB, hBN, hb2, hb3, hb18⟩
      | exact ⟨i + 1, by omega, rfl, rfl, by rw [hln.1]; rfl, hB, hBN, hb2, hb3, hb18⟩
   have hln := last_no (g := X) (t := i) om
   replace hb18 : Blk w7 b18 3 (row X.length (fun x => .int .i64 ((if x < i + 1 then tgs X x else 0 : Nat) : Int))) := by
     rw [row_congr (g' := fun x => .int .i64 ((if x < i then tgs X x else 0 : Nat) : Int)) (fun x _ => by
       by_cases e : x = i
       · subst e; simp [hln.2]
       · have e1 : (x < i + 1) ↔ (x < i) := by omega
         simp [e1])]
     exact hb18
   refine c_skip (e_B (e_S (c_region (wl (r_add rfl rfl rfl om) (wmI rfl ?_)))))
   refine x_nil (e_LS (X.length - (i + 1)) om agA ?_)
   first
     | exact ⟨i + 1, by omega, rfl, rfl, by rw [hly.1]; rfl, hB, hBN, hb2, hb3, hb18⟩
     | exact ⟨i + 1, by omega, rfl, rfl, by rw [hln.1]; rfl, hB, hBN, hb2, hb3, hb18⟩
  have hone : one0 i = 0 := by unfold one0; rw [if_neg om]
  refine c_skip (e_S (c_seq (c_seq (c_region (wl (r_fa U28 sz26 dE rfl rfl rfl) ?_)))))
  refine wl (r_ld1 (v := .slice _ _ _) U26 rfl rfl (hb3.cell rfl)) (wl (r_len U26 rfl) (wmI rfl (x_nil (e_S (c_block ?_)))))
  refine c_loopS [8, 10, 12, 30, 31, 32, 33, 34, 35, 36, 37, 38, 39, 40, 41, 42, 43, 44, 45, 46, 47, 48] (fun m g w' => ∃ q : Nat, q ≤ X.length ∧ m = X.length - q ∧ g 30 = .int .i64 q ∧ g 8 = .int .i64 ((one0 i + (befT X q 0).count i : Nat) : Int) ∧ Bel w w' ∧ Bel wN w' ∧ Blk w' b2 25 #[.slice A l.length c, .slice B fs.length d] ∧ Blk w' b3 28 #[.slice AX X.length cX] ∧ Blk w' b18 3 (row X.length (fun x => .int .i64 ((if x < i then tgs X x else 0 : Nat) : Int)))) (X.length) ?_ (fun m g11 w14 hI => ?_)
  ·
   exact ⟨0, Nat.zero_le _, rfl, rfl, by rw [hone]; rfl, hB, hBN, hb2, hb3, hb18⟩
  obtain ⟨q, hq, hmq, h30, h8, hB, hBN, hb2, hb3, hb18⟩ := hI
  refine c_know 30 (.int .i64 q) h30 nu (c_know 8 (.int .i64 ((one0 i + (befT X q 0).count i : Nat) : Int)) h8 nu (c_seq (c_region (wl (r_lss rfl rfl) (x_nil ?_)))))
  refine e_S (c_seq ?_)
  refine c_ifd rfl (fun c31 => ?_) (fun c31 => ?_)
  ·
   have hql : q < X.length := by omega
   obtain ⟨nb, no, LA, lc, rfl, hnb, hnr, hlnk⟩ := hNC.at_ (Below.refl _ _ : Bel wN wN) hql
   have hmx := hlnk.1
   unfold maxI at hmx
   have hfi := hWX.few q
   rw [nd_eq hql] at hfi
   refine c_skip (e_S (c_seq (c_block (c_seq (c_region ?_)))))
   refine wl (r_ia (i := q) U26 sz33 rfl rfl om rfl) (wl (r_ldS U33 rfl rfl (hBN.range hnb hnr) sz33) ?_)
   refine wl_al (cs := #[.int .i64 0, .slice none 0 0]) ze33 rfl (fun b10 w15 hb10 hs hr => ?_)
   have or_b2_b10 : b2 < b10 := nLL hb2.lt hr
   have or_b3_b10 : b3 < b10 := nLL hb3.lt hr
   have or_b18_b10 : b18 < b10 := nLL hb18.lt hr
   have lo10 := nLT (Bel.size hB) hr
   have lo_hBN_b10 := nLT (Bel.size hBN) hr
   replace hB := hB.tr0 hs
   replace hb2 := hb2.tr0 hs
   replace hb3 := hb3.tr0 hs
   replace hBN := hBN.tr0 hs
   replace hb18 := hb18.tr0 hs
   clear hs
   clear hr
   refine wl_stW hb10 rfl rfl sz33 rfl oneA (fun w16 hq hs => ?_)
   replace hB := hB.tr1 hs lo10
   replace hb2 := hb2.tr1 hs om
   replace hb3 := hb3.tr1 hs om
   replace hBN := hBN.tr1 hs lo_hBN_b10
   replace hb18 := hb18.tr1 hs om
   clear hs
   replace hb10 := hq
   refine x_nil (e_S (c_seq (c_region (wl (r_fa U33 sz31 dE rfl rfl rfl) (wl (r_ld1 (v := .slice _ _ _) U31 rfl rfl (hb10.cell rfl)) ?_)))))
   refine wl (r_len U31 rfl) (wmI rfl (x_nil (e_S (c_block ?_))))
   refine c_loopS [8, 12, 37, 38, 39, 40, 41, 42, 43, 44, 45, 46, 47] (fun m g w' => ∃ j : Nat, j ≤ (X[q]'hql).ln.length ∧ m = (X[q]'hql).ln.length - j ∧ g 37 = .int .i64 j ∧ g 8 = .int .i64 ((one0 i + (befT X q j).count i : Nat) : Int) ∧ Bel w w' ∧ Bel wN w' ∧ Blk w' b2 25 #[.slice A l.length c, .slice B fs.length d] ∧ Blk w' b3 28 #[.slice (some ⟨nb, no, none⟩) X.length cX] ∧ Blk w' b18 3 (row X.length (fun x => .int .i64 ((if x < i then tgs X x else 0 : Nat) : Int)))) ((X[q]'hql).ln.length) ?_ (fun m g14 w17 hI => ?_)
   ·
    exact ⟨0, Nat.zero_le _, rfl, rfl, rfl, hB, hBN, hb2, hb3, hb18⟩
   obtain ⟨j, hj, hmj, h37, h8, hB, hBN, hb2, hb3, hb18⟩ := hI
   refine c_know 37 (.int .i64 j) h37 nu (c_know 8 (.int .i64 ((one0 i + (befT X q j).count i : Nat) : Int)) h8 nu (c_seq (c_region (wl (r_lss rfl rfl) (x_nil ?_)))))
   refine e_S (c_seq ?_)
   refine c_ifd rfl (fun c38 => ?_) (fun c38 => ?_)
   ·
    have hjl : j < (X[q]'hql).ln.length := by omega
    obtain ⟨lb, lof, rfl, hlb, hlr⟩ := hlnk.at_ (Below.refl _ _ : Bel wN wN) hjl
    obtain ⟨t, ht, htl⟩ : ∃ z : Nat, ((X[q]'hql).ln[j]'hjl).2 = (z : Int) ∧ z < X.length := by
      have h1 := hvX.gok.ln q hql _ (List.getElem_mem hjl)
      exact ⟨(((X[q]'hql).ln[j]'hjl).2).toNat, by omega, by omega⟩
    have htk := take_succN hql hjl ht
    have hbl := befT_len hWX.few q j
    have hcl : (befT X q j).count i ≤ (befT X q j).length := List.count_le_length
    have hone : one0 i ≤ 1 := by unfold one0; split <;> omega
    refine c_skip (e_S (c_seq (c_block (c_seq (c_region ?_)))))
    refine wl (r_ia (i := j) U31 sz30 rfl rfl om rfl) (wl (r_ldS U30 rfl rfl (hBN.range hlb hlr) sz30) ?_)
    refine wl_al (cs := #[.int .i64 0, .int .i64 0]) ze30 rfl (fun b12 w18 hb12 hs hr => ?_)
    have or_b2_b12 : b2 < b12 := nLL hb2.lt hr
    have or_b3_b12 : b3 < b12 := nLL hb3.lt hr
    have or_b18_b12 : b18 < b12 := nLL hb18.lt hr
    have lo12 := nLT (Bel.size hB) hr
    have lo_hBN_b12 := nLT (Bel.size hBN) hr
    replace hB := hB.tr0 hs
    replace hb2 := hb2.tr0 hs
    replace hb3 := hb3.tr0 hs
    replace hBN := hBN.tr0 hs
    replace hb18 := hb18.tr0 hs
    clear hs
    clear hr
    refine wl_stW hb12 rfl rfl sz30 rfl oneA (fun w19 hq hs => ?_)
    replace hB := hB.tr1 hs lo12
    replace hb2 := hb2.tr1 hs om
    replace hb3 := hb3.tr1 hs om
    replace hBN := hBN.tr1 hs lo_hBN_b12
    replace hb18 := hb18.tr1 hs om
    clear hs
    replace hb12 := hq
    refine x_nil (e_S (c_seq ?_))
    rw [ht] at hb12
    refine c_region (wl (r_fa U30 sz3_GLoose dE rfl rfl rfl) (wl (r_ld1 (v := .int _ _) U3 rfl rfl (hb12.cell rfl)) (wmI rfl (wl (r_eql rfl rfl) (x_nil ?_)))))
    refine e_S ?_
    refine c_ifd rfl (fun c44 => ?_) (fun c44 => ?_)
    ·
     have hti : t = i := by omega
     have hcy : one0 i + (befT X q (j + 1)).count i = one0 i + (befT X q j).count i + 1 := by rw [befT_put htk, List.count_append, hti]; simp; omega
     refine c_region (wmI rfl (wl (r_add rfl rfl rfl om) (waI rfl (x_nil (e_B ?_)))))
     refine e_S (c_region (wl (r_add rfl rfl rfl om) (wmI rfl (x_nil (e_LS ((X[q]'hql).ln.length - (j + 1)) om agA ?_)))))
     first
       | exact ⟨j + 1, by omega, rfl, rfl, by rw [hcy]; rfl, hB, hBN, hb2, hb3, hb18⟩
       | exact ⟨j + 1, by omega, rfl, rfl, by rw [hcn]; rfl, hB, hBN, hb2, hb3, hb18⟩
    have hti : ¬ t = i := by omega
    have hcn : one0 i + (befT X q (j + 1)).count i = one0 i + (befT X q j).count i := by rw [befT_put htk, List.count_append]; simp [hti]
    refine c_skip (e_B (e_S (c_region (wl (r_add rfl rfl rfl om) (wmI rfl ?_)))))
    refine x_nil (e_LS ((X[q]'hql).ln.length - (j + 1)) om agA ?_)
    first
      | exact ⟨j + 1, by omega, rfl, rfl, by rw [hcy]; rfl, hB, hBN, hb2, hb3, hb18⟩
      | exact ⟨j + 1, by omega, rfl, rfl, by rw [hcn]; rfl, hB, hBN, hb2, hb3, hb18⟩
   have hjx : j = (X[q]'hql).ln.length := by omega
   have hfin : (succN X q).take j = succN X q := List.take_of_length_le (by simp [succN, nd_eq hql, hjx])
   refine c_exit (e_Sx (e_LSx (e_Bx (e_B (e_S ?_)))))
   refine c_region (wl (r_add rfl rfl rfl om) (wmI rfl (x_nil (e_LS (X.length - (q + 1)) om agA ?_))))
   exact ⟨q + 1, by omega, rfl, rfl, by rw [← befT_row hfin]; rfl, hB, hBN, hb2, hb3, hb18⟩
  have hqe : q = X.length := by omega
  obtain ⟨N, hN⟩ : ∃ z, z = inc X i := ⟨_, rfl⟩
  have hN2 : one0 i + (befT X q 0).count i = inc X i := by rw [hqe, befT_all]; rfl
  refine c_exit (e_Sx (e_LSx (e_Bx (e_S (c_seq ?_)))))
  refine c_region (wmI rfl (wl (r_gtr rfl rfl) (x_nil (e_S ?_))))
  refine c_ifd rfl (fun c50 => ?_) (fun c50 => ?_)
  ·
   have hly := last_yes (g := X) (t := i) om
   refine c_seq (c_region (wmI rfl (wl (r_add rfl rfl rfl om) (waI rfl (x_nil ?_)))))
   refine e_S (c_region (wmS rfl (wmI rfl (wmI rfl (wl (r_ia (i := i) U43 sz3_GLoose rfl rfl om rfl) ?_)))))
   refine wl_st1 (v := .int _ _) hb18 rfl rfl sz3_GLoose (by rw [row_size]; omega) rfl row_set (fun w20 hq hs => ?_)
   replace hB := hB.tr1 hs lo18
   replace hb2 := hb2.tr1 hs om
   replace hb3 := hb3.tr1 hs om
   replace hBN := hBN.tr1 hs lo_hBN_b18
   clear hs
   replace hb18 := hq
   replace hb18 : Blk w20 b18 3 (row X.length (fun x => .int .i64 ((if x < i + 1 then tgs X x else 0 : Nat) : Int))) := by
     rw [row_congr (g' := fun x => .int .i64 ((if x < i + 1 then tgs X x else 0 : Nat) : Int)) (fun x _ => by
       by_cases e : x = i
       · subst e; simp [hly.2]
       · have e1 : (x < i + 1) ↔ (x < i) := by omega
         simp [e, e1])] at hb18
     exact hb18
   refine x_nil (e_B (e_S (c_region (wl (r_add rfl rfl rfl om) (wmI rfl ?_)))))
   refine x_nil (e_LS (X.length - (i + 1)) om agA ?_)
   first
     | exact ⟨i + 1, by omega, rfl, rfl, by rw [hly.1]; rfl, hB, hBN, hb2, hb3, hb18⟩
     | exact ⟨i + 1, by omega, rfl, rfl, by rw [hln.1]; rfl, hB, hBN, hb2, hb3, hb18⟩
  have hln := last_no (g := X) (t := i) om
  replace hb18 : Blk w14 b18 3 (row X.length (fun x => .int .i64 ((if x < i + 1 then tgs X x else 0 : Nat) : Int))) := by
    rw [row_congr (g' := fun x => .int .i64 ((if x < i then tgs X x else 0 : Nat) : Int)) (fun x _ => by
      by_cases e : x = i
      · subst e; simp [hln.2]
      · have e1 : (x < i + 1) ↔ (x < i) := by omega
        simp [e1])]
    exact hb18
  refine c_skip (e_B (e_S (c_region (wl (r_add rfl rfl rfl om) (wmI rfl ?_)))))
  refine x_nil (e_LS (X.length - (i + 1)) om agA ?_)
  first
    | exact ⟨i + 1, by omega, rfl, rfl, by rw [hly.1]; rfl, hB, hBN, hb2, hb3, hb18⟩
    | exact ⟨i + 1, by omega, rfl, rfl, by rw [hln.1]; rfl, hB, hBN, hb2, hb3, hb18⟩
 have hie : i = X.length := by omega
 rw [hie] at hb18
 rw [row_congr (g' := fun x => .int .i64 ((tgs X x : Nat) : Int)) (fun x hx => by rw [if_pos hx])] at hb18
 refine c_exit (e_Sx (e_LSx (e_Bx (e_S (c_seq ?_)))))
 obtain ⟨wZ, hwZ⟩ : ∃ z, z = w6 := ⟨_, rfl⟩
 have hBZ : Bel wZ w6 := by rw [hwZ]; exact Below.refl _ _
 have hBwZ : Bel w wZ := by rw [hwZ]; exact hB
 have hNZ := hNC.mono hBN
 have hct := hb18
 rw [← hwZ] at hNZ hct
 have hlk := lack_le X.length (fun _ => false)
 refine c_monoTO 7 [58, 59, 60, 61, 62, 63, 64] (fun _ => false) (fun ix v wv => match ix with | 0 => v = .agg #[.slice A l.length c, .slice B fs.length d] | 1 => v = .agg #[.slice AX X.length cX] | 2 => v = .slice (some ⟨b18, 0, none⟩) X.length X.length | 3 => v = .pointer (some ⟨b3, 0, none⟩) | 4 => v = .slice AX X.length cX | 5 => v = .int .i64 ((X.length : Nat) : Int) | 6 => ∃ b, v = .slice (some ⟨b, 0, none⟩) X.length X.length ∧ w6.heap.size ≤ b ∧ Blk wv b 4 (row X.length (fun _ => .bool false)) | _ => True) kR kR ?_ ?_ ?_
 ·
  intro ix v wv wv2 h hs
  match ix, h with
  | 0, h => exact h
  | 1, h => exact h
  | 2, h => exact h
  | 3, h => exact h
  | 4, h => exact h
  | 5, h => exact h
  | 6, h =>
   obtain ⟨b64, e64, lo64, hb64⟩ := (show ∃ b, v = .slice (some ⟨b, 0, none⟩) X.length X.length ∧ w6.heap.size ≤ b ∧ Blk wv b 4 (row X.length (fun _ => .bool false)) from h)
   exact ⟨b64, e64, lo64, hb64.tr0 hs⟩
  | _ + 7, h => exact trivial
 ·
  intro ix o hix hoq gg wx hs hd hdis
  match ix, hix, hoq with
  | 0, _, hoq =>
   obtain rfl := sI hoq
   have hs0 := hs
   replace hb2 := hb2.tr0 hs
   clear hs
   refine os_rv (r_ldS U25 rfl rfl hb2.range0 sz25) ⟨Same.refl _ _, ?_, frsh_no⟩
   exact rfl
  | 1, _, hoq =>
   obtain rfl := sI hoq
   have hs0 := hs
   replace hb3 := hb3.tr0 hs
   clear hs
   refine os_rv (r_ldS U28 rfl rfl hb3.range0 sz28) ⟨Same.refl _ _, ?_, frsh_no⟩
   exact rfl
  | 2, _, hoq =>
   obtain rfl := sI hoq
   have hs0 := hs
   clear hs
   refine os_rv (r_mv (v := .slice _ _ _) rfl) ⟨Same.refl _ _, ?_, frsh_no⟩
   exact rfl
  | 3, _, hoq =>
   obtain rfl := sI hoq
   have hs0 := hs
   replace hb3 := hb3.tr0 hs
   clear hs
   refine os_rv (r_fa U28 sz26 dE rfl rfl rfl) ⟨Same.refl _ _, ?_, frsh_no⟩
   exact rfl
  | 4, _, hoq =>
   obtain rfl := sI hoq
   have hs0 := hs
   replace hb3 := hb3.tr0 hs
   clear hs
   have d3 : gg 61 = .pointer (some ⟨b3, 0, none⟩) := hd 3 (dep_of kR)
   have e61 := d3
   refine os_know 61 (.pointer (some ⟨b3, 0, none⟩)) e61 nu ?_
   refine os_rv (r_ld1 (v := .slice _ _ _) U26 rfl rfl (hb3.cell rfl)) ⟨Same.refl _ _, ?_, frsh_no⟩
   exact rfl
  | 5, _, hoq =>
   obtain rfl := sI hoq
   have hs0 := hs
   clear hs
   have d4 : gg 62 = .slice AX X.length cX := hd 4 (dep_of kR)
   have e62 := d4
   refine os_know 62 (.slice AX X.length cX) e62 nu ?_
   refine os_rv (r_len U26 rfl) ⟨Same.refl _ _, ?_, frsh_no⟩
   exact rfl
  | 6, _, hoq =>
   obtain rfl := sI hoq
   have hs0 := hs
   clear hs
   have d5 : gg 63 = .int .i64 ((X.length : Nat) : Int) := hd 5 (dep_of kR)
   have e63 := d5
   refine os_know 63 (.int .i64 ((X.length : Nat) : Int)) e63 nu ?_
   refine os_wl (fun ops Q K => ?_)
   refine wl_mkR (m := X.length) U82 in4_GUnr rfl rfl rfl om om (fun b64 w21 hb64 hs hr => ?_)
   exact K _ _ ⟨hs, ⟨_, rfl, nLT hs0.size hr, hb64⟩, fun _ g hg => by cases hg; exact ⟨hr, hb64.lt⟩⟩
  | _ + 7, hix, _ => exact absurd hix om
 intro gg w22 hs hR hdis
 have hs0 := hs
 replace hB := hB.tr0 hs
 replace hb2 := hb2.tr0 hs
 replace hb3 := hb3.tr0 hs
 replace hBZ := hBZ.tr0 hs
 clear hs
 have d0 : gg 58 = .agg #[.slice A l.length c, .slice B fs.length d] := hR 0 dE
 have e58 := d0
 have d1 : gg 59 = .agg #[.slice AX X.length cX] := hR 1 dE
 have e59 := d1
 have d2 : gg 60 = .slice (some ⟨b18, 0, none⟩) X.length X.length := hR 2 dE
 have e60 := d2
 have d6 : ∃ b, gg 64 = .slice (some ⟨b, 0, none⟩) X.length X.length ∧ w6.heap.size ≤ b ∧ Blk w22 b 4 (row X.length (fun _ => .bool false)) := hR 6 dE
 obtain ⟨b64, e64, lo64, hb64⟩ := d6
 have lz64 : wZ.heap.size ≤ b64 := by rw [hwZ]; exact lo64
 refine wl_know 58 (.agg #[.slice A l.length c, .slice B fs.length d]) e58 nu (wl_know 59 (.agg #[.slice AX X.length cX]) e59 nu (wl_know 60 (.slice (some ⟨b18, 0, none⟩) X.length X.length) e60 nu (wl_know 64 (.slice (some ⟨b64, 0, none⟩) X.length X.length) e64 nu ?_)))
 refine wl_cl fn66 (wrt_any (w0 := wZ) (A := A) (B := B) (G := AX) (c := c) (d := d) (cg := cX) (bt := b18) (bs := b64) (hT.mono hBwZ) (hF.mono hBwZ) hNZ hvX hWX hct lz64 (X.length + 1) (fun _ => false) (fun _ => 0) 0 _ om hX0 (WI.start X) hBZ hb64) rfl (fun e' w23 hr => ?_)
 obtain ⟨rfl, _, hs⟩ := hr
 replace hBZ := hBZ.tr hs (fun g hg => by rw [List.mem_singleton.1 hg]; exact lz64)
 have hB := bel_below hBwZ hBZ (Bel.size hBwZ)
 refine ⟨_, rfl, ?_⟩
 refine wl (r_as (v := .string _) rfl) (x_nil (e_S (c_ret (fin1 (.inl rfl) rfl rfl ?_))))
 exact ⟨⟨o, hDA, by rw [← hXe]; rfl⟩, hB⟩
end Go.Proofs.YtegngekpmpdngaaDoor
namespace Go.Proofs.YtegngekpmpdngaaDoor
open Go.RowKit
def PrintS (l : List Ty) (fs : List Ft) (g : List Nd) (f : Fl) (s : ByteArray) : Prop :=
  (¬ (graphF l fs g).1 = 0 ∧ f = graphF l fs g ∧ s = ⟨#[]⟩) ∨ ((graphF l fs g).1 = 0 ∧ ∃ o, DL g [0] [] o ∧ (((txtB l fs (canG g o)).length ≤ 4000 ∧ f = (0, 0) ∧ s = ⟨(txtB l fs (canG g o)).toArray⟩) ∨ (4000 < (txtB l fs (canG g o)).length ∧ f = (1, -2) ∧ s = ⟨#[]⟩)))
theorem fn35 : callable Tryd.prog 35 = true := by kernel_rfl
theorem fn64 : callable Tryd.prog 64 = true := by kernel_rfl
theorem fn65 : callable Tryd.prog 65 = true := by kernel_rfl
theorem afault_any (a b : Int) (w : World) : Calls Tryd.prog 65 #[.int .i64 a, .int .i64 b] w fun e w' => e = .returned (flV (a, b)) ∧ Bel w w' := by
 refine enter Tryd.func65 Tryd.ntmps65 rfl (Nat.le_of_ble_eq_true rfl) ?_
 have hB : Bel w w := Below.refl _ _
 refine c_seq (c_region ?_)
 refine wl_al (cs := #[.int .i64 0, .int .i64 0]) ze35_GLoose rfl (fun b4 w1 hb4 hs hr => ?_)
 have lo4 := nLT (Bel.size hB) hr
 replace hB := hB.tr0 hs
 clear hs
 clear hr
 refine x_nil (e_S (c_seq (c_region (wmI rfl (wmI rfl ?_)))))
 refine wl (r_bd2 (v0 := .int _ _) (v1 := .int _ _) (fun v0 v1 => #[v0, v1]) rfl rfl kR) ?_
 refine wl_stW hb4 rfl rfl sz35_GLoose rfl oneA (fun w2 hq hs => ?_)
 replace hB := hB.tr1 hs lo4
 clear hs
 replace hb4 := hq
 refine x_nil (e_S (c_ret (fin1 (.inl rfl) rfl (rr_cell U35 rfl rfl hb4.range0 sz35_GLoose) ?_)))
 exact ⟨rfl, hB⟩
set_option maxHeartbeats 2000000 in
theorem aprint_any (A B G : Option Addr) (c d cg : Nat) (l : List Ty) (fs : List Ft) (gr : List Nd) (w : World) (hTab : TabIn w) (hT : TypesIn w A l) (hF : FeatsIn w B fs) (hG : NodesIn w G gr) : Calls Tryd.prog 29 #[.agg #[.slice A l.length c, .slice B fs.length d], .agg #[.slice G gr.length cg]] w fun e w' => (∃ s f, e = .returned (.tuple #[.string s, .agg #[.int .i64 (Prod.fst f), .int .i64 f.2]]) ∧ PrintS l fs gr f s) ∧ Bel w w' := by
 refine enter Tryd.func29 Tryd.ntmps29 rfl (Nat.le_of_ble_eq_true rfl) ?_
 have hB : Bel w w := Below.refl _ _
 refine c_seq (c_region ?_)
 refine wl_bx (v := .agg #[_, _]) (cs := #[_, _]) rfl rfl (fun b2 w1 hb2 hs hr => ?_)
 have lo2 := nLT (Bel.size hB) hr
 replace hB := hB.tr0 hs
 clear hs
 clear hr
 refine wl_bx (v := .agg #[_]) (cs := #[_]) rfl rfl (fun b3 w2 hb3 hs hr => ?_)
 have or_b2_b3 : b2 < b3 := nLL hb2.lt hr
 have lo3 := nLT (Bel.size hB) hr
 replace hB := hB.tr0 hs
 replace hb2 := hb2.tr0 hs
 clear hs
 clear hr
 refine wl (r_as (v := .string _) rfl) ?_
 refine wl_al (cs := #[.int .i64 0, .int .i64 0]) ze35_GLoose rfl (fun b5 w3 hb5 hs hr => ?_)
 have or_b2_b5 : b2 < b5 := nLL hb2.lt hr
 have or_b3_b5 : b3 < b5 := nLL hb3.lt hr
 have lo5 := nLT (Bel.size hB) hr
 replace hB := hB.tr0 hs
 replace hb2 := hb2.tr0 hs
 replace hb3 := hb3.tr0 hs
 clear hs
 clear hr
 refine x_nil (e_S (c_seq (c_seq (c_region (wl (r_ldS U25 rfl rfl hb2.range0 sz25) ?_)))))
 refine wl (r_ldS U28 rfl rfl hb3.range0 sz28) ?_
 refine wl_cl fn35 (gval_any A B G c d cg l fs gr _ (hTab.mono hB) (hT.mono hB) (hF.mono hB) (hG.mono hB)) rfl (fun e' w4 hr => ?_)
 obtain ⟨rfl, hs⟩ := hr
 replace hs := Same.of_bel hs
 replace hB := hB.tr0 hs
 replace hb2 := hb2.tr0 hs
 replace hb3 := hb3.tr0 hs
 replace hb5 := hb5.tr0 hs
 clear hs
 refine ⟨_, rfl, ?_⟩
 refine wl_al (cs := #[.int .i64 0, .int .i64 0]) ze35_GLoose rfl (fun b6 w5 hb6 hs hr => ?_)
 have or_b2_b6 : b2 < b6 := nLL hb2.lt hr
 have or_b3_b6 : b3 < b6 := nLL hb3.lt hr
 have or_b5_b6 : b5 < b6 := nLL hb5.lt hr
 have lo6 := nLT (Bel.size hB) hr
 replace hB := hB.tr0 hs
 replace hb2 := hb2.tr0 hs
 replace hb3 := hb3.tr0 hs
 replace hb5 := hb5.tr0 hs
 clear hs
 clear hr
 refine wl_stW hb6 rfl rfl sz35_GLoose rfl oneA (fun w6 hq hs => ?_)
 replace hB := hB.tr1 hs lo6
 replace hb2 := hb2.tr1 hs om
 replace hb3 := hb3.tr1 hs om
 replace hb5 := hb5.tr1 hs om
 clear hs
 replace hb6 := hq
 refine x_nil (e_S (c_seq (c_region (wl (r_fa U35 sz3_GLoose dE rfl rfl rfl) (wl (r_ld1 (v := .int _ _) U3 rfl rfl (hb6.cell rfl)) ?_)))))
 refine wl (r_neq rfl rfl) (x_nil (e_S ?_))
 refine c_ifd rfl (fun c13 => ?_) (fun c13 => ?_)
 ·
  refine c_seq ?_
  refine c_all #[false, false, false] kR (by rfl) (fun w7 hs => ?_)
  replace hB := hB.tr0 hs
  replace hb2 := hb2.tr0 hs
  replace hb3 := hb3.tr0 hs
  replace hb5 := hb5.tr0 hs
  replace hb6 := hb6.tr0 hs
  clear hs
  refine a_step [0, 1] kR rfl ⟨fun o hoq => ?_, fun o hoq => ?_, trivial⟩
  ·
   obtain rfl := sI hoq
   refine wl (r_ldS U35 rfl rfl hb6.range0 sz35_GLoose) (x_nil (e_A (listed' := #[true, false, false]) (by rfl) ?_))
   refine a_step [1] kR rfl ⟨fun o hoq => ?_, trivial⟩
   obtain rfl := sI hoq
   refine wl (r_as (v := .string _) rfl) (x_nil (e_A (listed' := #[true, true, false]) (by rfl) ?_))
   refine a_step [2] kR rfl ⟨fun o hoq => ?_, trivial⟩
   obtain rfl := sI hoq
   refine wl_stW hb5 rfl rfl sz35_GLoose rfl oneA (fun w8 hq hs => ?_)
   replace hB := hB.tr1 hs lo5
   replace hb2 := hb2.tr1 hs om
   replace hb3 := hb3.tr1 hs om
   replace hb6 := hb6.tr1 hs om
   clear hs
   replace hb5 := hq
   refine x_nil (e_A (listed' := #[true, true, true]) (by rfl) (a_end kR (e_S (c_ret (e_Sr ?_)))))
   refine fin2 (.inl rfl) rfl rfl (rr_cell U35 rfl rfl hb5.range0 sz35_GLoose) ?_
   exact ⟨⟨_, graphF l fs gr, rfl, .inl ⟨c13, rfl, rfl⟩⟩, hB⟩
  obtain rfl := sI hoq
  refine wl (r_as (v := .string _) rfl) (x_nil (e_A (listed' := #[false, true, false]) (by rfl) ?_))
  refine a_step [0] kR rfl ⟨fun o hoq => ?_, trivial⟩
  obtain rfl := sI hoq
  refine wl (r_ldS U35 rfl rfl hb6.range0 sz35_GLoose) (x_nil (e_A (listed' := #[true, true, false]) (by rfl) ?_))
  refine a_step [2] kR rfl ⟨fun o hoq => ?_, trivial⟩
  obtain rfl := sI hoq
  refine wl_stW hb5 rfl rfl sz35_GLoose rfl oneA (fun w9 hq hs => ?_)
  replace hB := hB.tr1 hs lo5
  replace hb2 := hb2.tr1 hs om
  replace hb3 := hb3.tr1 hs om
  replace hb6 := hb6.tr1 hs om
  clear hs
  replace hb5 := hq
  refine x_nil (e_A (listed' := #[true, true, true]) (by rfl) (a_end kR (e_S (c_ret (e_Sr ?_)))))
  refine fin2 (.inl rfl) rfl rfl (rr_cell U35 rfl rfl hb5.range0 sz35_GLoose) ?_
  exact ⟨⟨_, graphF l fs gr, rfl, .inl ⟨c13, rfl, rfl⟩⟩, hB⟩
 have h0 := Decidable.not_not.1 c13
 have hva := gv_of h0
 refine c_skip (e_S (c_seq (c_region (wl (r_ldS U25 rfl rfl hb2.range0 sz25) (wl (r_ldS U28 rfl rfl hb3.range0 sz28) ?_)))))
 refine wl_cl fn64 (text_any A B G c d cg l fs gr _ (hT.mono hB) (hF.mono hB) (hG.mono hB) hva) rfl (fun e' w10 hr => ?_)
 obtain ⟨⟨o, hD, rfl⟩, hs⟩ := hr
 replace hs := Same.of_bel hs
 replace hB := hB.tr0 hs
 replace hb2 := hb2.tr0 hs
 replace hb3 := hb3.tr0 hs
 replace hb5 := hb5.tr0 hs
 replace hb6 := hb6.tr0 hs
 clear hs
 obtain ⟨s, hse⟩ : ∃ z : ByteArray, z = ⟨(txtB l fs (canG gr o)).toArray⟩ := ⟨_, rfl⟩
 have hsl : s.size = (txtB l fs (canG gr o)).length := by rw [← bl_size, hse]; rfl
 rw [← hse]
 refine ⟨_, rfl, ?_⟩
 refine wl (r_as (v := .string _) rfl) (x_nil (e_S (c_seq (c_seq (c_region ?_)))))
 refine wl (r_mv (v := .string _) rfl) (wl (r_lenS U9 rfl) (wl (r_gtr rfl rfl) (x_nil (e_S ?_))))
 refine c_ifd rfl (fun c20 => ?_) (fun c20 => ?_)
 ·
  refine c_seq (c_region ?_)
  refine wl_cl fn65 (afault_any _ _ _) rfl (fun e' w11 hr => ?_)
  obtain ⟨rfl, hs⟩ := hr
  replace hs := Same.of_bel hs
  replace hB := hB.tr0 hs
  replace hb2 := hb2.tr0 hs
  replace hb3 := hb3.tr0 hs
  replace hb5 := hb5.tr0 hs
  replace hb6 := hb6.tr0 hs
  clear hs
  refine ⟨_, rfl, ?_⟩
  refine wl (r_as (v := .string _) rfl) ?_
  refine wl_stW hb5 rfl rfl sz35_GLoose rfl oneA (fun w12 hq hs => ?_)
  replace hB := hB.tr1 hs lo5
  replace hb2 := hb2.tr1 hs om
  replace hb3 := hb3.tr1 hs om
  replace hb6 := hb6.tr1 hs om
  clear hs
  replace hb5 := hq
  refine x_nil (e_S (c_ret (e_Sr (fin2 (.inl rfl) rfl rfl (rr_cell U35 rfl rfl hb5.range0 sz35_GLoose) ?_))))
  exact ⟨⟨_, (1, -2), rfl, .inr ⟨h0, o, hD, .inr ⟨by omega, rfl, rfl⟩⟩⟩, hB⟩
 refine c_skip (e_S (c_seq (c_region (wl (r_mv (v := .string _) rfl) (wl (r_bd (vs := #[]) (cs := #[.int .i64 0, .int .i64 0]) (by simp) kR) ?_)))))
 refine wl (r_as (v := .string _) rfl) ?_
 refine wl_stW hb5 rfl rfl sz35_GLoose rfl oneA (fun w13 hq hs => ?_)
 replace hB := hB.tr1 hs lo5
 replace hb2 := hb2.tr1 hs om
 replace hb3 := hb3.tr1 hs om
 replace hb6 := hb6.tr1 hs om
 clear hs
 replace hb5 := hq
 refine x_nil (e_S (c_ret (fin2 (.inl rfl) rfl rfl (rr_cell U35 rfl rfl hb5.range0 sz35_GLoose) ?_)))
 exact ⟨⟨s, (0, 0), rfl, .inr ⟨h0, o, hD, .inl ⟨by omega, rfl, hse⟩⟩⟩, hB⟩
end Go.Proofs.YtegngekpmpdngaaDoor
