/- What these functions of the program compute, at every world: glosswright/avm.Text. -/
import Derived.Test.YtegngekpmpdngaaDoorU
import Derived.Test.YtegngekpmpdngaaDoorAWr
import Derived.Test.YtegngekpmpdngaaDoorGNodes
import Derived.Test.YtegngekpmpdngaaDoorFilW
namespace Go.Proofs.YtegngekpmpdngaaDoor
open Go.RowKit
theorem bel_below {w0 w w' : World} {B : Nat} (h : Bel w0 w) (k : Below B w w') (hl : w0.heap.size ≤ B) : Bel w0 w' :=
  ⟨k.os.trans h.os, k.tape.trans h.tape, k.output.trans h.output, nLT h.size k.size, fun i hi => (k.block i (nLL hi hl)).trans (h.block i hi)⟩
theorem befT_len {g : List Nd} (h : ∀ i, (nd g i).ln.length ≤ 40) (i j : Nat) : (befT g i j).length ≤ 40 * i + j := by
  unfold befT
  rw [List.length_append, List.length_take]
  have h1 : ∀ i, ((List.range i).flatMap (succN g)).length ≤ 40 * i := fun i => by
    induction i with
    | zero => simp
    | succ i ih =>
      rw [List.range_succ, List.flatMap_append, List.length_append]
      have := h i
      have e : (succN g i).length = (nd g i).ln.length := by unfold succN; rw [List.length_map]
      simp only [List.flatMap_cons, List.flatMap_nil, List.append_nil]
      omega
  have := h1 i
  omega
theorem row_cnt {n t : Nat} {f : Nat → Nat} : row n (fun x => if x = t then Value.int .i64 (((f t : Nat) : Int) + 1) else .int .i64 ((f x : Nat) : Int)) = row n (fun x => .int .i64 ((f x + (if x = t then 1 else 0) : Nat) : Int)) :=
  row_congr (fun x _ => by by_cases e : x = t <;> simp [e])
theorem cnt_put {g : List Nd} {i j t : Nat} (h : (succN g i).take (j + 1) = (succN g i).take j ++ [t]) (x : Nat) : one0 x + (befT g i j).count x + (if x = t then 1 else 0) = one0 x + (befT g i (j + 1)).count x := by
  rw [befT_put h, List.count_append, List.count_cons, List.count_nil]
  by_cases e : x = t
  · subst e; simp; omega
  · have e2 : ¬ t = x := fun h => e h.symm
    simp [e, e2]
theorem fn49_ATx : callable Tryd.prog 49 = true := by kernel_rfl
theorem fn91 : callable Tryd.prog 91 = true := by kernel_rfl
theorem sz82_ATx : (Tryd.prog.info? 82).map (·.size) = some 1 := by kernel_rfl
theorem ze131 : (Tryd.prog.info? 131).map (·.zero) = some (some (.agg #[.pointer none, .slice none 0 0])) := by kernel_rfl
theorem ze82 : (Tryd.prog.info? 82).map (·.zero) = some (some (.slice none 0 0)) := by kernel_rfl
set_option maxRecDepth 100000 in
set_option maxHeartbeats 4000000 in
theorem text_any (A B G : Option Addr) (c d cg : Nat) (l : List Ty) (fs : List Ft) (gr : List Nd) (w : World) (hT : TypesIn w A l) (hF : FeatsIn w B fs) (hG : NodesIn w G gr) (hva : GV l fs gr) : Calls Tryd.prog 64 #[.agg #[.slice A l.length c, .slice B fs.length d], .agg #[.slice G gr.length cg]] w fun e w' => (∃ o, DL gr [0] [] o ∧ e = .returned (.string ⟨(txtB l fs (canG gr o)).toArray⟩)) ∧ Bel w w' := by
 have h60g := hva.gok.le
 have hf40 := hva.few
 refine enter Tryd.func64 Tryd.ntmps64 rfl (Nat.le_of_ble_eq_true rfl) ?_
 have hB : Bel w w := Below.refl _ _
 refine c_seq (c_region ?_)
 refine wl_bx (v := .agg #[_, _]) (cs := #[_, _]) rfl rfl (fun b2 w1 hb2 hs hr => ?_)
 have lo2 := nLT (Bel.size hB) hr
 replace hB := hB.tr0 hs
 clear hs
 clear hr
 refine wl_bx (v := .agg #[_]) (cs := #[_]) rfl rfl (fun b3 w2 hb3 hs hr => ?_)
 have or_b2_b3 : b2 < b3 := nLL hb2.lt hr
 have lo3 := nLT (Bel.size hB) hr
 replace hB := hB.tr0 hs
 replace hb2 := hb2.tr0 hs
 clear hs
 clear hr
 refine wl (r_as (v := .string _) rfl) (x_nil (e_S (c_seq (c_region (wl (r_ldS U28 rfl rfl hb3.range0 sz28) ?_)))))
 have zq2 := hb2.lt
 have zq3 := hb3.lt
 refine wl_cl fn49_ATx (from2_any G cg fs.length gr 0 _ (hG.mono hB) hva.gok.two om hva.gok.pos) rfl (fun e' w3 hr => ?_)
 obtain ⟨⟨o, AX, hDA, hokA, rfl, hNX⟩, hs⟩ := hr
 replace hs := Same.of_bel hs
 replace hB := hB.tr0 hs
 replace hb2 := hb2.tr0 hs
 replace hb3 := hb3.tr0 hs
 clear hs
 obtain ⟨ZX, hZX⟩ : ∃ z, z = (w2).heap.size := ⟨_, rfl⟩
 rw [← hZX] at hNX zq2 zq3
 obtain ⟨wX, hwX⟩ : ∃ z, z = w3 := ⟨_, rfl⟩
 have hFX : FrSame ZX wX w3 := by rw [hwX]; exact FrSame.refl _ _
 rw [← hwX] at hNX
 have hvX := gv_can hva hDA
 obtain ⟨X, hXe⟩ : ∃ z, z = canG gr o := ⟨_, rfl⟩
 have hXl : o.length = X.length := by rw [hXe, canG_len]
 rw [← hXe] at hNX hvX
 have hWX := gw_of hvX
 have h60 := hvX.gok.le
 have hX0 := hvX.gok.pos
 have hX40 := hvX.few
 refine ⟨_, rfl, ?_⟩
 refine wl_stW hb3 rfl rfl sz28 rfl oneA (fun w4 hq hs => ?_)
 replace hB := hB.tr1 hs lo3
 replace hb2 := hb2.tr1 hs om
 replace hFX := hFX.of hs (fun g hg => by rw [List.mem_singleton.1 hg]; omega)
 clear hs
 replace hb3 := hq
 obtain ⟨cX, hcX⟩ : ∃ z, z = o.length := ⟨_, rfl⟩
 replace hb3 : Blk w4 b3 28 #[.slice AX X.length cX] := by rw [hcX, ← hXl]; exact hb3
 have hNC := hNX _ hFX
 obtain ⟨wN, hwN⟩ : ∃ z, z = w4 := ⟨_, rfl⟩
 have hBN : Bel wN w4 := by rw [hwN]; exact Below.refl _ _
 have hBwN : Bel w wN := by rw [hwN]; exact hB
 have hszN := Bel.size hB
 rw [← hwN] at hNC
 refine x_nil (e_S (c_seq (c_region (wl (r_fa U28 sz26 dE rfl rfl rfl) (wl (r_ld1 (v := .slice _ _ _) U26 rfl rfl (hb3.cell rfl)) ?_)))))
 refine wl (r_len U26 rfl) ?_
 refine wl_mkR (m := X.length) U43 in3 rfl rfl rfl om om (fun b22 w5 hb22 hs hr => ?_)
 have or_b2_b22 : b2 < b22 := nLL hb2.lt hr
 have or_b3_b22 : b3 < b22 := nLL hb3.lt hr
 have lo22 := nLT (Bel.size hB) hr
 have lo_hBN_b22 := nLT (Bel.size hBN) hr
 replace hB := hB.tr0 hs
 replace hb2 := hb2.tr0 hs
 replace hb3 := hb3.tr0 hs
 replace hBN := hBN.tr0 hs
 clear hs
 clear hr
 refine waS rfl (x_nil (e_S (c_seq (c_region (wmS rfl ?_)))))
 refine wl (r_ia (i := 0) U43 sz3_GLoose rfl rfl om rfl) ?_
 refine wl_st1 (v := .int _ _) hb22 rfl rfl sz3_GLoose (by rw [row_size]; omega) rfl row_set (fun w6 hq hs => ?_)
 replace hB := hB.tr1 hs lo22
 replace hb2 := hb2.tr1 hs om
 replace hb3 := hb3.tr1 hs om
 replace hBN := hBN.tr1 hs lo_hBN_b22
 clear hs
 replace hb22 := hq
 replace hb22 : Blk w6 b22 3 (row X.length (fun x => .int .i64 ((one0 x + (befT X 0 0).count x : Nat) : Int))) := by
   rw [row_congr (g' := fun x => .int .i64 ((one0 x + (befT X 0 0).count x : Nat) : Int)) (fun x _ => by
     by_cases e : x = 0 <;> simp [e, one0, befT])] at hb22
   exact hb22
 refine x_nil (e_S (c_seq (c_seq (c_region (wl (r_fa U28 sz26 dE rfl rfl rfl) ?_)))))
 refine wl (r_ld1 (v := .slice _ _ _) U26 rfl rfl (hb3.cell rfl)) (wl (r_len U26 rfl) (wmI rfl (x_nil (e_S (c_block ?_)))))
 refine c_loopS [7, 9, 28, 29, 30, 31, 32, 33, 34, 35, 36, 37, 38, 39, 40, 41, 42, 43, 44, 45, 46, 47] (fun m g w' => ∃ i : Nat, i ≤ X.length ∧ m = X.length - i ∧ g 28 = .int .i64 i ∧ Bel w w' ∧ Bel wN w' ∧ Blk w' b2 25 #[.slice A l.length c, .slice B fs.length d] ∧ Blk w' b3 28 #[.slice AX X.length cX] ∧ Blk w' b22 3 (row X.length (fun x => .int .i64 ((one0 x + (befT X i 0).count x : Nat) : Int)))) (X.length) ?_ (fun m g5 w7 hI => ?_)
 ·
  exact ⟨0, Nat.zero_le _, rfl, rfl, hB, hBN, hb2, hb3, hb22⟩
 obtain ⟨i, hi, hm, h28, hB, hBN, hb2, hb3, hb22⟩ := hI
 refine c_know 28 (.int .i64 i) h28 nu (c_seq (c_region (wl (r_lss rfl rfl) (x_nil (e_S ?_)))))
 refine c_seq ?_
 refine c_ifd rfl (fun c29 => ?_) (fun c29 => ?_)
 ·
  have hil : i < X.length := by omega
  obtain ⟨nb, no, LA, lc, rfl, hnb, hnr, hln⟩ := hNC.at_ (Below.refl _ _ : Bel wN wN) hil
  have hmx := hln.1
  unfold maxI at hmx
  refine c_skip (e_S (c_seq (c_block (c_seq (c_region ?_)))))
  refine wl (r_ia (i := i) U26 sz33 rfl rfl om rfl) (wl (r_ldS U33 rfl rfl (hBN.range hnb hnr) sz33) ?_)
  refine wl_al (cs := #[.int .i64 0, .slice none 0 0]) ze33 rfl (fun b7 w8 hb7 hs hr => ?_)
  have or_b2_b7 : b2 < b7 := nLL hb2.lt hr
  have or_b3_b7 : b3 < b7 := nLL hb3.lt hr
  have or_b22_b7 : b22 < b7 := nLL hb22.lt hr
  have lo7 := nLT (Bel.size hB) hr
  have lo_hBN_b7 := nLT (Bel.size hBN) hr
  replace hB := hB.tr0 hs
  replace hb2 := hb2.tr0 hs
  replace hb3 := hb3.tr0 hs
  replace hBN := hBN.tr0 hs
  replace hb22 := hb22.tr0 hs
  clear hs
  clear hr
  refine wl_stW hb7 rfl rfl sz33 rfl oneA (fun w9 hq hs => ?_)
  replace hB := hB.tr1 hs lo7
  replace hb2 := hb2.tr1 hs om
  replace hb3 := hb3.tr1 hs om
  replace hBN := hBN.tr1 hs lo_hBN_b7
  replace hb22 := hb22.tr1 hs om
  clear hs
  replace hb7 := hq
  refine x_nil (e_S (c_seq (c_region (wl (r_fa U33 sz31 dE rfl rfl rfl) (wl (r_ld1 (v := .slice _ _ _) U31 rfl rfl (hb7.cell rfl)) ?_)))))
  refine wl (r_len U31 rfl) (wmI rfl (x_nil (e_S (c_block ?_))))
  refine c_loopS [9, 35, 36, 37, 38, 39, 40, 41, 42, 43, 44, 45, 46] (fun m g w' => ∃ j : Nat, j ≤ (X[i]'hil).ln.length ∧ m = (X[i]'hil).ln.length - j ∧ g 35 = .int .i64 j ∧ Bel w w' ∧ Bel wN w' ∧ Blk w' b2 25 #[.slice A l.length c, .slice B fs.length d] ∧ Blk w' b3 28 #[.slice (some ⟨nb, no, none⟩) X.length cX] ∧ Blk w' b22 3 (row X.length (fun x => .int .i64 ((one0 x + (befT X i j).count x : Nat) : Int)))) ((X[i]'hil).ln.length) ?_ (fun m g8 w10 hI => ?_)
  ·
   exact ⟨0, Nat.zero_le _, rfl, rfl, hB, hBN, hb2, hb3, hb22⟩
  obtain ⟨j, hj, hmj, h35, hB, hBN, hb2, hb3, hb22⟩ := hI
  refine c_know 35 (.int .i64 j) h35 nu (c_seq (c_region (wl (r_lss rfl rfl) (x_nil (e_S ?_)))))
  refine c_seq ?_
  refine c_ifd rfl (fun c36 => ?_) (fun c36 => ?_)
  ·
   have hjl : j < (X[i]'hil).ln.length := by omega
   obtain ⟨lb, lof, rfl, hlb, hlr⟩ := hln.at_ (Below.refl _ _ : Bel wN wN) hjl
   obtain ⟨t, ht, htl⟩ : ∃ z : Nat, ((X[i]'hil).ln[j]'hjl).2 = (z : Int) ∧ z < X.length := by
     have h1 := hvX.gok.ln i hil _ (List.getElem_mem hjl)
     exact ⟨(((X[i]'hil).ln[j]'hjl).2).toNat, by omega, by omega⟩
   have htk := take_succN hil hjl ht
   have hbl := befT_len hWX.few i j
   have hcl : (befT X i j).count t ≤ (befT X i j).length := List.count_le_length
   have hfi := hWX.few i
   rw [nd_eq hil] at hfi
   have hone : one0 t ≤ 1 := by unfold one0; split <;> omega
   refine c_skip (e_S (c_seq (c_block (c_seq (c_region ?_)))))
   refine wl (r_ia (i := j) U31 sz30 rfl rfl om rfl) (wl (r_ldS U30 rfl rfl (hBN.range hlb hlr) sz30) ?_)
   refine wl_al (cs := #[.int .i64 0, .int .i64 0]) ze30 rfl (fun b9 w11 hb9 hs hr => ?_)
   have or_b2_b9 : b2 < b9 := nLL hb2.lt hr
   have or_b3_b9 : b3 < b9 := nLL hb3.lt hr
   have or_b22_b9 : b22 < b9 := nLL hb22.lt hr
   have lo9 := nLT (Bel.size hB) hr
   have lo_hBN_b9 := nLT (Bel.size hBN) hr
   replace hB := hB.tr0 hs
   replace hb2 := hb2.tr0 hs
   replace hb3 := hb3.tr0 hs
   replace hBN := hBN.tr0 hs
   replace hb22 := hb22.tr0 hs
   clear hs
   clear hr
   refine wl_stW hb9 rfl rfl sz30 rfl oneA (fun w12 hq hs => ?_)
   replace hB := hB.tr1 hs lo9
   replace hb2 := hb2.tr1 hs om
   replace hb3 := hb3.tr1 hs om
   replace hBN := hBN.tr1 hs lo_hBN_b9
   replace hb22 := hb22.tr1 hs om
   clear hs
   replace hb9 := hq
   refine x_nil (e_S ?_)
   rw [ht] at hb9
   refine c_region (wmS rfl (wl (r_fa U30 sz3_GLoose dE rfl rfl rfl) (wl (r_ld1 (v := .int _ _) U3 rfl rfl (hb9.cell rfl)) (wl (r_ia (i := t) U43 sz3_GLoose rfl rfl htl rfl) (wl (r_ld1 (v := .int _ _) U3 rfl rfl (hb22.cell (row_get htl))) ?_)))))
   refine wl (r_add rfl rfl rfl om) (wl (r_ia (i := t) U43 sz3_GLoose rfl rfl htl rfl) ?_)
   refine wl_st1 (v := .int _ _) hb22 rfl rfl sz3_GLoose (by rw [row_size]; omega) rfl row_set (fun w13 hq hs => ?_)
   replace hB := hB.tr1 hs lo22
   replace hb2 := hb2.tr1 hs om
   replace hb3 := hb3.tr1 hs om
   replace hBN := hBN.tr1 hs lo_hBN_b22
   replace hb9 := hb9.tr1 hs om
   clear hs
   replace hb22 := hq
   rw [row_cnt (f := fun x => (one0 x + (befT X i j).count x : Nat))] at hb22
   rw [row_congr (g' := fun x => .int .i64 ((one0 x + (befT X i (j + 1)).count x : Nat) : Int)) (fun x _ => by rw [cnt_put htk])] at hb22
   refine x_nil (e_B (e_S (c_region (wl (r_add rfl rfl rfl om) (wmI rfl ?_)))))
   refine x_nil (e_LS ((X[i]'hil).ln.length - (j + 1)) om agA ?_)
   exact ⟨j + 1, by omega, rfl, rfl, hB, hBN, hb2, hb3, hb22⟩
  have hjx : j = (X[i]'hil).ln.length := by omega
  have hfin : (succN X i).take j = succN X i := List.take_of_length_le (by simp [succN, nd_eq hil, hjx])
  refine c_exit (e_Sx (e_LSx (e_Bx (e_B (e_S ?_)))))
  refine c_region (wl (r_add rfl rfl rfl om) (wmI rfl (x_nil (e_LS (X.length - (i + 1)) om agA ?_))))
  exact ⟨i + 1, by omega, rfl, rfl, hB, hBN, hb2, hb3, by rw [← befT_row hfin]; exact hb22⟩
 have hie : i = X.length := by omega
 rw [hie, befT_all] at hb22
 replace hb22 : Blk w7 b22 3 (row X.length (fun x => .int .i64 ((inc X x : Nat) : Int))) := hb22
 refine c_exit (e_Sx (e_LSx (e_Bx (e_S (c_seq ?_)))))
 refine c_region (wl (r_fa U28 sz26 dE rfl rfl rfl) (wl (r_ld1 (v := .slice _ _ _) U26 rfl rfl (hb3.cell rfl)) (wl (r_len U26 rfl) ?_)))
 refine wl_mkR (m := X.length) U43 in3 rfl rfl rfl om om (fun b51 w14 hb51 hs hr => ?_)
 have or_b2_b51 : b2 < b51 := nLL hb2.lt hr
 have or_b3_b51 : b3 < b51 := nLL hb3.lt hr
 have or_b22_b51 : b22 < b51 := nLL hb22.lt hr
 have lo51 := nLT (Bel.size hB) hr
 have lo_hBN_b51 := nLT (Bel.size hBN) hr
 replace hB := hB.tr0 hs
 replace hb2 := hb2.tr0 hs
 replace hb3 := hb3.tr0 hs
 replace hBN := hBN.tr0 hs
 replace hb22 := hb22.tr0 hs
 clear hs
 clear hr
 refine wl_al (cs := #[.slice none 0 0]) ze43 rfl (fun b10 w15 hb10 hs hr => ?_)
 have or_b2_b10 : b2 < b10 := nLL hb2.lt hr
 have or_b3_b10 : b3 < b10 := nLL hb3.lt hr
 have or_b22_b10 : b22 < b10 := nLL hb22.lt hr
 have or_b51_b10 : b51 < b10 := nLL hb51.lt hr
 have lo10 := nLT (Bel.size hB) hr
 have lo_hBN_b10 := nLT (Bel.size hBN) hr
 replace hB := hB.tr0 hs
 replace hb2 := hb2.tr0 hs
 replace hb3 := hb3.tr0 hs
 replace hBN := hBN.tr0 hs
 replace hb22 := hb22.tr0 hs
 replace hb51 := hb51.tr0 hs
 clear hs
 clear hr
 refine wl_st1 (v := .slice _ _ _) hb10 rfl rfl sz43_GVisit (by first | decide | simp) rfl rfl (fun w16 hq hs => ?_)
 replace hB := hB.tr1 hs lo10
 replace hb2 := hb2.tr1 hs om
 replace hb3 := hb3.tr1 hs om
 replace hBN := hBN.tr1 hs lo_hBN_b10
 replace hb22 := hb22.tr1 hs om
 replace hb51 := hb51.tr1 hs om
 clear hs
 replace hb10 := hq
 refine x_nil (e_S (c_seq (c_region (waI rfl (x_nil ?_)))))
 refine e_S (c_seq (c_seq (c_region (wmS rfl (wl (r_len U43 rfl) ?_)))))
 refine wmI rfl (x_nil (e_S (c_block ?_)))
 refine c_loopS [11, 12, 13, 54, 55, 56, 57, 58, 59, 60, 61, 62, 63, 64, 65, 66, 67] (fun m g w' => ∃ i : Nat, i ≤ X.length ∧ m = X.length - i ∧ g 54 = .int .i64 i ∧ g 11 = .int .i64 ((lastN X i : Nat) : Int) ∧ Bel w w' ∧ Bel wN w' ∧ Blk w' b2 25 #[.slice A l.length c, .slice B fs.length d] ∧ Blk w' b3 28 #[.slice AX X.length cX] ∧ Blk w' b22 3 (row X.length (fun x => .int .i64 ((inc X x : Nat) : Int))) ∧ Blk w' b10 43 #[.slice (some ⟨b51, 0, none⟩) X.length X.length] ∧ Blk w' b51 3 (row X.length (fun x => .int .i64 ((if x < i then tgs X x else 0 : Nat) : Int)))) (X.length) ?_ (fun m g16 w17 hI => ?_)
 ·
  refine ⟨0, Nat.zero_le _, rfl, rfl, rfl, hB, hBN, hb2, hb3, hb22, hb10, ?_⟩
  rw [row_congr (g' := fun _ => .int .i64 0) (fun x _ => by simp)]; exact hb51
 obtain ⟨i, hi, hm, h54, h11, hB, hBN, hb2, hb3, hb22, hb10, hb51⟩ := hI
 refine c_know 54 (.int .i64 i) h54 nu (c_know 11 (.int .i64 ((lastN X i : Nat) : Int)) h11 nu (c_seq (c_region (wl (r_lss rfl rfl) (x_nil ?_)))))
 refine e_S (c_seq ?_)
 refine c_ifd rfl (fun c55 => ?_) (fun c55 => ?_)
 ·
  have hil : i < X.length := by omega
  have hla := last_le X i
  refine c_skip (e_S (c_seq (c_block (c_seq (c_region ?_)))))
  refine wmI rfl (wl (r_ia (i := i) U43 sz3_GLoose rfl rfl om rfl) (wl (r_ld1 (v := .int _ _) U3 rfl rfl (hb22.cell (row_get hil))) (waI rfl (waI rfl (x_nil ?_)))))
  refine e_S (c_seq (c_region (wmI rfl (wl (r_gtr rfl rfl) (x_nil ?_)))))
  refine e_S ?_
  refine c_ifd rfl (fun c60 => ?_) (fun c60 => ?_)
  ·
   have hly := last_yes (g := X) (t := i) om
   refine c_seq (c_region (wmI rfl (wl (r_add rfl rfl rfl om) (waI rfl (x_nil ?_)))))
   refine e_S (c_region (wl (r_ld1 (v := .slice _ _ _) U43 rfl rfl (hb10.cell rfl)) (wmI rfl (wmI rfl (wl (r_ia (i := i) U43 sz3_GLoose rfl rfl om rfl) ?_)))))
   refine wl_st1 (v := .int _ _) hb51 rfl rfl sz3_GLoose (by rw [row_size]; omega) rfl row_set (fun w18 hq hs => ?_)
   replace hB := hB.tr1 hs lo51
   replace hb2 := hb2.tr1 hs om
   replace hb3 := hb3.tr1 hs om
   replace hBN := hBN.tr1 hs lo_hBN_b51
   replace hb22 := hb22.tr1 hs om
   replace hb10 := hb10.tr1 hs om
   clear hs
   replace hb51 := hq
   replace hb51 : Blk w18 b51 3 (row X.length (fun x => .int .i64 ((if x < i + 1 then tgs X x else 0 : Nat) : Int))) := by
     rw [row_congr (g' := fun x => .int .i64 ((if x < i + 1 then tgs X x else 0 : Nat) : Int)) (fun x _ => by
       by_cases e : x = i
       · subst e; simp [hly.2]
       · have e1 : (x < i + 1) ↔ (x < i) := by omega
         simp [e, e1])] at hb51
     exact hb51
   refine x_nil (e_B (e_S (c_region (wl (r_add rfl rfl rfl om) (wmI rfl ?_)))))
   refine x_nil (e_LS (X.length - (i + 1)) om agA ?_)
   first
     | exact ⟨i + 1, by omega, rfl, rfl, by rw [hly.1]; rfl, hB, hBN, hb2, hb3, hb22, hb10, hb51⟩
     | exact ⟨i + 1, by omega, rfl, rfl, by rw [hln.1]; rfl, hB, hBN, hb2, hb3, hb22, hb10, hb51⟩
  have hln := last_no (g := X) (t := i) om
  replace hb51 : Blk w17 b51 3 (row X.length (fun x => .int .i64 ((if x < i + 1 then tgs X x else 0 : Nat) : Int))) := by
    rw [row_congr (g' := fun x => .int .i64 ((if x < i then tgs X x else 0 : Nat) : Int)) (fun x _ => by
      by_cases e : x = i
      · subst e; simp [hln.2]
      · have e1 : (x < i + 1) ↔ (x < i) := by omega
        simp [e1])]
    exact hb51
  refine c_skip (e_B (e_S (c_region (wl (r_add rfl rfl rfl om) (wmI rfl ?_)))))
  refine x_nil (e_LS (X.length - (i + 1)) om agA ?_)
  first
    | exact ⟨i + 1, by omega, rfl, rfl, by rw [hly.1]; rfl, hB, hBN, hb2, hb3, hb22, hb10, hb51⟩
    | exact ⟨i + 1, by omega, rfl, rfl, by rw [hln.1]; rfl, hB, hBN, hb2, hb3, hb22, hb10, hb51⟩
 have hie : i = X.length := by omega
 rw [hie] at hb51
 rw [row_congr (g' := fun x => .int .i64 ((tgs X x : Nat) : Int)) (fun x hx => by rw [if_pos hx])] at hb51
 refine c_exit (e_Sx (e_LSx (e_Bx (e_S (c_seq ?_)))))
 obtain ⟨wZ, hwZ⟩ : ∃ z, z = w17 := ⟨_, rfl⟩
 have hBZ : Bel wZ w17 := by rw [hwZ]; exact Below.refl _ _
 have hBwZ : Bel w wZ := by rw [hwZ]; exact hB
 have hNZ := hNC.mono hBN
 have hcT := hb10
 have hct := hb51
 have hcH := hb2
 have hcG := hb3
 have hsz0 := Bel.size hB
 rw [← hwZ] at hNZ hcT hct hcH hcG hsz0
 refine c_region ?_
 refine wl_al (cs := #[.pointer none, .slice none 0 0]) ze131 rfl (fun b14 w19 hb14 hs hr => ?_)
 have or_b3_b14 : b3 < b14 := nLL hb3.lt hr
 have or_b10_b14 : b10 < b14 := nLL hb10.lt hr
 have lo14 := nLT (Bel.size hB) hr
 have lo_hBZ_b14 := nLT (Bel.size hBZ) hr
 replace hB := hB.tr0 hs
 replace hb3 := hb3.tr0 hs
 replace hb10 := hb10.tr0 hs
 replace hBZ := hBZ.tr0 hs
 clear hs
 clear hr
 refine x_nil (e_S (c_seq (c_region (wl (r_fa U28 sz26 dE rfl rfl rfl) (wl (r_ld1 (v := .slice _ _ _) U26 rfl rfl (hb3.cell rfl)) ?_)))))
 refine wl (r_len U26 rfl) ?_
 refine wl_mkR (m := X.length) U82 in4_GUnr rfl rfl rfl om om (fun b71 w20 hb71 hs hr => ?_)
 have or_b3_b71 : b3 < b71 := nLL hb3.lt hr
 have or_b10_b71 : b10 < b71 := nLL hb10.lt hr
 have or_b14_b71 : b14 < b71 := nLL hb14.lt hr
 have lo71 := nLT (Bel.size hB) hr
 have lo_hBZ_b71 := nLT (Bel.size hBZ) hr
 replace hB := hB.tr0 hs
 replace hb3 := hb3.tr0 hs
 replace hb10 := hb10.tr0 hs
 replace hBZ := hBZ.tr0 hs
 replace hb14 := hb14.tr0 hs
 clear hs
 clear hr
 refine wl_al (cs := #[.slice none 0 0]) ze82 rfl (fun b15 w21 hb15 hs hr => ?_)
 have or_b3_b15 : b3 < b15 := nLL hb3.lt hr
 have or_b10_b15 : b10 < b15 := nLL hb10.lt hr
 have or_b14_b15 : b14 < b15 := nLL hb14.lt hr
 have or_b71_b15 : b71 < b15 := nLL hb71.lt hr
 have lo15 := nLT (Bel.size hB) hr
 have lo_hBZ_b15 := nLT (Bel.size hBZ) hr
 replace hB := hB.tr0 hs
 replace hb3 := hb3.tr0 hs
 replace hb10 := hb10.tr0 hs
 replace hBZ := hBZ.tr0 hs
 replace hb14 := hb14.tr0 hs
 replace hb71 := hb71.tr0 hs
 clear hs
 clear hr
 refine wl_st1 (v := .slice _ _ _) hb15 rfl rfl sz82_ATx (by first | decide | simp) rfl rfl (fun w22 hq hs => ?_)
 replace hB := hB.tr1 hs lo15
 replace hb3 := hb3.tr1 hs om
 replace hb10 := hb10.tr1 hs om
 replace hBZ := hBZ.tr1 hs lo_hBZ_b15
 replace hb14 := hb14.tr1 hs om
 replace hb71 := hb71.tr1 hs om
 clear hs
 replace hb15 := hq
 refine x_nil (e_S (c_seq (c_region ?_)))
 refine wl_al (cs := #[.nilFunc]) ze123 rfl (fun b16 w23 hb16 hs hr => ?_)
 have or_b3_b16 : b3 < b16 := nLL hb3.lt hr
 have or_b10_b16 : b10 < b16 := nLL hb10.lt hr
 have or_b14_b16 : b14 < b16 := nLL hb14.lt hr
 have or_b71_b16 : b71 < b16 := nLL hb71.lt hr
 have or_b15_b16 : b15 < b16 := nLL hb15.lt hr
 have lo16 := nLT (Bel.size hB) hr
 have lo_hBZ_b16 := nLT (Bel.size hBZ) hr
 replace hB := hB.tr0 hs
 replace hb3 := hb3.tr0 hs
 replace hb10 := hb10.tr0 hs
 replace hBZ := hBZ.tr0 hs
 replace hb14 := hb14.tr0 hs
 replace hb71 := hb71.tr0 hs
 replace hb15 := hb15.tr0 hs
 clear hs
 clear hr
 refine x_nil (e_S (c_seq (c_region (wl (r_mf rfl) ?_))))
 refine wl_st1 (v := .func _ _ _) hb16 rfl rfl sz123 (by first | decide | simp) rfl rfl (fun w24 hq hs => ?_)
 replace hB := hB.tr1 hs lo16
 replace hb3 := hb3.tr1 hs om
 replace hb10 := hb10.tr1 hs om
 replace hBZ := hBZ.tr1 hs lo_hBZ_b16
 replace hb14 := hb14.tr1 hs om
 replace hb71 := hb71.tr1 hs om
 replace hb15 := hb15.tr1 hs om
 clear hs
 replace hb16 := hq
 refine x_nil (e_S (c_seq ?_))
 have hbd0 : BldI w24 wZ.heap.size b14 (Lib.byteCells []) := BldI.new hb14 lo_hBZ_b14
 have n15 : b15 ≠ b14 := by omega
 have n16 : b16 ≠ b14 := by omega
 have n71 : b71 ≠ b14 := by omega
 have hlk := lack_le X.length (fun _ => false)
 refine c_region (wl (r_ld1 (v := .func _ _ _) U123 rfl rfl (hb16.cell rfl)) ?_)
 refine wl_clv rfl fn92 (write_any (w0 := wZ) (A := A) (B := B) (G := AX) (c := c) (d := d) (cg := cX) (bT := b10) (bt := b51) (bH := b2) (bG := b3) (bB := b14) (bS := b15) (bV := b16) (bs := b71) (hT.mono hBwZ) (hF.mono hBwZ) hNZ hvX hWX hcT hct hcH hcG n15 n16 n71 lo_hBZ_b15 lo_hBZ_b16 lo_hBZ_b71 lo_hBZ_b14 (X.length + 1) (fun _ => false) (fun _ => 0) 0 [] _ om hX0 (WI.start X) (by simp only [List.length_nil]; omega) hBZ hb15 hb16 hb71 hbd0) rfl rfl (fun e' w25 hr => ?_)
 obtain ⟨rfl, hBZ2, _, _, _, hbd⟩ := hr
 clear hBZ hB
 have hBZ := hBZ2
 have hB := bel_below hBwZ hBZ (Bel.size hBwZ)
 rw [List.nil_append] at hbd
 refine ⟨_, rfl, ?_⟩
 refine x_nil (e_S (c_seq (c_region ?_)))
 refine wl_cl fn91 (sh_Builder_String_any wZ.heap.size b14 _ _ hbd.is (Bel.size hBZ)) rfl (fun e' w26 hr => ?_)
 obtain ⟨rfl, hs⟩ := hr
 replace hB := bel_below hB hs hsz0
 clear hBZ
 refine ⟨_, rfl, ?_⟩
 refine wl (r_as (v := .string _) rfl) (x_nil (e_S (c_ret (fin1 (.inl rfl) rfl rfl ?_))))
 exact ⟨⟨o, hDA, by rw [← hXe]; rfl⟩, hB⟩
end Go.Proofs.YtegngekpmpdngaaDoor
