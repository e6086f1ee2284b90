/- What these functions of the program compute, at every world: glosswright/general.Generalize$1. -/
import Derived.Test.YteenmolhopbpeaaDoorU
import Derived.Test.YteenmolhopbpeaaDoorEng5
import Derived.Test.YteenmolhopbpeaaDoorEng8
namespace Go.Proofs.YteenmolhopbpeaaDoor
open Go.RowKit
theorem fn15 : callable Tryd.prog 15 = true := by kernel_rfl
theorem fn16 : callable Tryd.prog 16 = true := by kernel_rfl
theorem fn17_GenV : callable Tryd.prog 17 = true := by kernel_rfl
theorem in36_GenV : (Tryd.prog.info? 36).map (fun i => (i.zero, i.size, i.bytes)) = some (some (.agg #[.int .i64 0, .int .i64 0]), 2, 16) := by kernel_rfl
theorem in39_GenV : (Tryd.prog.info? 39).map (fun i => (i.zero, i.size, i.bytes)) = some (some (.agg #[.int .i64 0, .slice none 0 0]), 2, 32) := by kernel_rfl
theorem sz28_GenV : (Tryd.prog.info? 28).map (·.size) = some 1 := by kernel_rfl
theorem sz30_GenV : (Tryd.prog.info? 30).map (·.size) = some 2 := by kernel_rfl
theorem sz49_GenV : (Tryd.prog.info? 49).map (·.size) = some 2 := by kernel_rfl
theorem ze30_GenV : (Tryd.prog.info? 30).map (·.zero) = some (some (.agg #[.int .i64 0, .int .i64 0])) := by kernel_rfl
theorem ze36_GenV : (Tryd.prog.info? 36).map (·.zero) = some (some (.agg #[.int .i64 0, .int .i64 0])) := by kernel_rfl
theorem ze39_GenV : (Tryd.prog.info? 39).map (·.zero) = some (some (.agg #[.int .i64 0, .slice none 0 0])) := by kernel_rfl
set_option maxRecDepth 100000 in
set_option maxHeartbeats 16000000 in
theorem gvis_step {w0 : World} {A1 A2 : Option Addr} {c1 c2 nf bu bd bM bO bT bA bB bV bm base : Nat} {l : List Ty} {ga gb G : List Nd} (hTab : TabIn w0) (hTI : TableIn w0 l bu bd) (hvt : VT l) (h60l : l.length ≤ 60) (ht0 : (typesFault l).1 = 0) (hG1 : NodesIn w0 A1 ga) (hG2 : NodesIn w0 A2 gb) (hxa : GX l ga) (hxb : GX l gb) (hlb : ∀ j (hj : j < gb.length), lnFault nf gb.length (-1) (gb[j]'hj).ln = 0) (hwb : ∀ j (hj : j < gb.length), (gb[j]'hj).ln.length ≤ 1000) (hwa : ∀ i (hi : i < ga.length), (ga[i]'hi).ln.length ≤ 1000) (hGe : G = pG l ga gb) (hlo : w0.heap.size ≤ base) (lM : bM < base) (l0O : w0.heap.size ≤ bO) (lO : bO < base) (l0T : w0.heap.size ≤ bT) (lT : bT < base) (lA : bA < base) (lB : bB < base) (lV : bV < base) (l0m : w0.heap.size ≤ bm) (lm : bm < base) (nMm : bM ≠ bm) (nMO : bM ≠ bO) (nTm : bT ≠ bm) (nTO : bT ≠ bO) (nAm : bA ≠ bm) (nAO : bA ≠ bO) (nBm : bB ≠ bm) (nBO : bB ≠ bO) (nVm : bV ≠ bm) (nVO : bV ≠ bO) (nOm : bO ≠ bm) {o : List Nat} {N : Option Addr} {cN : Nat} {V : Nat → Value} {L : Nat → List (Int × Int)} {w : World} (hB : Bel w0 w) (hbs : base ≤ w.heap.size) (hok : OOk G.length o) (hnd : o.Nodup) (h6 : o.length ≤ 60) (hbM : Blk w bM 52 #[.map (some bm)]) (hbT : Blk w bT 49 #[.slice (some ⟨bu, 0, none⟩) l.length l.length, .slice (some ⟨bd, 0, none⟩) l.length l.length]) (hbA : Blk w bA 28 #[.slice A1 ga.length c1]) (hbB : Blk w bB 28 #[.slice A2 gb.length c2]) (hbV : Blk w bV 53 #[.func (.func 15) #[] #[.pointer (some ⟨bM, 0, none⟩), .pointer (some ⟨bO, 0, none⟩), .pointer (some ⟨bT, 0, none⟩), .pointer (some ⟨bA, 0, none⟩), .pointer (some ⟨bB, 0, none⟩), .pointer (some ⟨bV, 0, none⟩)]]) (hbm : MapN w bm gb.length o) (hbO : Blk w bO 28 #[.slice N (o).length cN]) (ho : Own w base 39 2 N (o).length cN (ndV (tyG G o) V (o).length)) (hRw : RowsG w base (o).length V L) {i j z : Nat} (hi : i < ga.length) (hj : j < gb.length) (hz : z = i * gb.length + j) (IH : ∀ (i2 j2 : Nat) (o2 : List Nat) (N2 : Option Addr) (cN2 : Nat) (V2 : Nat → Value) (L2 : Nat → List (Int × Int)) (w2 : World), lackN G.length (memB o2) < lackN G.length (memB o) → i2 < ga.length → j2 < gb.length → Bel w0 w2 → base ≤ w2.heap.size → OOk G.length o2 → o2.Nodup → o2.length ≤ 60 → Blk w2 bM 52 #[.map (some bm)] → Blk w2 bT 49 #[.slice (some ⟨bu, 0, none⟩) l.length l.length, .slice (some ⟨bd, 0, none⟩) l.length l.length] → Blk w2 bA 28 #[.slice A1 ga.length c1] → Blk w2 bB 28 #[.slice A2 gb.length c2] → Blk w2 bV 53 #[.func (.func 15) #[] #[.pointer (some ⟨bM, 0, none⟩), .pointer (some ⟨bO, 0, none⟩), .pointer (some ⟨bT, 0, none⟩), .pointer (some ⟨bA, 0, none⟩), .pointer (some ⟨bB, 0, none⟩), .pointer (some ⟨bV, 0, none⟩)]] → MapN w2 bm gb.length o2 → Blk w2 bO 28 #[.slice N2 (o2).length cN2] → Own w2 base 39 2 N2 (o2).length cN2 (ndV (tyG G o2) V2 (o2).length) → RowsG w2 base (o2).length V2 L2 → Calls Tryd.prog 15 #[.int .i64 ((i2 : Nat) : Int), .int .i64 ((j2 : Nat) : Int), .pointer (some ⟨bM, 0, none⟩), .pointer (some ⟨bO, 0, none⟩), .pointer (some ⟨bT, 0, none⟩), .pointer (some ⟨bA, 0, none⟩), .pointer (some ⟨bB, 0, none⟩), .pointer (some ⟨bV, 0, none⟩)] w2 (VisR base bm bO gb.length G (pok l ga gb) o2 N2 V2 L2 w2 (i2 * gb.length + j2))) : Calls Tryd.prog 15 #[.int .i64 ((i : Nat) : Int), .int .i64 ((j : Nat) : Int), .pointer (some ⟨bM, 0, none⟩), .pointer (some ⟨bO, 0, none⟩), .pointer (some ⟨bT, 0, none⟩), .pointer (some ⟨bA, 0, none⟩), .pointer (some ⟨bB, 0, none⟩), .pointer (some ⟨bV, 0, none⟩)] w (VisR base bm bO gb.length G (pok l ga gb) o N V L w (z)) := by
 have hl0 : 0 < l.length := by have := hxa.tr 0 hxa.pos; omega
 have hGl : G.length = ga.length * gb.length := by rw [hGe]; exact pG_len _ _ _
 have hzl : z < G.length := by rw [hGl, hz]; exact enc_lt hi hj
 have hgy : GY l G := by rw [hGe]; exact pG_gy hxa hxb hl0
 have hrg := hgy.rng
 have hps := pG_succ (l := l) hi hj
 rw [← hGe, ← hz] at hps
 obtain ⟨hsc, hln, hty, hpk⟩ := hps
 have hq1 : z / gb.length = i := by rw [hz]; exact (enc_div hj).1
 have hq2 : z % gb.length = j := by rw [hz]; exact (enc_div hj).2
 have hm0 : 0 < gb.length := by omega
 obtain ⟨pa, oa, LA, lc, rfl, hpa, hpr, hpl⟩ := hG1.at_ (Below.refl _ _ : Bel w0 w0) hi
 obtain ⟨pb, ob, LB, lcb, rfl, hpb, hpr2, _⟩ := hG2.at_ (Below.refl _ _ : Bel w0 w0) hj
 have hna := nd_eq hi
 have hnb := nd_eq hj
 have hta0 := hxa.tr i hi
 have htb0 := hxb.tr j hj
 rw [hna] at hta0
 rw [hnb] at htb0
 obtain ⟨ta, hta⟩ : ∃ t : Nat, (ga[i]'hi).ty = (t : Int) := ⟨((ga[i]'hi).ty).toNat, by omega⟩
 obtain ⟨tb, htb⟩ : ∃ t : Nat, (gb[j]'hj).ty = (t : Int) := ⟨((gb[j]'hj).ty).toNat, by omega⟩
 have htal : ta < l.length := by omega
 have htbl : tb < l.length := by omega
 have hca : w0.cell? ⟨pa, oa + i * 2 + 0, none⟩ = some (.int .i64 ((ta : Nat) : Int)) := by
   have := hpr 0 _ rfl
   rw [hta] at this; exact this
 have hcb : w0.cell? ⟨pb, ob + j * 2 + 0, none⟩ = some (.int .i64 ((tb : Nat) : Int)) := by
   have := hpr2 0 _ rfl
   rw [htb] at this; exact this
 rw [hna, hnb, hta, htb, Int.toNat_natCast, Int.toNat_natCast] at hty hpk
 obtain ⟨J, hJ⟩ : ∃ J, J = joinsK l ta tb l.length := ⟨_, rfl⟩
 have hmx := hpl.1
 unfold maxI at hmx
 have hmA := hG1.1
 have hmB := hG2.1
 unfold maxI at hmA hmB
 obtain ⟨Z, hZ⟩ : ∃ Z, Z = ZG bm bO N V o.length := ⟨_, rfl⟩
 have hZm : Z bm := by rw [hZ]; exact .inl rfl
 have hZO : Z bO := by rw [hZ]; exact .inr (.inl rfl)
 have hOw : ∀ k, OwnG N V o.length k → Z k ∨ w.heap.size ≤ k := fun k h => .inl (by rw [hZ]; exact .inr (.inr h))
 have hC : ChG Z w w := ChG.refl _ _
 have hbz : base ≤ w.heap.size := hbs
 have hzz : ∀ k, Z k → w0.heap.size ≤ k := fun k hk => by
   rw [hZ] at hk
   rcases hk with hk | hk | hk
   · omega
   · omega
   · have := (own_bd ho hRw hk).1; omega
 refine enter Tryd.func15 Tryd.ntmps15 rfl (Nat.le_of_ble_eq_true rfl) (c_seq (c_region (waI rfl ?_)))
 refine wl_al (cs := #[.int .i64 0, .int .i64 0]) ze30_GenV rfl (fun b11 w1 hb11 hs hr => ?_)
 have or_bM_b11 : bM < b11 := nLL hbM.lt hr
 have or_bO_b11 : bO < b11 := nLL hbO.lt hr
 have or_bT_b11 : bT < b11 := nLL hbT.lt hr
 have or_bA_b11 : bA < b11 := nLL hbA.lt hr
 have or_bB_b11 : bB < b11 := nLL hbB.lt hr
 have or_bV_b11 : bV < b11 := nLL hbV.lt hr
 have or_bm_b11 : bm < b11 := nLL hbm.lt hr
 have or_ho_b11 := fun g hg => nLL (ho.lt g hg).2 hr
 have or_hRw_b11 := (hRw.ord hr)
 have or_hC_b11 := (nLT hC.size hr)
 have or_hbz_b11 := (nLT hbz hr)
 have lo11 := nLT (Bel.size hB) hr
 replace hB := hB.tr0 hs
 replace hbM := hbM.tr0 hs
 replace hbO := hbO.tr0 hs
 replace hbT := hbT.tr0 hs
 replace hbA := hbA.tr0 hs
 replace hbB := hbB.tr0 hs
 replace hbV := hbV.tr0 hs
 replace hbm := hbm.tr0 hs
 replace ho := ho.tr0 hs
 replace hRw := hRw.tr hs (by simp)
 replace hC := hC.st hs (by simp)
 replace hbz := nLT hbz (Same.size hs)
 clear hs
 clear hr
 refine x_nil (e_S (c_seq (c_seq (c_region (wl (r_ld1 (v := .map _) Tryd.underlying52 rfl rfl (hbM.cell rfl)) ?_)))))
 refine wmI rfl (wmI rfl (wl (r_bd2 (v0 := .int _ _) (v1 := .int _ _) (fun v0 v1 => #[v0, v1]) rfl rfl kR) (wl (r_lkA hbm Tryd.underlying52 U55 U3 sz3_Least ze3_Least rfl rfl hq1 hq2 hm0) (wmT rfl (wl (r_ex (v := .int _ _) rfl rfl) ?_)))))
 refine wl (r_ex (v := .bool _) rfl rfl) (waI rfl (waB rfl (x_nil (e_S (c_seq ?_)))))
 refine c_region (wmB rfl (x_nil (e_S ?_)))
 refine c_ifd rfl (fun c29 => ?_) (fun c29 => ?_)
 ·
  refine c_seq (c_region (wmI rfl (wl (r_bd (vs := #[]) (cs := #[.int .i64 0, .int .i64 0]) (by simp) kR) (wl (r_as (v := _) rfl) ?_))))
  refine wl_stW hb11 rfl rfl sz30_GenV rfl oneA (fun w2 hq hs => ?_)
  replace hB := hB.tr1 hs lo11
  replace hbM := hbM.tr1 hs om
  replace hbO := hbO.tr1 hs om
  replace hbT := hbT.tr1 hs om
  replace hbA := hbA.tr1 hs om
  replace hbB := hbB.tr1 hs om
  replace hbV := hbV.tr1 hs om
  replace hbm := hbm.tr1 hs om
  replace ho := ho.tr1 hs (fun g hg => by have := (ho.lt g hg).1; (try have := or_ho_b11 g hg); (try simp only [aL] at hg); (try simp only [List.mem_singleton] at hg); omega)
  replace hRw := hRw.tr hs (fun g hg => by rw [List.mem_singleton.1 hg]; first | exact .inl om | exact .inr (.inl ⟨_, _, hb11, by decide⟩) | exact .inr (.inr or_hRw_b11))
  replace hC := hC.st hs (fun g hg => by rw [List.mem_singleton.1 hg]; first | exact .inl hZm | exact .inl hZO | exact .inr om | exact hOw _ (.inl (List.mem_singleton.2 rfl)))
  replace hbz := nLT hbz (Same.size hs)
  clear hs
  replace hb11 := hq
  refine x_nil (e_S (c_ret (e_Sr (fin2 (.inl rfl) rfl rfl (rr_cell U30 rfl rfl hb11.range0 sz30_GenV) ?_))))
  exact visr_old c29 (by rw [hZ] at hC; exact hC) hbm hbO ho hRw rfl
 refine c_skip (e_S (c_seq (c_region (wl (r_fa U28 sz26_GTgt dE rfl rfl rfl) (wl (r_ld1 (v := .slice _ _ _) U26 rfl rfl (hbO.cell rfl)) ?_)))))
 refine wl (r_len U26 rfl) (waI rfl (x_nil (e_S (c_seq (c_seq ?_)))))
 refine c_region (wmI rfl (wl (r_eql rfl rfl) (x_nil (e_S ?_))))
 refine c_ifd rfl (fun c36 => ?_) (fun c36 => ?_)
 ·
  refine c_seq (c_region (wl (r_bd2 (v0 := .int _ _) (v1 := .int _ _) (fun v0 v1 => #[v0, v1]) rfl rfl kR) (waI rfl ?_)))
  refine wl_stW hb11 rfl rfl sz30_GenV rfl oneA (fun w3 hq hs => ?_)
  replace hB := hB.tr1 hs lo11
  replace hbM := hbM.tr1 hs om
  replace hbO := hbO.tr1 hs om
  replace hbT := hbT.tr1 hs om
  replace hbA := hbA.tr1 hs om
  replace hbB := hbB.tr1 hs om
  replace hbV := hbV.tr1 hs om
  replace hbm := hbm.tr1 hs om
  replace ho := ho.tr1 hs (fun g hg => by have := (ho.lt g hg).1; (try have := or_ho_b11 g hg); (try simp only [aL] at hg); (try simp only [List.mem_singleton] at hg); omega)
  replace hRw := hRw.tr hs (fun g hg => by rw [List.mem_singleton.1 hg]; first | exact .inl om | exact .inr (.inl ⟨_, _, hb11, by decide⟩) | exact .inr (.inr or_hRw_b11))
  replace hC := hC.st hs (fun g hg => by rw [List.mem_singleton.1 hg]; first | exact .inl hZm | exact .inl hZO | exact .inr om | exact hOw _ (.inl (List.mem_singleton.2 rfl)))
  replace hbz := nLT hbz (Same.size hs)
  clear hs
  replace hb11 := hq
  refine x_nil (e_S (c_ret (e_Sr (fin2 (.inl rfl) rfl rfl (rr_cell U30 rfl rfl hb11.range0 sz30_GenV) ?_))))
  exact visr_bad (vis_lim hrg hok hzl c29 om) (by rw [hZ] at hC; exact hC) dE rfl rfl
 have h6n : ¬ o.length = 60 := by omega
 have h6b : o.length < 60 := by omega
 refine c_skip (e_S (c_seq ?_))
 refine c_monoTO 15 [38, 39, 40, 41, 42, 43, 44, 45, 46, 47, 48, 49, 50, 51, 15] (fun _ => false) (fun ix v wv => match ix with | 0 => v = .agg #[.slice (some ⟨bu, 0, none⟩) l.length l.length, .slice (some ⟨bd, 0, none⟩) l.length l.length] | 1 => v = .pointer (some ⟨bA, 0, none⟩) | 2 => v = .slice (some ⟨pa, oa, none⟩) ga.length c1 | 3 => v = .int .i64 ((i : Nat) : Int) | 4 => v = .pointer (some ⟨pa, oa + i * 2, none⟩) | 5 => v = .pointer (some ⟨pa, oa + i * 2 + 0, none⟩) | 6 => v = .int .i64 ((ta : Nat) : Int) | 7 => v = .pointer (some ⟨bB, 0, none⟩) | 8 => v = .slice (some ⟨pb, ob, none⟩) gb.length c2 | 9 => v = .int .i64 ((j : Nat) : Int) | 10 => v = .pointer (some ⟨pb, ob + j * 2, none⟩) | 11 => v = .pointer (some ⟨pb, ob + j * 2 + 0, none⟩) | 12 => v = .int .i64 ((tb : Nat) : Int) | 13 => ∃ (AJ : Option Addr) (capJ : Nat), v = .slice AJ J.length capJ ∧ Own wv base 3 1 AJ J.length capJ (J.map (Value.int .i64)) | 14 => ∃ (AJ : Option Addr) (capJ : Nat), v = .slice AJ J.length capJ ∧ Own wv base 3 1 AJ J.length capJ (J.map (Value.int .i64)) | _ => True) kR kR ?_ ?_ ?_
 ·
  intro ix v wv wv2 h hs
  match ix, h with
  | 0, h => exact h
  | 1, h => exact h
  | 2, h => exact h
  | 3, h => exact h
  | 4, h => exact h
  | 5, h => exact h
  | 6, h => exact h
  | 7, h => exact h
  | 8, h => exact h
  | 9, h => exact h
  | 10, h => exact h
  | 11, h => exact h
  | 12, h => exact h
  | 13, h =>
   obtain ⟨AJ, capJ, e51, hoJ⟩ := (show ∃ (AJ : Option Addr) (capJ : Nat), v = .slice AJ J.length capJ ∧ Own wv base 3 1 AJ J.length capJ (J.map (Value.int .i64)) from h)
   exact ⟨AJ, capJ, e51, hoJ.tr0 hs⟩
  | 14, h =>
   obtain ⟨AJ, capJ, e15, hoJ⟩ := (show ∃ (AJ : Option Addr) (capJ : Nat), v = .slice AJ J.length capJ ∧ Own wv base 3 1 AJ J.length capJ (J.map (Value.int .i64)) from h)
   exact ⟨AJ, capJ, e15, hoJ.tr0 hs⟩
  | _ + 15, h => exact trivial
 ·
  intro ix o hix hoq gg wx hs hd hdis
  match ix, hix, hoq with
  | 0, _, hoq =>
   obtain rfl := sI hoq
   have hs0 := hs
   replace hbT := hbT.tr0 hs
   clear hs
   refine os_rv (r_ldS U49 rfl rfl hbT.range0 sz49_GenV) ⟨Same.refl _ _, ?_, frsh_no⟩
   exact rfl
  | 1, _, hoq =>
   obtain rfl := sI hoq
   have hs0 := hs
   replace hbA := hbA.tr0 hs
   clear hs
   refine os_rv (r_fa U28 sz26_GTgt dE rfl rfl rfl) ⟨Same.refl _ _, ?_, frsh_no⟩
   exact rfl
  | 2, _, hoq =>
   obtain rfl := sI hoq
   have hs0 := hs
   replace hbA := hbA.tr0 hs
   clear hs
   have d1 : gg 39 = .pointer (some ⟨bA, 0, none⟩) := hd 1 (dep_of kR)
   have e39 := d1
   refine os_know 39 (.pointer (some ⟨bA, 0, none⟩)) e39 nu ?_
   refine os_rv (r_ld1 (v := .slice _ _ _) U26 rfl rfl (hbA.cell rfl)) ⟨Same.refl _ _, ?_, frsh_no⟩
   exact rfl
  | 3, _, hoq =>
   obtain rfl := sI hoq
   have hs0 := hs
   clear hs
   refine os_rv (r_mv (v := .int _ _) rfl) ⟨Same.refl _ _, ?_, frsh_no⟩
   exact rfl
  | 4, _, hoq =>
   obtain rfl := sI hoq
   have hs0 := hs
   clear hs
   have d2 : gg 40 = .slice (some ⟨pa, oa, none⟩) ga.length c1 := hd 2 (dep_of kR)
   have e40 := d2
   have d3 : gg 41 = .int .i64 ((i : Nat) : Int) := hd 3 (dep_of kR)
   have e41 := d3
   refine os_know 40 (.slice (some ⟨pa, oa, none⟩) ga.length c1) e40 nu (os_know 41 (.int .i64 ((i : Nat) : Int)) e41 nu ?_)
   refine os_rv (r_ia (i := i) U26 sz39_GTgt rfl rfl hi rfl) ⟨Same.refl _ _, ?_, frsh_no⟩
   exact rfl
  | 5, _, hoq =>
   obtain rfl := sI hoq
   have hs0 := hs
   clear hs
   have d4 : gg 42 = .pointer (some ⟨pa, oa + i * 2, none⟩) := hd 4 (dep_of kR)
   have e42 := d4
   refine os_know 42 (.pointer (some ⟨pa, oa + i * 2, none⟩)) e42 nu ?_
   refine os_rv (r_fa U39 sz3_Least dE rfl rfl rfl) ⟨Same.refl _ _, ?_, frsh_no⟩
   exact rfl
  | 6, _, hoq =>
   obtain rfl := sI hoq
   have hs0 := hs
   replace hB := hB.tr0 hs
   clear hs
   have d5 : gg 43 = .pointer (some ⟨pa, oa + i * 2 + 0, none⟩) := hd 5 (dep_of kR)
   have e43 := d5
   refine os_know 43 (.pointer (some ⟨pa, oa + i * 2 + 0, none⟩)) e43 nu ?_
   refine os_rv (r_ld1 (v := .int _ _) U3 rfl rfl (hB.cell hpa hca)) ⟨Same.refl _ _, ?_, frsh_no⟩
   exact rfl
  | 7, _, hoq =>
   obtain rfl := sI hoq
   have hs0 := hs
   replace hbB := hbB.tr0 hs
   clear hs
   refine os_rv (r_fa U28 sz26_GTgt dE rfl rfl rfl) ⟨Same.refl _ _, ?_, frsh_no⟩
   exact rfl
  | 8, _, hoq =>
   obtain rfl := sI hoq
   have hs0 := hs
   replace hbB := hbB.tr0 hs
   clear hs
   have d7 : gg 45 = .pointer (some ⟨bB, 0, none⟩) := hd 7 (dep_of kR)
   have e45 := d7
   refine os_know 45 (.pointer (some ⟨bB, 0, none⟩)) e45 nu ?_
   refine os_rv (r_ld1 (v := .slice _ _ _) U26 rfl rfl (hbB.cell rfl)) ⟨Same.refl _ _, ?_, frsh_no⟩
   exact rfl
  | 9, _, hoq =>
   obtain rfl := sI hoq
   have hs0 := hs
   clear hs
   refine os_rv (r_mv (v := .int _ _) rfl) ⟨Same.refl _ _, ?_, frsh_no⟩
   exact rfl
  | 10, _, hoq =>
   obtain rfl := sI hoq
   have hs0 := hs
   clear hs
   have d8 : gg 46 = .slice (some ⟨pb, ob, none⟩) gb.length c2 := hd 8 (dep_of kR)
   have e46 := d8
   have d9 : gg 47 = .int .i64 ((j : Nat) : Int) := hd 9 (dep_of kR)
   have e47 := d9
   refine os_know 46 (.slice (some ⟨pb, ob, none⟩) gb.length c2) e46 nu (os_know 47 (.int .i64 ((j : Nat) : Int)) e47 nu ?_)
   refine os_rv (r_ia (i := j) U26 sz39_GTgt rfl rfl hj rfl) ⟨Same.refl _ _, ?_, frsh_no⟩
   exact rfl
  | 11, _, hoq =>
   obtain rfl := sI hoq
   have hs0 := hs
   clear hs
   have d10 : gg 48 = .pointer (some ⟨pb, ob + j * 2, none⟩) := hd 10 (dep_of kR)
   have e48 := d10
   refine os_know 48 (.pointer (some ⟨pb, ob + j * 2, none⟩)) e48 nu ?_
   refine os_rv (r_fa U39 sz3_Least dE rfl rfl rfl) ⟨Same.refl _ _, ?_, frsh_no⟩
   exact rfl
  | 12, _, hoq =>
   obtain rfl := sI hoq
   have hs0 := hs
   replace hB := hB.tr0 hs
   clear hs
   have d11 : gg 49 = .pointer (some ⟨pb, ob + j * 2 + 0, none⟩) := hd 11 (dep_of kR)
   have e49 := d11
   refine os_know 49 (.pointer (some ⟨pb, ob + j * 2 + 0, none⟩)) e49 nu ?_
   refine os_rv (r_ld1 (v := .int _ _) U3 rfl rfl (hB.cell hpb hcb)) ⟨Same.refl _ _, ?_, frsh_no⟩
   exact rfl
  | 13, _, hoq =>
   obtain rfl := sI hoq
   have hs0 := hs
   replace hB := hB.tr0 hs
   replace hbz := nLT hbz (Same.size hs)
   clear hs
   have d0 : gg 38 = .agg #[.slice (some ⟨bu, 0, none⟩) l.length l.length, .slice (some ⟨bd, 0, none⟩) l.length l.length] := hd 0 (dep_of kR)
   have e38 := d0
   have d6 : gg 44 = .int .i64 ((ta : Nat) : Int) := hd 6 (dep_of kR)
   have e44 := d6
   have d12 : gg 50 = .int .i64 ((tb : Nat) : Int) := hd 12 (dep_of kR)
   have e50 := d12
   refine os_know 38 (.agg #[.slice (some ⟨bu, 0, none⟩) l.length l.length, .slice (some ⟨bd, 0, none⟩) l.length l.length]) e38 nu (os_know 44 (.int .i64 ((ta : Nat) : Int)) e44 nu (os_know 50 (.int .i64 ((tb : Nat) : Int)) e50 nu ?_))
   refine os_cl fn16 ((hJ ▸ least_any l bu bd ta tb wx (hTab.mono hB) (hTI.mono hB) hvt h60l htal htbl)) rfl (fun e' w2 hr => ?_)
   obtain ⟨⟨AJ, capJ, rfl, hoJ⟩, hs⟩ := hr
   exact ⟨_, rfl, Same.of_bel hs, ⟨_, _, rfl, hoJ.low hbz⟩, frsh_no⟩
  | 14, _, hoq =>
   obtain rfl := sI hoq
   have hs0 := hs
   clear hs
   have d13 : ∃ (AJ : Option Addr) (capJ : Nat), gg 51 = .slice AJ J.length capJ ∧ Own wx base 3 1 AJ J.length capJ (J.map (Value.int .i64)) := hd 13 (dep_of kR)
   obtain ⟨AJ, capJ, e51, hoJ⟩ := d13
   refine os_know 51 (.slice AJ J.length capJ) e51 nu ?_
   refine os_rv (r_as (v := .slice _ _ _) rfl) ⟨Same.refl _ _, ?_, frsh_no⟩
   exact ⟨_, _, rfl, hoJ⟩
  | _ + 15, hix, _ => exact absurd hix om
 intro gg w4 hs hR hdis
 have hs0 := hs
 replace hB := hB.tr0 hs
 replace hbM := hbM.tr0 hs
 replace hbO := hbO.tr0 hs
 replace hbT := hbT.tr0 hs
 replace hbA := hbA.tr0 hs
 replace hbB := hbB.tr0 hs
 replace hbV := hbV.tr0 hs
 replace hbm := hbm.tr0 hs
 replace ho := ho.tr0 hs
 replace hRw := hRw.tr hs (by simp)
 replace hC := hC.st hs (by simp)
 replace hbz := nLT hbz (Same.size hs)
 replace hb11 := hb11.tr0 hs
 clear hs
 have d14 : ∃ (AJ : Option Addr) (capJ : Nat), gg 15 = .slice AJ J.length capJ ∧ Own w4 base 3 1 AJ J.length capJ (J.map (Value.int .i64)) := hR 14 dE
 obtain ⟨AJ, capJ, e15, hoJ⟩ := d14
 refine wl_know 15 (.slice AJ J.length capJ) e15 nu (x_nil (e_S (c_seq (c_seq (c_region ?_)))))
 refine wmS rfl (wl (r_len U56 rfl) (wl (r_gtr rfl rfl) (x_nil (e_S ?_))))
 refine c_ifd rfl (fun c54 => ?_) (fun c54 => ?_)
 ·
  have hpn : pok l ga gb z = false := by
    rw [hpk]; unfold jok; rw [← hJ]; exact decide_eq_false om
  refine c_seq (c_region (wmI rfl (wl (r_bd2 (v0 := .int _ _) (v1 := .int _ _) (fun v0 v1 => #[v0, v1]) rfl rfl kR) (waI rfl ?_))))
  refine wl_stW hb11 rfl rfl sz30_GenV rfl oneA (fun w5 hq hs => ?_)
  replace hB := hB.tr1 hs lo11
  replace hbM := hbM.tr1 hs om
  replace hbO := hbO.tr1 hs om
  replace hbT := hbT.tr1 hs om
  replace hbA := hbA.tr1 hs om
  replace hbB := hbB.tr1 hs om
  replace hbV := hbV.tr1 hs om
  replace hbm := hbm.tr1 hs om
  replace ho := ho.tr1 hs (fun g hg => by have := (ho.lt g hg).1; (try have := or_ho_b11 g hg); (try simp only [aL] at hg); (try simp only [List.mem_singleton] at hg); omega)
  replace hRw := hRw.tr hs (fun g hg => by rw [List.mem_singleton.1 hg]; first | exact .inl om | exact .inr (.inl ⟨_, _, hb11, by decide⟩) | exact .inr (.inr or_hRw_b11))
  replace hC := hC.st hs (fun g hg => by rw [List.mem_singleton.1 hg]; first | exact .inl hZm | exact .inl hZO | exact .inr om | exact hOw _ (.inl (List.mem_singleton.2 rfl)))
  replace hbz := nLT hbz (Same.size hs)
  clear hs
  replace hb11 := hq
  refine x_nil (e_S (c_ret (e_Sr (fin2 (.inl rfl) rfl rfl (rr_cell U30 rfl rfl hb11.range0 sz30_GenV) ?_))))
  exact visr_bad (vis_conf hrg hok hzl c29 h6n hpn) (by rw [hZ] at hC; exact hC) (by show ¬ (16 : Int) = 0; decide) rfl rfl
 have hjp := join_pos ht0 htal htbl
 rw [← hJ] at hjp
 have hj1 : J.length = 1 := by omega
 have hpy : pok l ga gb z = true := by
   rw [hpk]; unfold jok; rw [← hJ]; exact decide_eq_true hj1
 have hjv : J = [jnV l ta tb] := by
   rw [hJ]; exact jn_one (by rw [← hpk]; exact hpy)
 refine c_skip (e_S (c_seq (c_region (wl (r_ld1 (v := .map _) Tryd.underlying52 rfl rfl (hbM.cell rfl)) (wmI rfl ?_)))))
 refine wmI rfl (wl (r_bd2 (v0 := .int _ _) (v1 := .int _ _) (fun v0 v1 => #[v0, v1]) rfl rfl kR) (wmI rfl ?_))
 refine wl_muA hbm Tryd.underlying52 U55 U3 sz3_Least rfl rfl rfl hq1 hq2 hm0 c29 (fun w6 hq hs => ?_)
 replace hB := hB.tr1 hs l0m
 replace hbM := hbM.tr1 hs om
 replace hbO := hbO.tr1 hs om
 replace hbT := hbT.tr1 hs om
 replace hbA := hbA.tr1 hs om
 replace hbB := hbB.tr1 hs om
 replace hbV := hbV.tr1 hs om
 replace ho := ho.tr1 hs (fun g hg => by have := (ho.lt g hg).1; (try have := or_ho_bm g hg); (try simp only [aL] at hg); (try simp only [List.mem_singleton] at hg); omega)
 replace hRw := hRw.tr hs (fun g hg => by rw [List.mem_singleton.1 hg]; first | exact .inl om | exact .inr (.inl ⟨_, _, hbm, by decide⟩) | exact .inr (.inr or_hRw_bm))
 replace hC := hC.st hs (fun g hg => by rw [List.mem_singleton.1 hg]; first | exact .inl hZm | exact .inl hZO | exact .inr om | exact hOw _ (.inl (List.mem_singleton.2 rfl)))
 replace hbz := nLT hbz (Same.size hs)
 replace hb11 := hb11.tr1 hs om
 replace hoJ := hoJ.tr1 hs (fun g hg => by have := (hoJ.lt g hg).1; omega)
 clear hs
 replace hbm := hq
 refine x_nil (e_S (c_seq ?_))
 obtain ⟨gJ, rfl, _, _, _⟩ := hoJ.cell (by rw [hjv]; simp)
 have hsv := hC.size
 have zo := fun g hg => (ho.lt g hg).2
 have hsz := Bel.size hB
 refine c_monoSO 9 [62, 63, 64, 65, 66, 67, 68, 69, 70] (aL N) 7 (fun ix v wv => match ix with | 0 => v = .pointer (some ⟨bO, 0, none⟩) | 1 => v = .slice N o.length cN | 2 => v = .slice (some ⟨gJ, 0, none⟩) J.length capJ | 3 => v = .pointer (some ⟨gJ, 0 + 0 * 1, none⟩) | 4 => v = .int .i64 (jnV l ta tb) | 5 => v = .agg #[.int .i64 (jnV l ta tb), .slice none 0 0] | 6 => ∃ b, v = .slice (some ⟨b, 0, none⟩) 1 1 ∧ w6.heap.size ≤ b ∧ Blk wv b 39 #[.int .i64 (jnV l ta tb), .slice none 0 0] | 7 => ∃ g cap, v = .slice (some ⟨g, 0, none⟩) (o.length + 1) cap ∧ Own wv base 39 2 (some ⟨g, 0, none⟩) (o.length + 1) cap (ndV (tyG G o) V o.length ++ [.int .i64 (jnV l ta tb), .slice none 0 0]) ∧ (aL N = [g] ∨ w6.heap.size ≤ g) | 8 => v = .pointer (some ⟨bO, 0, none⟩) | _ => True) (fun _ => True) kR kR ?_ (fun _ _ _ _ => trivial) ?_ ?_ dE ?_
 ·
  intro ix v wv wv2 h hs
  match ix, h with
  | 0, h => exact h
  | 1, h => exact h
  | 2, h => exact h
  | 3, h => exact h
  | 4, h => exact h
  | 5, h => exact h
  | 6, h =>
   obtain ⟨b68, e68, lo68, hb68⟩ := (show ∃ b, v = .slice (some ⟨b, 0, none⟩) 1 1 ∧ w6.heap.size ≤ b ∧ Blk wv b 39 #[.int .i64 (jnV l ta tb), .slice none 0 0] from h)
   exact ⟨b68, e68, lo68, hb68.tr0 hs⟩
  | 7, h =>
   obtain ⟨g69, cap69, e69, ho69, hg69⟩ := (show ∃ g cap, v = .slice (some ⟨g, 0, none⟩) (o.length + 1) cap ∧ Own wv base 39 2 (some ⟨g, 0, none⟩) (o.length + 1) cap (ndV (tyG G o) V o.length ++ [.int .i64 (jnV l ta tb), .slice none 0 0]) ∧ (aL N = [g] ∨ w6.heap.size ≤ g) from h)
   exact ⟨g69, cap69, e69, ho69.tr0 hs, hg69⟩
  | 8, h => exact h
  | _ + 9, h => exact trivial
 ·
  intro ix o hix hne hoq gg wx hs hd
  match ix, hix, hne, hoq with
  | 0, _, _, hoq =>
   obtain rfl := sI hoq
   have hs0 := hs
   replace hbO := hbO.tr hs (fun hx => by have := (ho.lt _ hx).1; (try have := or_ho_bO _ hx); omega)
   refine os_rv (r_fa U28 sz26_GTgt dE rfl rfl rfl) ⟨Same.refl _ _, ?_⟩
   exact rfl
  | 1, _, _, hoq =>
   obtain rfl := sI hoq
   have hs0 := hs
   replace hbO := hbO.tr hs (fun hx => by have := (ho.lt _ hx).1; (try have := or_ho_bO _ hx); omega)
   have d0 : gg 62 = .pointer (some ⟨bO, 0, none⟩) := hd 0 (dep_of kR)
   have e62 := d0
   refine os_know 62 (.pointer (some ⟨bO, 0, none⟩)) e62 nu ?_
   refine os_rv (r_ld1 (v := .slice _ _ _) U26 rfl rfl (hbO.cell rfl)) ⟨Same.refl _ _, ?_⟩
   exact rfl
  | 2, _, _, hoq =>
   obtain rfl := sI hoq
   have hs0 := hs
   refine os_rv (r_mv (v := .slice _ _ _) rfl) ⟨Same.refl _ _, ?_⟩
   exact rfl
  | 3, _, _, hoq =>
   obtain rfl := sI hoq
   have hs0 := hs
   have d2 : gg 64 = .slice (some ⟨gJ, 0, none⟩) J.length capJ := hd 2 (dep_of kR)
   have e64 := d2
   refine os_know 64 (.slice (some ⟨gJ, 0, none⟩) J.length capJ) e64 nu ?_
   refine os_rv (r_ia (i := 0) U56 sz3_Least rfl rfl om rfl) ⟨Same.refl _ _, ?_⟩
   exact rfl
  | 4, _, _, hoq =>
   obtain rfl := sI hoq
   have hs0 := hs
   replace hoJ := hoJ.tr hs (fun g hg hx => own_ne hoJ ho dE g hg hx)
   have d3 : gg 65 = .pointer (some ⟨gJ, 0 + 0 * 1, none⟩) := hd 3 (dep_of kR)
   have e65 := d3
   refine os_know 65 (.pointer (some ⟨gJ, 0 + 0 * 1, none⟩)) e65 nu ?_
   refine os_rv (r_ld1 (v := .int _ _) U3 rfl rfl (own_head hoJ hjv)) ⟨Same.refl _ _, ?_⟩
   exact rfl
  | 5, _, _, hoq =>
   obtain rfl := sI hoq
   have hs0 := hs
   have d4 : gg 66 = .int .i64 (jnV l ta tb) := hd 4 (dep_of kR)
   have e66 := d4
   refine os_know 66 (.int .i64 (jnV l ta tb)) e66 nu ?_
   refine os_rv (r_bd1 (v0 := .int _ _) (fun v0 => #[v0, .slice none 0 0]) rfl kR) ⟨Same.refl _ _, ?_⟩
   exact rfl
  | 6, _, _, hoq =>
   obtain rfl := sI hoq
   have hs0 := hs
   have d5 : gg 67 = .agg #[.int .i64 (jnV l ta tb), .slice none 0 0] := hd 5 (dep_of kR)
   have e67 := d5
   refine os_know 67 (.agg #[.int .i64 (jnV l ta tb), .slice none 0 0]) e67 nu ?_
   refine os_wl (fun ops Q K => ?_)
   refine wl_bs (cs := #[_, _]) [(0, .agg _)] rfl U26 sz39_GTgt ze39_GenV dE dE kR rfl (fun b68 w7 hb68 hs hr => ?_)
   exact K _ _ ⟨hs, ⟨_, rfl, nLT hs0.size hr, hb68⟩⟩
  | 7, _, hne, _ => exact absurd rfl hne
  | 8, _, _, hoq =>
   obtain rfl := sI hoq
   have hs0 := hs
   replace hbO := hbO.tr hs (fun hx => by have := (ho.lt _ hx).1; (try have := or_ho_bO _ hx); omega)
   refine os_rv (r_fa U28 sz26_GTgt dE rfl rfl rfl) ⟨Same.refl _ _, ?_⟩
   exact rfl
  | _ + 9, hix, _, _ => exact absurd hix om
 ·
  intro o hoq gg wx hs hd
  obtain rfl := sI hoq
  have hs0 := hs
  replace hB := hB.tr0 hs
  replace hbM := hbM.tr0 hs
  replace hbO := hbO.tr0 hs
  replace hbT := hbT.tr0 hs
  replace hbA := hbA.tr0 hs
  replace hbB := hbB.tr0 hs
  replace hbV := hbV.tr0 hs
  replace hbm := hbm.tr0 hs
  replace ho := ho.tr0 hs
  replace hRw := hRw.tr hs (by simp)
  replace hC := hC.st hs (by simp)
  replace hbz := nLT hbz (Same.size hs)
  replace hb11 := hb11.tr0 hs
  replace hoJ := hoJ.tr0 hs
  clear hs
  have d1 : gg 63 = .slice N o.length cN := hd 1 (dep_of kR)
  have e63 := d1
  have d6 : ∃ b, gg 68 = .slice (some ⟨b, 0, none⟩) 1 1 ∧ w6.heap.size ≤ b ∧ Blk wx b 39 #[.int .i64 (jnV l ta tb), .slice none 0 0] := hd 6 (dep_of kR)
  obtain ⟨b68, e68, lo68, hb68⟩ := d6
  refine os_know 63 (.slice N o.length cN) e63 nu (os_know 68 (.slice (some ⟨b68, 0, none⟩) 1 1) e68 nu ?_)
  refine os_wl (fun ops Q K => ?_)
  refine wl_app U26 in39_GenV rfl dE ho hb68 rfl rfl rfl oneA dE om om hbz (fun g69 cap69 w2 ho69 hs2 hg69 => ?_)
  refine K _ _ ⟨hs2, ⟨_, _, rfl, ho69, hg69.imp id (fun h => nLT hs0.size h)⟩, trivial, fun kx v hne h => ?_⟩
  match kx, hne, h with
  | 0, _, h => exact h
  | 1, _, h => exact h
  | 2, _, h => exact h
  | 3, _, h => exact h
  | 4, _, h => exact h
  | 5, _, h => exact h
  | 6, _, h =>
   obtain ⟨b68, e68, lo68, hb68⟩ := (show ∃ b, v = .slice (some ⟨b, 0, none⟩) 1 1 ∧ w6.heap.size ≤ b ∧ Blk wx b 39 #[.int .i64 (jnV l ta tb), .slice none 0 0] from h)
   exact ⟨b68, e68, lo68, hb68.tr hs2 (fun hx => by have := zo _ hx; omega)⟩
  | 7, hne, _ => exact absurd rfl hne
  | 8, _, h => exact h
  | _ + 9, _, _ => exact trivial
 intro gg w8 hs _ hR
 have hs0 := hs
 replace hB := hB.tr hs (fun g hg => nLT hlo (ho.lt g hg).1)
 replace hbM := hbM.tr hs (fun hx => by have := (ho.lt _ hx).1; (try have := or_ho_bM _ hx); omega)
 replace hbO := hbO.tr hs (fun hx => by have := (ho.lt _ hx).1; (try have := or_ho_bO _ hx); omega)
 replace hbT := hbT.tr hs (fun hx => by have := (ho.lt _ hx).1; (try have := or_ho_bT _ hx); omega)
 replace hbA := hbA.tr hs (fun hx => by have := (ho.lt _ hx).1; (try have := or_ho_bA _ hx); omega)
 replace hbB := hbB.tr hs (fun hx => by have := (ho.lt _ hx).1; (try have := or_ho_bB _ hx); omega)
 replace hbV := hbV.tr hs (fun hx => by have := (ho.lt _ hx).1; (try have := or_ho_bV _ hx); omega)
 replace hbm := hbm.tr hs (fun hx => by have := (ho.lt _ hx).1; (try have := or_ho_bm _ hx); omega)
 replace hRw := hRw.tr hs (fun g hg => .inr (.inl (by obtain ⟨cs, hc⟩ := (ho).typ g hg; exact ⟨cs, _, hc, by decide⟩)))
 replace hC := hC.st hs (fun g hg => by first | exact hOw g (.inl hg) | exact hOw g (.inr ⟨_, _, _, _, hkl, hVk, hg⟩))
 replace hbz := nLT hbz (Same.size hs)
 replace hb11 := hb11.tr hs (fun hx => by have := (ho.lt _ hx).1; (try have := or_ho_b11 _ hx); omega)
 replace hoJ := hoJ.tr hs (fun g hg hx => own_ne hoJ ho dE g hg hx)
 have d7 : ∃ g cap, gg 69 = .slice (some ⟨g, 0, none⟩) (o.length + 1) cap ∧ Own w8 base 39 2 (some ⟨g, 0, none⟩) (o.length + 1) cap (ndV (tyG G o) V o.length ++ [.int .i64 (jnV l ta tb), .slice none 0 0]) ∧ (aL N = [g] ∨ w6.heap.size ≤ g) := hR 7 dE
 obtain ⟨g69, cap69, e69, ho69, hg69⟩ := d7
 have d8 : gg 70 = .pointer (some ⟨bO, 0, none⟩) := hR 8 dE
 have e70 := d8
 have hal : (o ++ [z]).length = o.length + 1 := by simp
 have ho : Own w8 base 39 2 (some ⟨g69, 0, none⟩) (o ++ [z]).length cap69 (ndV (tyG G (o ++ [z])) (putG V o.length (.slice none 0 0)) (o ++ [z]).length) := by
   rw [← ndG_snoc (u := .int .i64 (jnV l ta tb)) (by rw [hty]), hal]; exact ho69
 have hRw : RowsG w8 base (o ++ [z]).length (putG V o.length (.slice none 0 0)) (fun x => if x = o.length then [] else L x) := by rw [hal]; exact hRw.snoc
 have hOw : ∀ k, OwnG (some ⟨g69, 0, none⟩) (putG V o.length (.slice none 0 0)) (o ++ [z]).length k → Z k ∨ w.heap.size ≤ k := by
   rw [hal]; exact own_snoc2 hOw (hg69.imp id (fun h => .inr (nLT hsv h)))
 refine wl_know 69 (.slice (some ⟨g69, 0, none⟩) (o.length + 1) cap69) e69 nu (wl_know 70 (.pointer (some ⟨bO, 0, none⟩)) e70 nu ?_)
 refine wl_st1 (v := .slice _ _ _) hbO rfl rfl sz26_GTgt (by first | decide | simp) rfl rfl (fun w9 hq hs => ?_)
 replace hB := hB.tr1 hs l0O
 replace hbM := hbM.tr1 hs om
 replace hbT := hbT.tr1 hs om
 replace hbA := hbA.tr1 hs om
 replace hbB := hbB.tr1 hs om
 replace hbV := hbV.tr1 hs om
 replace hbm := hbm.tr1 hs om
 replace hRw := hRw.tr hs (fun g hg => by rw [List.mem_singleton.1 hg]; first | exact .inl om | exact .inr (.inl ⟨_, _, hbO, by decide⟩) | exact .inr (.inr or_hRw_bO))
 replace hC := hC.st hs (fun g hg => by rw [List.mem_singleton.1 hg]; first | exact .inl hZm | exact .inl hZO | exact .inr om | exact hOw _ (.inl (List.mem_singleton.2 rfl)))
 replace hbz := nLT hbz (Same.size hs)
 replace hb11 := hb11.tr1 hs om
 replace hoJ := hoJ.tr1 hs (fun g hg => by have := (hoJ.lt g hg).1; omega)
 replace ho := ho.tr1 hs (fun g hg => by have := (ho.lt g hg).1; (try have := or_ho_bO g hg); (try simp only [aL] at hg); (try simp only [List.mem_singleton] at hg); omega)
 clear hs
 replace hbO := hq
 replace hbO : Blk w9 bO 28 #[.slice (some ⟨g69, 0, none⟩) (o ++ [z]).length cap69] := by rw [hal]; exact hbO
 refine x_nil (e_S (c_seq (c_seq (c_region (wl (r_fa U28 sz26_GTgt dE rfl rfl rfl) ?_)))))
 refine wl (r_ld1 (v := .slice _ _ _) U26 rfl rfl (hbA.cell rfl)) (wmI rfl (wl (r_ia (i := i) U26 sz39_GTgt rfl rfl hi rfl) (wl (r_fa U39 sz37_GTgt dE rfl rfl rfl) (wl (r_ld1 (v := .slice _ _ _) U37 rfl rfl (hB.cell hpa (hpr 1 _ rfl))) (wl (r_len U37 rfl) ?_)))))
 refine wmI rfl (x_nil (e_S (c_block ?_)))
 refine c_loopS [10, 17, 18, 19, 20, 78, 79, 80, 81, 82, 83, 84, 85, 86, 87, 88, 89, 90, 91, 92, 93, 94, 95, 96, 97, 98, 99, 100, 101, 102, 103, 104, 105, 106, 107, 108, 109, 110, 111, 112, 113, 114, 115, 116, 117, 118] (fun m g w' => ∃ (q : Nat) (a s2 : List Nat) (N2 : Option Addr) (cN2 : Nat) (V2 : Nat → Value) (L2 : Nat → List (Int × Int)), q ≤ (ga[i]'hi).ln.length ∧ m = (ga[i]'hi).ln.length - q ∧ g 78 = .int .i64 q ∧ a = o ++ [z] ++ s2 ∧ DL G (sq (pLq ga gb i j q)) (o ++ [z]) a ∧ genS (pok l ga gb) (o.length + 1) s2 = (0, 0) ∧ LOk G L L2 o.length (o.length + 1) a ∧ L2 o.length = (pLq ga gb i j q).map (canL a) ∧ (∀ k, OwnG N2 V2 a.length k → Z k ∨ w.heap.size ≤ k) ∧ Bel w0 w' ∧ Blk w' bM 52 #[.map (some bm)] ∧ Blk w' bT 49 #[.slice (some ⟨bu, 0, none⟩) l.length l.length, .slice (some ⟨bd, 0, none⟩) l.length l.length] ∧ Blk w' bA 28 #[.slice (some ⟨pa, oa, none⟩) ga.length c1] ∧ Blk w' bB 28 #[.slice (some ⟨pb, ob, none⟩) gb.length c2] ∧ Blk w' bV 53 #[.func (.func 15) #[] #[.pointer (some ⟨bM, 0, none⟩), .pointer (some ⟨bO, 0, none⟩), .pointer (some ⟨bT, 0, none⟩), .pointer (some ⟨bA, 0, none⟩), .pointer (some ⟨bB, 0, none⟩), .pointer (some ⟨bV, 0, none⟩)]] ∧ Blk w' b11 30 #[.int .i64 0, .int .i64 0] ∧ ChG Z w w' ∧ base ≤ w'.heap.size ∧ MapN w' bm gb.length a ∧ Blk w' bO 28 #[.slice N2 (a).length cN2] ∧ Own w' base 39 2 N2 (a).length cN2 (ndV (tyG G a) V2 (a).length) ∧ RowsG w' base (a).length V2 L2) ((ga[i]'hi).ln.length) ?_ (fun m g13 w10 hI => ?_)
 ·
  exact ⟨0, o ++ [z], [], _, _, _, _, Nat.zero_le _, rfl, rfl, by simp, .nil, rfl, LOk.start, if_pos rfl, hOw, hB, hbM, hbT, hbA, hbB, hbV, hb11, hC, hbz, hbm, hbO, ho, hRw⟩
 obtain ⟨q, a, s2, N2, cN2, V2, L2, hqk, hm, h78, ha, hD, hs2, hLO, hLr, hOw, hB, hbM, hbT, hbA, hbB, hbV, hb11, hC, hbz, hbm, hbO, ho, hRw⟩ := hI
 refine c_know 78 (.int .i64 q) h78 nu (c_seq (c_region (wl (r_lss rfl rfl) (x_nil (e_S ?_)))))
 refine c_seq ?_
 refine c_ifd rfl (fun c79 => ?_) (fun c79 => ?_)
 ·
  have hql : q < (ga[i]'hi).ln.length := by omega
  obtain ⟨lb, lof, rfl, hlb_, hlr⟩ := hpl.at_ hB hql
  have hlx := hxa.lr i hi
  rw [hna] at hlx
  have hly := hxb.lr j hj
  rw [hnb] at hly
  obtain ⟨u, hu, hul⟩ : ∃ u : Nat, ((ga[i]'hi).ln[q]'hql).2 = (u : Int) ∧ u < ga.length := by
    have h1 := hlx _ (List.getElem_mem hql)
    exact ⟨(((ga[i]'hi).ln[q]'hql).2).toNat, by omega, by omega⟩
  refine c_skip (e_S (c_seq (c_block (c_seq (c_region ?_)))))
  refine wl (r_ia (i := q) U37 sz36_GSearch rfl rfl om rfl) (wl (r_ldS U36 rfl rfl hlr sz36_GSearch) ?_)
  refine wl_al (cs := #[.int .i64 0, .int .i64 0]) ze36_GenV rfl (fun b17 w11 hb17 hs hr => ?_)
  have or_bM_b17 : bM < b17 := nLL hbM.lt hr
  have or_bO_b17 : bO < b17 := nLL hbO.lt hr
  have or_bT_b17 : bT < b17 := nLL hbT.lt hr
  have or_bA_b17 : bA < b17 := nLL hbA.lt hr
  have or_bB_b17 : bB < b17 := nLL hbB.lt hr
  have or_bV_b17 : bV < b17 := nLL hbV.lt hr
  have or_bm_b17 : bm < b17 := nLL hbm.lt hr
  have or_hRw_b17 := (hRw.ord hr)
  have or_hC_b17 := (nLT hC.size hr)
  have or_hbz_b17 := (nLT hbz hr)
  have or_b11_b17 : b11 < b17 := nLL hb11.lt hr
  have or_ho_b17 := fun g hg => nLL (ho.lt g hg).2 hr
  have lo17 := nLT (Bel.size hB) hr
  replace hB := hB.tr0 hs
  replace hbM := hbM.tr0 hs
  replace hbO := hbO.tr0 hs
  replace hbT := hbT.tr0 hs
  replace hbA := hbA.tr0 hs
  replace hbB := hbB.tr0 hs
  replace hbV := hbV.tr0 hs
  replace hbm := hbm.tr0 hs
  replace hRw := hRw.tr hs (by simp)
  replace hC := hC.st hs (by simp)
  replace hbz := nLT hbz (Same.size hs)
  replace hb11 := hb11.tr0 hs
  replace ho := ho.tr0 hs
  clear hs
  clear hr
  refine wl_stW hb17 rfl rfl sz36_GSearch rfl oneA (fun w12 hq hs => ?_)
  replace hB := hB.tr1 hs lo17
  replace hbM := hbM.tr1 hs om
  replace hbO := hbO.tr1 hs om
  replace hbT := hbT.tr1 hs om
  replace hbA := hbA.tr1 hs om
  replace hbB := hbB.tr1 hs om
  replace hbV := hbV.tr1 hs om
  replace hbm := hbm.tr1 hs om
  replace hRw := hRw.tr hs (fun g hg => by rw [List.mem_singleton.1 hg]; first | exact .inl om | exact .inr (.inl ⟨_, _, hb17, by decide⟩) | exact .inr (.inr or_hRw_b17))
  replace hC := hC.st hs (fun g hg => by rw [List.mem_singleton.1 hg]; first | exact .inl hZm | exact .inl hZO | exact .inr om | exact hOw _ (.inl (List.mem_singleton.2 rfl)))
  replace hbz := nLT hbz (Same.size hs)
  replace hb11 := hb11.tr1 hs om
  replace ho := ho.tr1 hs (fun g hg => by have := (ho.lt g hg).1; (try have := or_ho_b17 g hg); (try simp only [aL] at hg); (try simp only [List.mem_singleton] at hg); omega)
  clear hs
  replace hb17 := hq
  refine x_nil (e_S (c_seq ?_))
  rw [hu] at hb17
  refine c_region (wl (r_ldS U28 rfl rfl hbB.range0 sz28_GenV) (wmI rfl (wl (r_fa U36 sz3_Least dE rfl rfl rfl) (wl (r_ld1 (v := .int _ _) U3 rfl rfl (hb17.cell rfl)) ?_))))
  refine wl_cl fn17_GenV (target_any (some ⟨pb, ob, none⟩) c2 nf gb j (((ga[i]'hi).ln[q]'hql)).1 _ (hG2.mono hB) hj (hlb j hj) (hwb j hj)) rfl (fun e' w13 hr => ?_)
  obtain ⟨rfl, hs⟩ := hr
  replace hs := Same.of_bel hs
  replace hB := hB.tr0 hs
  replace hbM := hbM.tr0 hs
  replace hbO := hbO.tr0 hs
  replace hbT := hbT.tr0 hs
  replace hbA := hbA.tr0 hs
  replace hbB := hbB.tr0 hs
  replace hbV := hbV.tr0 hs
  replace hbm := hbm.tr0 hs
  replace hRw := hRw.tr hs (by simp)
  replace hC := hC.st hs (by simp)
  replace hbz := nLT hbz (Same.size hs)
  replace hb11 := hb11.tr0 hs
  replace ho := ho.tr0 hs
  replace hb17 := hb17.tr0 hs
  clear hs
  refine ⟨_, rfl, ?_⟩
  refine waI rfl (x_nil (e_S (c_seq (c_seq (c_region ?_)))))
  refine wmI rfl (wl (r_lss rfl rfl) (x_nil (e_S ?_)))
  refine c_ifd rfl (fun c88 => ?_) (fun c88 => ?_)
  ·
   have hno := pLq_no2 hna hnb hql c88
   refine c_exit (e_Sx (e_Bx (e_S (c_region (wl (r_add rfl rfl rfl om) ?_)))))
   refine wmI rfl (x_nil (e_LS ((ga[i]'hi).ln.length - (q + 1)) om agA ?_))
   first
   | exact ⟨q + 1, o3, s2 ++ s3, _, _, _, _, by omega, rfl, rfl, hv2.2.2, hv2.1, hv2.2.1, hLO4.put _, (if_pos rfl).trans hLr4, hOw, hB, hbM, hbT, hbA, hbB, hbV, hb11, hC, hbz, hbm, hbO, ho, hRw⟩
   | exact ⟨q + 1, a, s2, _, _, _, _, by omega, rfl, rfl, ha, by rw [hno]; exact hD, hs2, hLO, by rw [hno]; exact hLr, hOw, hB, hbM, hbT, hbA, hbB, hbV, hb11, hC, hbz, hbm, hbO, ho, hRw⟩
  obtain ⟨t, htg, htgl⟩ : ∃ t : Nat, tgt (gb[j]'hj).ln (((ga[i]'hi).ln[q]'hql)).1 = (t : Int) ∧ t < gb.length := by
    rcases tgt_mem (xs := (gb[j]'hj).ln) (f := (((ga[i]'hi).ln[q]'hql)).1) with h1 | ⟨y, hy, _, h1⟩
    · omega
    · have h2 := hly y hy
      exact ⟨y.2.toNat, by omega, by omega⟩
  have hsplit := pLn_split2 hna hnb hql hu htg
  have hyes := pLq_yes2 hna hnb hql hu htg
  have hlk : lackN G.length (memB a) < lackN G.length (memB o) := by
    rw [ha, List.append_assoc]; rw [← List.append_assoc]; exact Nat.lt_of_le_of_lt (lack_more _ _ _) (lack_snoc hzl c29)
  have hok2 : OOk G.length a := (hD.ok hrg (fun x hx => hrg z hzl x (by rw [hsc]; obtain ⟨ys, hys⟩ := hsplit; rw [hys]; exact List.mem_append_left _ hx)) (hok.snoc hzl c29)).1
  have hnz : (o ++ [z]).Nodup := List.nodup_append.2 ⟨hnd, by simp, fun x hx y hy => by rw [List.mem_singleton.1 hy]; exact fun e => c29 (e ▸ hx)⟩
  have hnd2 : a.Nodup := hD.nodup hnz
  have h6a : a.length ≤ 60 := by
    have h := (vis_len (o := o ++ [z]) (ok := pok l ga gb) (s2 := s2) (by simp; omega) (by rw [List.length_append, List.length_singleton, hs2])).2
    rw [← ha] at h; exact h
  refine c_skip (e_S (c_seq (c_region (wl (r_ld1 (v := .func _ _ _) Tryd.underlying53 rfl rfl (hbV.cell rfl)) (wl (r_fa U36 sz3_Least dE rfl rfl rfl) ?_)))))
  refine wl (r_ld1 (v := .int _ _) U3 rfl rfl (hb17.cell rfl)) (wl (r_mv (v := .int .i64 ((t : Nat) : Int)) (congrArg (Value.int .i64) htg)) ?_)
  refine wl_clv rfl fn15 (IH u t a N2 cN2 V2 L2 _ hlk hul htgl hB hbz hok2 hnd2 h6a hbM hbT hbA hbB hbV hbm hbO ho hRw) rfl rfl (fun e' w14 hr => ?_)
  obtain ⟨s3, o3, F, kk, ho3, hD3, hF3, rfl, hC3, hok3⟩ := hr
  have hz17 := zg_up (N := N2) (V := V2) (n := a.length) lm lO or_ho_b17 or_hRw_b17 (by omega : base ≤ b17)
  have hl17 := hb17.lt
  replace hB := hB.chG hC3 (fun g hg => by
    rcases hg with hg | hg | hg
    · omega
    · omega
    · have := (own_bd ho hRw hg).1; omega)
  replace hbM := hbM.chG hC3 (zg_lo ho hRw lM nMm nMO)
  replace hbT := hbT.chG hC3 (zg_lo ho hRw lT nTm nTO)
  replace hbA := hbA.chG hC3 (zg_lo ho hRw lA nAm nAO)
  replace hbB := hbB.chG hC3 (zg_lo ho hRw lB nBm nBO)
  replace hbV := hbV.chG hC3 (zg_lo ho hRw lV nVm nVO)
  replace hb11 := hb11.chG hC3 (zg_ty ho hRw hb11 dE dE om om)
  replace hb17 := hb17.chG hC3 hz17
  have hzc : ∀ g, ZG bm bO N2 V2 a.length g → Z g ∨ w.heap.size ≤ g := fun g hg => by
    rcases hg with hg | hg | hg
    · rw [hg]; exact .inl hZm
    · rw [hg]; exact .inl hZO
    · exact hOw g hg
  have hsC := hC.size
  replace hC := hC.trans hC3 hzc
  replace hbz := nLT hbz hC3.size
  obtain ⟨h3, hh3, hok4⟩ : ∃ h3, h3 ≤ w14.heap.size ∧ (F.1 = 0 → VOk w14 h3 base bm bO gb.length G (ZG bm bO N2 V2 a.length) _ L2 a.length o3) := ⟨_, Nat.le_refl _, fun h => (hok3 h).2⟩
  replace hok3 := fun h => (hok3 h).1
  refine ⟨_, rfl, ?_⟩
  refine wmT rfl (wl (r_ex (v := .int _ _) rfl rfl) (wl (r_ex (v := .agg _) rfl rfl) ?_))
  refine wl_al (cs := #[.int .i64 0, .int .i64 0]) ze30_GenV rfl (fun b20 w15 hb20 hs hr => ?_)
  have or_bM_b20 : bM < b20 := nLL hbM.lt hr
  have or_bT_b20 : bT < b20 := nLL hbT.lt hr
  have or_bA_b20 : bA < b20 := nLL hbA.lt hr
  have or_bB_b20 : bB < b20 := nLL hbB.lt hr
  have or_bV_b20 : bV < b20 := nLL hbV.lt hr
  have or_hC_b20 := (nLT hC.size hr)
  have or_hbz_b20 := (nLT hbz hr)
  have or_b11_b20 : b11 < b20 := nLL hb11.lt hr
  have or_b17_b20 : b17 < b20 := nLL hb17.lt hr
  have or_hh3_b20 := (nLT hh3 hr)
  have lo20 := nLT (Bel.size hB) hr
  replace hB := hB.tr0 hs
  replace hbM := hbM.tr0 hs
  replace hbT := hbT.tr0 hs
  replace hbA := hbA.tr0 hs
  replace hbB := hbB.tr0 hs
  replace hbV := hbV.tr0 hs
  replace hC := hC.st hs (by simp)
  replace hbz := nLT hbz (Same.size hs)
  replace hb11 := hb11.tr0 hs
  replace hb17 := hb17.tr0 hs
  replace hok4 := fun h => (hok4 h).tr hs (by simp)
  replace hh3 := nLT hh3 (Same.size hs)
  clear hs
  clear hr
  refine waI rfl ?_
  refine wl_stW hb20 rfl rfl sz30_GenV rfl oneA (fun w16 hq hs => ?_)
  replace hB := hB.tr1 hs lo20
  replace hbM := hbM.tr1 hs om
  replace hbT := hbT.tr1 hs om
  replace hbA := hbA.tr1 hs om
  replace hbB := hbB.tr1 hs om
  replace hbV := hbV.tr1 hs om
  replace hC := hC.st hs (fun g hg => by rw [List.mem_singleton.1 hg]; first | exact .inl hZm | exact .inl hZO | exact .inr om | exact hOw _ (.inl (List.mem_singleton.2 rfl)))
  replace hbz := nLT hbz (Same.size hs)
  replace hb11 := hb11.tr1 hs om
  replace hb17 := hb17.tr1 hs om
  replace hok4 := fun h => (hok4 h).tr hs (fun g hg => by rw [List.mem_singleton.1 hg]; omega)
  replace hh3 := nLT hh3 (Same.size hs)
  clear hs
  replace hb20 := hq
  refine x_nil (e_S (c_seq (c_seq (c_region (wl (r_fa U30 sz3_Least dE rfl rfl rfl) ?_)))))
  refine wl (r_ld1 (v := .int _ _) U3 rfl rfl (hb20.cell rfl)) (wl (r_neq rfl rfl) (x_nil (e_S ?_)))
  refine c_ifd rfl (fun c99 => ?_) (fun c99 => ?_)
  ·
   obtain ⟨ys, hys⟩ := hsplit
   have hbad : ∃ s, DL G [z] o (o ++ s) ∧ genS (pok l ga gb) o.length s = F := by
     subst ha
     subst ho3
     exact vis_sub hrg hok hzl c29 h6n hpy (by rw [hsc, hys]) hD hs2 hD3 hF3 c99
   refine c_seq ?_
   refine c_monoKO 3 [100, 10] [b11] (fun ix v wv => match ix with | 0 => v = .agg #[.int .i64 F.1, .int .i64 F.2] | 1 => v = .int .i64 0 | 2 => Blk wv b11 30 #[.int .i64 F.1, .int .i64 F.2] | _ => True) (fun wq => ∃ z y, Blk wq b11 30 #[z, y]) kR kR ?_ ?_ ⟨_, _, hb11⟩ ?_ ?_
   ·
    intro ix v wv wv2 h hs
    match ix, h with
    | 0, h => exact h
    | 1, h => exact h
    | 2, h => exact (show Blk wv b11 30 #[.int .i64 F.1, .int .i64 F.2] from h).tr0 hs
    | _ + 3, h => exact trivial
   ·
    intro wv wv2 h hs
    obtain ⟨z2, z3, hb11⟩ := h
    replace hb11 := hb11.tr0 hs
    exact ⟨_, _, hb11⟩
   ·
    intro ix o hix hoq gg wx hs hJ hd
    match ix, hix, hoq with
    | 0, _, hoq =>
     obtain rfl := sI hoq
     replace hb20 := hb20.tr hs (fun hx => by simp only [List.mem_cons, List.not_mem_nil, or_false] at hx; omega)
     show OS _ _ _ _ _ _
     refine os_rv (r_ldS U30 rfl rfl hb20.range0 sz30_GenV) ⟨Same.refl _ _, ?_, frsh_no⟩
     exact rfl
    | 1, _, hoq =>
     obtain rfl := sI hoq
     show OS _ _ _ _ _ _
     refine os_rv (r_as (v := .int _ _) rfl) ⟨Same.refl _ _, ?_, frsh_no⟩
     exact rfl
    | 2, _, hoq =>
     obtain rfl := sI hoq
     show OS _ _ _ _ _ _
     have d0 : gg 100 = .agg #[.int .i64 F.1, .int .i64 F.2] := hd 0 _ (dep_of kR) rfl
     have e100 := d0
     refine os_know 100 (.agg #[.int .i64 F.1, .int .i64 F.2]) e100 nu ?_
     obtain ⟨z2, z3, hb11⟩ := hJ
     refine os_wl0 (fun ops Q K => ?_)
     refine wl_stW hb11 rfl rfl sz30_GenV rfl oneA (fun w2 hq hs2 => ?_)
     have K2 := K w2
     refine K2 ⟨hs2.weak (by simp), ?_, hq, fun kx v hne h => ?_⟩
     ·
      replace hb11 := hq
      exact ⟨_, _, hb11⟩
     match kx, hne, h with
     | 0, _, h => exact h
     | 1, _, h => exact h
     | 2, hne, _ => exact absurd rfl hne
     | _ + 3, _, _ => exact trivial
    | _ + 3, hix, _ => exact absurd hix om
   intro gg w17 hs hJ hR
   replace hB := hB.tr hs (fun q hx => by simp only [List.mem_cons, List.not_mem_nil, or_false] at hx; omega)
   replace hbM := hbM.tr hs (fun hx => by simp only [List.mem_cons, List.not_mem_nil, or_false] at hx; omega)
   replace hbT := hbT.tr hs (fun hx => by simp only [List.mem_cons, List.not_mem_nil, or_false] at hx; omega)
   replace hbA := hbA.tr hs (fun hx => by simp only [List.mem_cons, List.not_mem_nil, or_false] at hx; omega)
   replace hbB := hbB.tr hs (fun hx => by simp only [List.mem_cons, List.not_mem_nil, or_false] at hx; omega)
   replace hbV := hbV.tr hs (fun hx => by simp only [List.mem_cons, List.not_mem_nil, or_false] at hx; omega)
   replace hb17 := hb17.tr hs (fun hx => by simp only [List.mem_cons, List.not_mem_nil, or_false] at hx; omega)
   replace hb20 := hb20.tr hs (fun hx => by simp only [List.mem_cons, List.not_mem_nil, or_false] at hx; omega)
   have hq2 : Blk w17 b11 30 #[.int .i64 F.1, .int .i64 F.2] := hR 2 _ rfl
   replace hb11 := hq2
   have d1 : gg 10 = .int .i64 0 := hR 1 _ rfl
   have e10 := d1
   refine wl_know 10 (.int .i64 0) e10 nu (x_nil (e_S (c_ret (e_Sr (e_Br ?_)))))
   refine e_Sr (e_LSr (e_Br (e_Sr (fin2 (.inl rfl) rfl rfl (rr_cell U30 rfl rfl hb11.range0 sz30_GenV) ?_))))
   exact visr_bad hbad (by have hC := hC.st hs (fun g hg => by rw [List.mem_singleton.1 hg]; exact .inr or_hC_b11); rw [hZ] at hC; exact hC) c99 rfl rfl
  have hF0 : F.1 = 0 := Decidable.not_not.1 c99
  have hFz : F = (0, 0) := hF3.symm.trans (vis_len h6a (by rw [hF3]; exact hF0)).1
  obtain ⟨N3, cN3, V3, L3, hLO3, hOw3, hbm, hbO, ho, hRw, _, _, _⟩ := hok4 hF0
  have hkk := hok3 hF0
  have hv2 : DL G (sq (pLq ga gb i j (q + 1))) (o ++ [z]) o3 ∧ genS (pok l ga gb) (o.length + 1) (s2 ++ s3) = (0, 0) ∧ o3 = o ++ [z] ++ (s2 ++ s3) := by
    subst ha
    subst ho3
    obtain ⟨h1, h2⟩ := vis_two hD hs2 hD3 (hF3.trans hFz)
    rw [hyes, sq_snoc]
    exact ⟨by rw [List.append_assoc (o ++ [z])]; exact h1, h2, by simp⟩
  obtain ⟨hLO4, hL4⟩ := LOk.sub hLO hD hnz ⟨s2, ha⟩ (by rw [← ho3]; exact hLO3)
  rw [← ho3] at hLO4
  have hLr3 : L3 o.length = (pLq ga gb i j q).map (canL o3) := by rw [hL4, hLr, ho3]; exact (map_canL_app (sq_in hD)).symm
  have hLr4 : L3 o.length ++ [(((ga[i]'hi).ln[q]'hql).1, kk)] = (pLq ga gb i j (q + 1)).map (canL o3) := by
    rw [hyes, List.map_append, hLr3, List.map_cons, List.map_nil, hkk]; rfl
  have hkl : o.length < o3.length := by rw [hv2.2.2]; simp
  have hwi := hwa i hi
  have hLl : (L3 o.length).length ≤ 1000 := by
    rw [hLr3, List.length_map]; exact nLT (pLq_len _ _ _ _ _) om
  have hn17 : ∀ k, OwnG N3 V3 o3.length k → k ≠ b17 := fun k hk e => by
    subst e
    rcases hOw3 _ hk with h | h
    · exact hz17 h
    · omega
  replace hOw : ∀ k, OwnG N3 V3 o3.length k → Z k ∨ w.heap.size ≤ k := fun k hk => (hOw3 k hk).elim (fun h => hzc k h) (fun h => .inr (nLT hsC h))
  obtain ⟨gN, curN, rfl, hgN, hbN, hcs, hcv, hcb⟩ := ho.open_ om
  obtain ⟨Ak, ck, hVk, hoR⟩ := hRw.1 o.length hkl
  have hcell : curN[0 + o.length * 2 + 1]? = some (.slice Ak (L3 o.length).length ck) := by rw [hcv _ om, Nat.zero_add, (ndV_get (tyG G o3) V3 hkl).2, hVk]
  have or_hoR_b17 : ∀ g ∈ aL Ak, g ≠ b17 := fun g hg => hn17 g (.inr ⟨_, _, _, _, hkl, hVk, hg⟩)
  have or_hoR_b11 := ownb_ne hoR hb11 dE
  have or_hoR_b20 := ownb_ne hoR hb20 dE
  have or_hoR_gN := ownb_ne hoR hbN dE
  have nN11 : b11 ≠ gN := fun e => absurd (blk_type (e ▸ hb11) hbN) dE
  have nN17 : b17 ≠ gN := fun e => absurd (blk_type (e ▸ hb17) hbN) dE
  have nN20 : b20 ≠ gN := fun e => absurd (blk_type (e ▸ hb20) hbN) dE
  have hsv2 := hC.size
  have zo := fun g hg => (hoR.lt g hg).2
  refine c_skip (e_S ?_)
  have hsz := Bel.size hB
  refine c_monoSO 17 [101, 102, 103, 104, 105, 106, 107, 108, 109, 110, 111, 112, 113, 114, 115, 116, 117] (aL Ak) 14 (fun ix v wv => match ix with | 0 => v = .pointer (some ⟨bO, 0, none⟩) | 1 => v = .slice (some ⟨gN, 0, none⟩) o3.length cN3 | 2 => v = .int .i64 ((o.length : Nat) : Int) | 3 => v = .pointer (some ⟨bO, 0, none⟩) | 4 => v = .slice (some ⟨gN, 0, none⟩) o3.length cN3 | 5 => v = .int .i64 ((o.length : Nat) : Int) | 6 => v = .pointer (some ⟨gN, 0 + o.length * 2, none⟩) | 7 => v = .pointer (some ⟨gN, 0 + o.length * 2 + 1, none⟩) | 8 => v = .slice Ak (L3 o.length).length ck | 9 => v = .pointer (some ⟨b17, 0, none⟩) | 10 => v = .int .i64 ((ga[i]'hi).ln[q]'hql).1 | 11 => v = .int .i64 kk | 12 => v = .agg #[.int .i64 ((ga[i]'hi).ln[q]'hql).1, .int .i64 kk] | 13 => ∃ b, v = .slice (some ⟨b, 0, none⟩) 1 1 ∧ w16.heap.size ≤ b ∧ Blk wv b 36 #[.int .i64 ((ga[i]'hi).ln[q]'hql).1, .int .i64 kk] | 14 => ∃ g cap, v = .slice (some ⟨g, 0, none⟩) ((L3 o.length).length + 1) cap ∧ Own wv base 36 2 (some ⟨g, 0, none⟩) ((L3 o.length).length + 1) cap (lnV (L3 o.length) ++ [.int .i64 ((ga[i]'hi).ln[q]'hql).1, .int .i64 kk]) ∧ (aL Ak = [g] ∨ w16.heap.size ≤ g) | 15 => v = .pointer (some ⟨gN, 0 + o.length * 2, none⟩) | 16 => v = .pointer (some ⟨gN, 0 + o.length * 2 + 1, none⟩) | _ => True) (fun _ => True) kR kR ?_ (fun _ _ _ _ => trivial) ?_ ?_ dE ?_
  ·
   intro ix v wv wv2 h hs
   match ix, h with
   | 0, h => exact h
   | 1, h => exact h
   | 2, h => exact h
   | 3, h => exact h
   | 4, h => exact h
   | 5, h => exact h
   | 6, h => exact h
   | 7, h => exact h
   | 8, h => exact h
   | 9, h => exact h
   | 10, h => exact h
   | 11, h => exact h
   | 12, h => exact h
   | 13, h =>
    obtain ⟨b114, e114, lo114, hb114⟩ := (show ∃ b, v = .slice (some ⟨b, 0, none⟩) 1 1 ∧ w16.heap.size ≤ b ∧ Blk wv b 36 #[.int .i64 ((ga[i]'hi).ln[q]'hql).1, .int .i64 kk] from h)
    exact ⟨b114, e114, lo114, hb114.tr0 hs⟩
   | 14, h =>
    obtain ⟨g115, cap115, e115, ho115, hg115⟩ := (show ∃ g cap, v = .slice (some ⟨g, 0, none⟩) ((L3 o.length).length + 1) cap ∧ Own wv base 36 2 (some ⟨g, 0, none⟩) ((L3 o.length).length + 1) cap (lnV (L3 o.length) ++ [.int .i64 ((ga[i]'hi).ln[q]'hql).1, .int .i64 kk]) ∧ (aL Ak = [g] ∨ w16.heap.size ≤ g) from h)
    exact ⟨g115, cap115, e115, ho115.tr0 hs, hg115⟩
   | 15, h => exact h
   | 16, h => exact h
   | _ + 17, h => exact trivial
  ·
   intro ix o hix hne hoq gg wx hs hd
   match ix, hix, hne, hoq with
   | 0, _, _, hoq =>
    obtain rfl := sI hoq
    have hs0 := hs
    replace hbO := hbO.tr hs (fun hx => by have := (hoR.lt _ hx).1; (try have := or_hoR_bO _ hx); omega)
    refine os_rv (r_fa U28 sz26_GTgt dE rfl rfl rfl) ⟨Same.refl _ _, ?_⟩
    exact rfl
   | 1, _, _, hoq =>
    obtain rfl := sI hoq
    have hs0 := hs
    replace hbO := hbO.tr hs (fun hx => by have := (hoR.lt _ hx).1; (try have := or_hoR_bO _ hx); omega)
    have d0 : gg 101 = .pointer (some ⟨bO, 0, none⟩) := hd 0 (dep_of kR)
    have e101 := d0
    refine os_know 101 (.pointer (some ⟨bO, 0, none⟩)) e101 nu ?_
    refine os_rv (r_ld1 (v := .slice _ _ _) U26 rfl rfl (hbO.cell rfl)) ⟨Same.refl _ _, ?_⟩
    exact rfl
   | 2, _, _, hoq =>
    obtain rfl := sI hoq
    have hs0 := hs
    refine os_rv (r_mv (v := .int _ _) rfl) ⟨Same.refl _ _, ?_⟩
    exact rfl
   | 3, _, _, hoq =>
    obtain rfl := sI hoq
    have hs0 := hs
    replace hbO := hbO.tr hs (fun hx => by have := (hoR.lt _ hx).1; (try have := or_hoR_bO _ hx); omega)
    refine os_rv (r_fa U28 sz26_GTgt dE rfl rfl rfl) ⟨Same.refl _ _, ?_⟩
    exact rfl
   | 4, _, _, hoq =>
    obtain rfl := sI hoq
    have hs0 := hs
    replace hbO := hbO.tr hs (fun hx => by have := (hoR.lt _ hx).1; (try have := or_hoR_bO _ hx); omega)
    have d3 : gg 104 = .pointer (some ⟨bO, 0, none⟩) := hd 3 (dep_of kR)
    have e104 := d3
    refine os_know 104 (.pointer (some ⟨bO, 0, none⟩)) e104 nu ?_
    refine os_rv (r_ld1 (v := .slice _ _ _) U26 rfl rfl (hbO.cell rfl)) ⟨Same.refl _ _, ?_⟩
    exact rfl
   | 5, _, _, hoq =>
    obtain rfl := sI hoq
    have hs0 := hs
    refine os_rv (r_mv (v := .int _ _) rfl) ⟨Same.refl _ _, ?_⟩
    exact rfl
   | 6, _, _, hoq =>
    obtain rfl := sI hoq
    have hs0 := hs
    have d4 : gg 105 = .slice (some ⟨gN, 0, none⟩) o3.length cN3 := hd 4 (dep_of kR)
    have e105 := d4
    have d5 : gg 106 = .int .i64 ((o.length : Nat) : Int) := hd 5 (dep_of kR)
    have e106 := d5
    refine os_know 105 (.slice (some ⟨gN, 0, none⟩) o3.length cN3) e105 nu (os_know 106 (.int .i64 ((o.length : Nat) : Int)) e106 nu ?_)
    refine os_rv (r_ia (i := o.length) U26 sz39_GTgt rfl rfl om rfl) ⟨Same.refl _ _, ?_⟩
    exact rfl
   | 7, _, _, hoq =>
    obtain rfl := sI hoq
    have hs0 := hs
    have d6 : gg 107 = .pointer (some ⟨gN, 0 + o.length * 2, none⟩) := hd 6 (dep_of kR)
    have e107 := d6
    refine os_know 107 (.pointer (some ⟨gN, 0 + o.length * 2, none⟩)) e107 nu ?_
    refine os_rv (r_fa U39 sz37_GTgt dE rfl rfl rfl) ⟨Same.refl _ _, ?_⟩
    exact rfl
   | 8, _, _, hoq =>
    obtain rfl := sI hoq
    have hs0 := hs
    replace hbN := hbN.tr hs (fun hx => by have := (hoR.lt _ hx).1; (try have := or_hoR_gN _ hx); omega)
    have d7 : gg 108 = .pointer (some ⟨gN, 0 + o.length * 2 + 1, none⟩) := hd 7 (dep_of kR)
    have e108 := d7
    refine os_know 108 (.pointer (some ⟨gN, 0 + o.length * 2 + 1, none⟩)) e108 nu ?_
    refine os_rv (r_ld1 (v := .slice _ _ _) U37 rfl rfl (hbN.cell hcell)) ⟨Same.refl _ _, ?_⟩
    exact rfl
   | 9, _, _, hoq =>
    obtain rfl := sI hoq
    have hs0 := hs
    replace hb17 := hb17.tr hs (fun hx => by have := (hoR.lt _ hx).1; (try have := or_hoR_b17 _ hx); omega)
    refine os_rv (r_fa U36 sz3_Least dE rfl rfl rfl) ⟨Same.refl _ _, ?_⟩
    exact rfl
   | 10, _, _, hoq =>
    obtain rfl := sI hoq
    have hs0 := hs
    replace hb17 := hb17.tr hs (fun hx => by have := (hoR.lt _ hx).1; (try have := or_hoR_b17 _ hx); omega)
    have d9 : gg 110 = .pointer (some ⟨b17, 0, none⟩) := hd 9 (dep_of kR)
    have e110 := d9
    refine os_know 110 (.pointer (some ⟨b17, 0, none⟩)) e110 nu ?_
    refine os_rv (r_ld1 (v := .int _ _) U3 rfl rfl (hb17.cell rfl)) ⟨Same.refl _ _, ?_⟩
    exact rfl
   | 11, _, _, hoq =>
    obtain rfl := sI hoq
    have hs0 := hs
    refine os_rv (r_mv (v := .int _ _) rfl) ⟨Same.refl _ _, ?_⟩
    exact rfl
   | 12, _, _, hoq =>
    obtain rfl := sI hoq
    have hs0 := hs
    have d10 : gg 111 = .int .i64 ((ga[i]'hi).ln[q]'hql).1 := hd 10 (dep_of kR)
    have e111 := d10
    have d11 : gg 112 = .int .i64 kk := hd 11 (dep_of kR)
    have e112 := d11
    refine os_know 111 (.int .i64 ((ga[i]'hi).ln[q]'hql).1) e111 nu (os_know 112 (.int .i64 kk) e112 nu ?_)
    refine os_rv (r_bd2 (v0 := .int _ _) (v1 := .int _ _) (fun v0 v1 => #[v0, v1]) rfl rfl kR) ⟨Same.refl _ _, ?_⟩
    exact rfl
   | 13, _, _, hoq =>
    obtain rfl := sI hoq
    have hs0 := hs
    have d12 : gg 113 = .agg #[.int .i64 ((ga[i]'hi).ln[q]'hql).1, .int .i64 kk] := hd 12 (dep_of kR)
    have e113 := d12
    refine os_know 113 (.agg #[.int .i64 ((ga[i]'hi).ln[q]'hql).1, .int .i64 kk]) e113 nu ?_
    refine os_wl (fun ops Q K => ?_)
    refine wl_bs (cs := #[_, _]) [(0, .agg _)] rfl U37 sz36_GSearch ze36_GenV dE dE kR rfl (fun b114 w18 hb114 hs hr => ?_)
    exact K _ _ ⟨hs, ⟨_, rfl, nLT hs0.size hr, hb114⟩⟩
   | 14, _, hne, _ => exact absurd rfl hne
   | 15, _, _, hoq =>
    obtain rfl := sI hoq
    have hs0 := hs
    have d1 : gg 102 = .slice (some ⟨gN, 0, none⟩) o3.length cN3 := hd 1 (dep_of kR)
    have e102 := d1
    have d2 : gg 103 = .int .i64 ((o.length : Nat) : Int) := hd 2 (dep_of kR)
    have e103 := d2
    refine os_know 102 (.slice (some ⟨gN, 0, none⟩) o3.length cN3) e102 nu (os_know 103 (.int .i64 ((o.length : Nat) : Int)) e103 nu ?_)
    refine os_rv (r_ia (i := o.length) U26 sz39_GTgt rfl rfl om rfl) ⟨Same.refl _ _, ?_⟩
    exact rfl
   | 16, _, _, hoq =>
    obtain rfl := sI hoq
    have hs0 := hs
    have d15 : gg 116 = .pointer (some ⟨gN, 0 + o.length * 2, none⟩) := hd 15 (dep_of kR)
    have e116 := d15
    refine os_know 116 (.pointer (some ⟨gN, 0 + o.length * 2, none⟩)) e116 nu ?_
    refine os_rv (r_fa U39 sz37_GTgt dE rfl rfl rfl) ⟨Same.refl _ _, ?_⟩
    exact rfl
   | _ + 17, hix, _, _ => exact absurd hix om
  ·
   intro o hoq gg wx hs hd
   obtain rfl := sI hoq
   have hs0 := hs
   replace hB := hB.tr0 hs
   replace hbM := hbM.tr0 hs
   replace hbT := hbT.tr0 hs
   replace hbA := hbA.tr0 hs
   replace hbB := hbB.tr0 hs
   replace hbV := hbV.tr0 hs
   replace hC := hC.st hs (by simp)
   replace hbz := nLT hbz (Same.size hs)
   replace hb11 := hb11.tr0 hs
   replace hb17 := hb17.tr0 hs
   replace hb20 := hb20.tr0 hs
   replace hbm := hbm.tr0 hs
   replace hbO := hbO.tr0 hs
   replace hbN := hbN.tr0 hs
   replace hoR := hoR.tr0 hs
   clear hs
   have d8 : gg 109 = .slice Ak (L3 o.length).length ck := hd 8 (dep_of kR)
   have e109 := d8
   have d13 : ∃ b, gg 114 = .slice (some ⟨b, 0, none⟩) 1 1 ∧ w16.heap.size ≤ b ∧ Blk wx b 36 #[.int .i64 ((ga[i]'hi).ln[q]'hql).1, .int .i64 kk] := hd 13 (dep_of kR)
   obtain ⟨b114, e114, lo114, hb114⟩ := d13
   refine os_know 109 (.slice Ak (L3 o.length).length ck) e109 nu (os_know 114 (.slice (some ⟨b114, 0, none⟩) 1 1) e114 nu ?_)
   refine os_wl (fun ops Q K => ?_)
   refine wl_app U37 in36_GenV rfl dE hoR hb114 rfl rfl rfl oneA dE om om hbz (fun g115 cap115 w2 ho115 hs2 hg115 => ?_)
   refine K _ _ ⟨hs2, ⟨_, _, rfl, ho115, hg115.imp id (fun h => nLT hs0.size h)⟩, trivial, fun kx v hne h => ?_⟩
   match kx, hne, h with
   | 0, _, h => exact h
   | 1, _, h => exact h
   | 2, _, h => exact h
   | 3, _, h => exact h
   | 4, _, h => exact h
   | 5, _, h => exact h
   | 6, _, h => exact h
   | 7, _, h => exact h
   | 8, _, h => exact h
   | 9, _, h => exact h
   | 10, _, h => exact h
   | 11, _, h => exact h
   | 12, _, h => exact h
   | 13, _, h =>
    obtain ⟨b114, e114, lo114, hb114⟩ := (show ∃ b, v = .slice (some ⟨b, 0, none⟩) 1 1 ∧ w16.heap.size ≤ b ∧ Blk wx b 36 #[.int .i64 ((ga[i]'hi).ln[q]'hql).1, .int .i64 kk] from h)
    exact ⟨b114, e114, lo114, hb114.tr hs2 (fun hx => by have := zo _ hx; omega)⟩
   | 14, hne, _ => exact absurd rfl hne
   | 15, _, h => exact h
   | 16, _, h => exact h
   | _ + 17, _, _ => exact trivial
  intro gg w19 hs _ hR
  have hs0 := hs
  replace hB := hB.tr hs (fun g hg => nLT hlo (hoR.lt g hg).1)
  replace hbM := hbM.tr hs (fun hx => by have := (hoR.lt _ hx).1; (try have := or_hoR_bM _ hx); omega)
  replace hbT := hbT.tr hs (fun hx => by have := (hoR.lt _ hx).1; (try have := or_hoR_bT _ hx); omega)
  replace hbA := hbA.tr hs (fun hx => by have := (hoR.lt _ hx).1; (try have := or_hoR_bA _ hx); omega)
  replace hbB := hbB.tr hs (fun hx => by have := (hoR.lt _ hx).1; (try have := or_hoR_bB _ hx); omega)
  replace hbV := hbV.tr hs (fun hx => by have := (hoR.lt _ hx).1; (try have := or_hoR_bV _ hx); omega)
  replace hC := hC.st hs (fun g hg => by first | exact hOw g (.inl hg) | exact hOw g (.inr ⟨_, _, _, _, hkl, hVk, hg⟩))
  replace hbz := nLT hbz (Same.size hs)
  replace hb11 := hb11.tr hs (fun hx => by have := (hoR.lt _ hx).1; (try have := or_hoR_b11 _ hx); omega)
  replace hb17 := hb17.tr hs (fun hx => by have := (hoR.lt _ hx).1; (try have := or_hoR_b17 _ hx); omega)
  replace hb20 := hb20.tr hs (fun hx => by have := (hoR.lt _ hx).1; (try have := or_hoR_b20 _ hx); omega)
  replace hbm := hbm.tr hs (fun hx => by have := (hoR.lt _ hx).1; (try have := or_hoR_bm _ hx); omega)
  replace hbO := hbO.tr hs (fun hx => by have := (hoR.lt _ hx).1; (try have := or_hoR_bO _ hx); omega)
  replace hbN := hbN.tr hs (fun hx => by have := (hoR.lt _ hx).1; (try have := or_hoR_gN _ hx); omega)
  have d14 : ∃ g cap, gg 115 = .slice (some ⟨g, 0, none⟩) ((L3 o.length).length + 1) cap ∧ Own w19 base 36 2 (some ⟨g, 0, none⟩) ((L3 o.length).length + 1) cap (lnV (L3 o.length) ++ [.int .i64 ((ga[i]'hi).ln[q]'hql).1, .int .i64 kk]) ∧ (aL Ak = [g] ∨ w16.heap.size ≤ g) := hR 14 dE
  obtain ⟨g115, cap115, e115, ho115, hg115⟩ := d14
  have d15 : gg 116 = .pointer (some ⟨gN, 0 + o.length * 2, none⟩) := hR 15 dE
  have e116 := d15
  have d16 : gg 117 = .pointer (some ⟨gN, 0 + o.length * 2 + 1, none⟩) := hR 16 dE
  have e117 := d16
  have hRw := hRw.app (y := (((ga[i]'hi).ln[q]'hql).1, kk)) hkl hVk hs0 ho115 hg115
  have hOw := own_put (P := fun k => Z k ∨ w.heap.size ≤ k) (m' := (L3 o.length).length + 1) (c' := cap115) hOw hkl hVk (hg115.imp id (fun h => .inr (nLT hsv2 h)))
  refine wl_know 115 (.slice (some ⟨g115, 0, none⟩) ((L3 o.length).length + 1) cap115) e115 nu (wl_know 116 (.pointer (some ⟨gN, 0 + o.length * 2, none⟩)) e116 nu (wl_know 117 (.pointer (some ⟨gN, 0 + o.length * 2 + 1, none⟩)) e117 nu ?_))
  refine wl_st1 (v := .slice _ _ _) hbN rfl rfl sz37_GTgt (by show 0 + o.length * 2 + 1 < curN.size; omega) rfl rfl (fun w20 hq hs => ?_)
  replace hB := hB.tr1 hs (nLT hlo hgN)
  replace hbM := hbM.tr1 hs om
  replace hbT := hbT.tr1 hs om
  replace hbA := hbA.tr1 hs om
  replace hbB := hbB.tr1 hs om
  replace hbV := hbV.tr1 hs om
  replace hC := hC.st hs (fun g hg => by rw [List.mem_singleton.1 hg]; first | exact .inl hZm | exact .inl hZO | exact .inr om | exact hOw _ (.inl (List.mem_singleton.2 rfl)))
  replace hbz := nLT hbz (Same.size hs)
  replace hb11 := hb11.tr1 hs om
  replace hb17 := hb17.tr1 hs om
  replace hb20 := hb20.tr1 hs om
  replace hbm := hbm.tr1 hs om
  replace hbO := hbO.tr1 hs om
  replace hRw := hRw.tr hs (fun g hg => by rw [List.mem_singleton.1 hg]; first | exact .inl om | exact .inr (.inl ⟨_, _, hbN, by decide⟩) | exact .inr (.inr or_hRw_gN))
  clear hs
  replace hbN := hq
  have ho := hcb w20 _ _ hbN
  rw [ndG_put] at ho
  refine x_nil (e_B (e_S (c_region (wl (r_add rfl rfl rfl om) (wmI rfl ?_)))))
  refine x_nil (e_LS ((ga[i]'hi).ln.length - (q + 1)) om agA ?_)
  first
  | exact ⟨q + 1, o3, s2 ++ s3, _, _, _, _, by omega, rfl, rfl, hv2.2.2, hv2.1, hv2.2.1, hLO4.put _, (if_pos rfl).trans hLr4, hOw, hB, hbM, hbT, hbA, hbB, hbV, hb11, hC, hbz, hbm, hbO, ho, hRw⟩
  | exact ⟨q + 1, a, s2, _, _, _, _, by omega, rfl, rfl, ha, by rw [hno]; exact hD, hs2, hLO, by rw [hno]; exact hLr, hOw, hB, hbM, hbT, hbA, hbB, hbV, hb11, hC, hbz, hbm, hbO, ho, hRw⟩
 have hqe : q = (ga[i]'hi).ln.length := by omega
 have hpa_ : pLq ga gb i j q = pLn ga gb i j := pLq_all (by rw [hna]; omega)
 rw [hpa_] at hD hLr
 rw [← hsc] at hD
 rw [← hln] at hLr
 have or_ho_b11 := ownb_ne ho hb11 dE
 refine c_exit (e_Sx (e_LSx (e_Bx (e_S (c_seq ?_)))))
 refine c_region (wmI rfl (wl (r_bd (vs := #[]) (cs := #[.int .i64 0, .int .i64 0]) (by simp) kR) (waI rfl ?_)))
 refine wl_stW hb11 rfl rfl sz30_GenV rfl oneA (fun w21 hq hs => ?_)
 replace hB := hB.tr1 hs lo11
 replace hbM := hbM.tr1 hs om
 replace hbO := hbO.tr1 hs om
 replace hbT := hbT.tr1 hs om
 replace hbA := hbA.tr1 hs om
 replace hbB := hbB.tr1 hs om
 replace hbV := hbV.tr1 hs om
 replace hbm := hbm.tr1 hs om
 replace hRw := hRw.tr hs (fun g hg => by rw [List.mem_singleton.1 hg]; first | exact .inl om | exact .inr (.inl ⟨_, _, hb11, by decide⟩) | exact .inr (.inr or_hRw_b11))
 replace hC := hC.st hs (fun g hg => by rw [List.mem_singleton.1 hg]; first | exact .inl hZm | exact .inl hZO | exact .inr om | exact hOw _ (.inl (List.mem_singleton.2 rfl)))
 replace hbz := nLT hbz (Same.size hs)
 replace ho := ho.tr1 hs (fun g hg => by have := (ho.lt g hg).1; (try have := or_ho_b11 g hg); (try simp only [aL] at hg); (try simp only [List.mem_singleton] at hg); omega)
 clear hs
 replace hb11 := hq
 refine x_nil (e_S (c_ret (fin2 (.inl rfl) rfl rfl (rr_cell U30 rfl rfl hb11.range0 sz30_GenV) ?_)))
 exact visr_ok c29 h6n hpy ha hD hs2 (by rw [hZ] at hC; exact hC) hLO hLr (by rw [hZ] at hOw; exact hOw) hbm hbO ho hRw rfl
theorem gvis_any {w0 : World} {A1 A2 : Option Addr} {c1 c2 nf bu bd bM bO bT bA bB bV bm base : Nat} {l : List Ty} {ga gb G : List Nd} (hTab : TabIn w0) (hTI : TableIn w0 l bu bd) (hvt : VT l) (h60l : l.length ≤ 60) (ht0 : (typesFault l).1 = 0) (hG1 : NodesIn w0 A1 ga) (hG2 : NodesIn w0 A2 gb) (hxa : GX l ga) (hxb : GX l gb) (hlb : ∀ j (hj : j < gb.length), lnFault nf gb.length (-1) (gb[j]'hj).ln = 0) (hwb : ∀ j (hj : j < gb.length), (gb[j]'hj).ln.length ≤ 1000) (hwa : ∀ i (hi : i < ga.length), (ga[i]'hi).ln.length ≤ 1000) (hGe : G = pG l ga gb) (hlo : w0.heap.size ≤ base) (lM : bM < base) (l0O : w0.heap.size ≤ bO) (lO : bO < base) (l0T : w0.heap.size ≤ bT) (lT : bT < base) (lA : bA < base) (lB : bB < base) (lV : bV < base) (l0m : w0.heap.size ≤ bm) (lm : bm < base) (nMm : bM ≠ bm) (nMO : bM ≠ bO) (nTm : bT ≠ bm) (nTO : bT ≠ bO) (nAm : bA ≠ bm) (nAO : bA ≠ bO) (nBm : bB ≠ bm) (nBO : bB ≠ bO) (nVm : bV ≠ bm) (nVO : bV ≠ bO) (nOm : bO ≠ bm) : ∀ (m i j : Nat) (o : List Nat) (N : Option Addr) (cN : Nat) (V : Nat → Value) (L : Nat → List (Int × Int)) (w : World), lackN G.length (memB o) ≤ m → i < ga.length → j < gb.length → Bel w0 w → base ≤ w.heap.size → OOk G.length o → o.Nodup → o.length ≤ 60 → Blk w bM 52 #[.map (some bm)] → Blk w bT 49 #[.slice (some ⟨bu, 0, none⟩) l.length l.length, .slice (some ⟨bd, 0, none⟩) l.length l.length] → Blk w bA 28 #[.slice A1 ga.length c1] → Blk w bB 28 #[.slice A2 gb.length c2] → Blk w bV 53 #[.func (.func 15) #[] #[.pointer (some ⟨bM, 0, none⟩), .pointer (some ⟨bO, 0, none⟩), .pointer (some ⟨bT, 0, none⟩), .pointer (some ⟨bA, 0, none⟩), .pointer (some ⟨bB, 0, none⟩), .pointer (some ⟨bV, 0, none⟩)]] → MapN w bm gb.length o → Blk w bO 28 #[.slice N (o).length cN] → Own w base 39 2 N (o).length cN (ndV (tyG G o) V (o).length) → RowsG w base (o).length V L → Calls Tryd.prog 15 #[.int .i64 ((i : Nat) : Int), .int .i64 ((j : Nat) : Int), .pointer (some ⟨bM, 0, none⟩), .pointer (some ⟨bO, 0, none⟩), .pointer (some ⟨bT, 0, none⟩), .pointer (some ⟨bA, 0, none⟩), .pointer (some ⟨bB, 0, none⟩), .pointer (some ⟨bV, 0, none⟩)] w (VisR base bm bO gb.length G (pok l ga gb) o N V L w (i * gb.length + j)) := by
  intro m
  induction m with
  | zero => intro i j o N cN V L w hm hi hj h1 h2 h3 h4 h5 k0 k1 k2 k3 k4 k5 k6 k7 k8; exact gvis_step hTab hTI hvt h60l ht0 hG1 hG2 hxa hxb hlb hwb hwa hGe hlo lM l0O lO l0T lT lA lB lV l0m lm nMm nMO nTm nTO nAm nAO nBm nBO nVm nVO nOm h1 h2 h3 h4 h5 k0 k1 k2 k3 k4 k5 k6 k7 k8 hi hj rfl (fun i2 j2 o2 N2 cN2 V2 L2 w2 hl => by omega)
  | succ m ih => intro i j o N cN V L w hm hi hj h1 h2 h3 h4 h5 k0 k1 k2 k3 k4 k5 k6 k7 k8; exact gvis_step hTab hTI hvt h60l ht0 hG1 hG2 hxa hxb hlb hwb hwa hGe hlo lM l0O lO l0T lT lA lB lV l0m lm nMm nMO nTm nTO nAm nAO nBm nBO nVm nVO nOm h1 h2 h3 h4 h5 k0 k1 k2 k3 k4 k5 k6 k7 k8 hi hj rfl (fun i2 j2 o2 N2 cN2 V2 L2 w2 hl => ih i2 j2 o2 N2 cN2 V2 L2 w2 om)
end Go.Proofs.YteenmolhopbpeaaDoor
