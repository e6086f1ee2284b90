/- What these functions of the program compute, at every world: glosswright/glosswrightref4.Generalized. -/
import Derived.Test.YteenmolhopbpeaaDoorU
import Derived.Test.YteenmolhopbpeaaDoorRJns
import Derived.Test.YteenmolhopbpeaaDoorEng5
import Derived.Test.YteenmolhopbpeaaDoorGenD
import Derived.Test.YteenmolhopbpeaaDoorComp
namespace Go.Proofs.YteenmolhopbpeaaDoor
open Go.RowKit
theorem fn19 : callable Tryd.prog 19 = true := by kernel_rfl
theorem fn20 : callable Tryd.prog 20 = true := by kernel_rfl
theorem in55 : (Tryd.prog.info? 55).map (fun i => (i.zero, i.size, i.bytes)) = some (some (.agg #[.int .i64 0, .int .i64 0]), 2, 16) := by kernel_rfl
theorem sz55 : (Tryd.prog.info? 55).map (·.size) = some 2 := by kernel_rfl
theorem ze55 : (Tryd.prog.info? 55).map (·.zero) = some (some (.agg #[.int .i64 0, .int .i64 0])) := by kernel_rfl
set_option maxRecDepth 100000 in
set_option maxHeartbeats 16000000 in
theorem sgen_any (A B G1 G2 : Option Addr) (c d c1 c2 : Nat) (l : List Ty) (fs : List Ft) (ga gb : List Nd) (w : World) (_hTab : TabIn w) (hT : TypesIn w A l) (hF : FeatsIn w B fs) (hG1 : NodesIn w G1 ga) (hG2 : NodesIn w G2 gb) (h0 : (twoG l fs ga gb).1 = 0) : Calls Tryd.prog 9 #[.agg #[.slice A l.length c, .slice B fs.length d], .agg #[.slice G1 ga.length c1], .agg #[.slice G2 gb.length c2]] w fun e w' => (∃ A X cX f, e = .returned (.tuple #[.agg #[.slice A (List.length X) cX], .agg #[.int .i64 (Prod.fst f), .int .i64 f.2]]) ∧ (∀ w2, FrSame w.heap.size w' w2 → NodesIn w2 A X) ∧ GenS l fs ga gb f X) ∧ Bel w w' := by
 obtain ⟨⟨hva, hvb⟩, hga0, hgb0⟩ := two_gv h0
 have hf40 := hva.few
 have hG3600 : (pG l ga gb).length ≤ 3600 := by rw [pG_len]; exact Nat.mul_le_mul hva.gok.le hvb.gok.le
 have hG0 : 0 < (pG l ga gb).length := by rw [pG_len]; exact Nat.mul_pos hva.gok.pos hvb.gok.pos
 have hGl := pG_len l ga gb
 refine enter Tryd.func9 Tryd.ntmps9 rfl (Nat.le_of_ble_eq_true rfl) ?_
 have hB : Bel w w := Below.refl _ _
 refine c_seq (c_region ?_)
 refine wl_bx (v := .agg #[_, _]) (cs := #[_, _]) rfl rfl (fun b3 w1 hb3 hs hr => ?_)
 have lo3 := nLT (Bel.size hB) hr
 replace hB := hB.tr0 hs
 clear hs
 clear hr
 refine wl_bx (v := .agg #[_]) (cs := #[_]) rfl rfl (fun b4 w2 hb4 hs hr => ?_)
 have or_b3_b4 : b3 < b4 := nLL hb3.lt hr
 have lo4 := nLT (Bel.size hB) hr
 replace hB := hB.tr0 hs
 replace hb3 := hb3.tr0 hs
 clear hs
 clear hr
 refine wl_bx (v := .agg #[_]) (cs := #[_]) rfl rfl (fun b5 w3 hb5 hs hr => ?_)
 have or_b3_b5 : b3 < b5 := nLL hb3.lt hr
 have or_b4_b5 : b4 < b5 := nLL hb4.lt hr
 have lo5 := nLT (Bel.size hB) hr
 replace hB := hB.tr0 hs
 replace hb3 := hb3.tr0 hs
 replace hb4 := hb4.tr0 hs
 clear hs
 clear hr
 refine wl_al (cs := #[.slice none 0 0]) ze28_GenZ rfl (fun b6 w4 hb6 hs hr => ?_)
 have or_b3_b6 : b3 < b6 := nLL hb3.lt hr
 have or_b4_b6 : b4 < b6 := nLL hb4.lt hr
 have or_b5_b6 : b5 < b6 := nLL hb5.lt hr
 have lo6 := nLT (Bel.size hB) hr
 replace hB := hB.tr0 hs
 replace hb3 := hb3.tr0 hs
 replace hb4 := hb4.tr0 hs
 replace hb5 := hb5.tr0 hs
 clear hs
 clear hr
 refine wl_al (cs := #[.int .i64 0, .int .i64 0]) ze30 rfl (fun b7 w5 hb7 hs hr => ?_)
 have or_b3_b7 : b3 < b7 := nLL hb3.lt hr
 have or_b4_b7 : b4 < b7 := nLL hb4.lt hr
 have or_b5_b7 : b5 < b7 := nLL hb5.lt hr
 have or_b6_b7 : b6 < b7 := nLL hb6.lt hr
 have lo7 := nLT (Bel.size hB) hr
 replace hB := hB.tr0 hs
 replace hb3 := hb3.tr0 hs
 replace hb4 := hb4.tr0 hs
 replace hb5 := hb5.tr0 hs
 replace hb6 := hb6.tr0 hs
 clear hs
 clear hr
 refine x_nil (e_S (c_seq ?_))
 have hB0 := hB
 have hsz0 := Bel.size hB0
 replace hT := hT.mono hB0
 obtain ⟨pa, oa, rfl, hpal, hpa⟩ := nds_at (hG1.mono hB0) hva.gok.pos
 obtain ⟨pb, ob, rfl, hpbl, hpb⟩ := nds_at (hG2.mono hB0) hvb.gok.pos
 have hmA := hva.gok.le
 have hmB := hvb.gok.le
 have hb3c := hb3
 have hb4c := hb4
 have hb5c := hb5
 have hb6c := hb6
 have hb7c := hb7
 replace hB : Bel w5 w5 := Below.refl _ _
 refine c_region (wl (r_bd2 (v0 := .int _ _) (v1 := .int _ _) (fun v0 v1 => #[v0, v1]) rfl rfl kR) ?_)
 refine wl_bs (cs := #[_, _]) [(0, .agg _)] rfl U64 sz55 ze55 dE dE kR rfl (fun b22 w6 hb22 hs hr => ?_)
 have lo22 := nLT (Bel.size hB) hr
 replace hB := hB.tr0 hs
 clear hs
 clear hr
 refine waS rfl (x_nil (e_S (c_seq (c_region ?_))))
 refine wl_al (cs := #[.slice none 0 0]) ze28_GenZ rfl (fun b9 w7 hb9 hs hr => ?_)
 have or_b22_b9 : b22 < b9 := nLL hb22.lt hr
 have lo9 := nLT (Bel.size hB) hr
 replace hB := hB.tr0 hs
 replace hb22 := hb22.tr0 hs
 clear hs
 clear hr
 refine x_nil (e_S (c_seq (c_seq (c_region (waI rfl ?_)))))
 refine x_nil (e_S (c_block ?_))
 refine c_loopS [8, 10, 11, 13, 15, 16, 23, 24, 25, 26, 27, 28, 29, 30, 31, 32, 33, 34, 35, 36, 37, 38, 39, 40, 41, 42, 43, 44, 45, 46, 47, 48, 49, 50, 51, 52, 53, 54, 55, 56, 57, 58, 59, 60, 61, 62, 63, 64, 65, 66, 67, 68, 69, 70, 71, 72, 73, 74, 75, 76, 77, 78, 79, 80, 81, 82, 83, 84, 85, 86, 87, 88, 89, 90, 91, 92, 93, 94, 95, 96, 97, 98, 99, 100, 101, 102, 103, 104, 105, 106, 107, 108, 109, 110, 111, 112, 113] (fun m g w' => ∃ (k : Nat) (ps : List Nat) (A8 : Option Addr) (cap8 : Nat) (AN : Option Addr) (cN : Nat) (V : Nat → Value), m = (pG l ga gb).length - k ∧ g 10 = .int .i64 k ∧ g 8 = .slice A8 ps.length cap8 ∧ PsOk (pG l ga gb) ps k ∧ Bel w5 w' ∧ Blk w' b9 28 #[.slice AN k cN] ∧ Own w' b22 55 2 A8 (ps).length cap8 (lnV (prL gb.length ps)) ∧ Own w' b22 39 2 AN k cN (ndV (fun x => .int .i64 ((x : Nat) : Int)) V k) ∧ RWR w' b22 w'.heap.size k (pG l ga gb) ps V) ((pG l ga gb).length) ?_ (fun m g4 w8 hI => ?_)
 ·
  refine ⟨0, [0], some ⟨b22, 0, none⟩, 1, none, 0, fun _ => .slice none 0 0, rfl, rfl, rfl, PsOk.start hG0, hB, hb9, own_of hb22 (Nat.le_refl _) (Nat.le_refl _) dE rfl ?_, Own.nil _ _ _ _, fun x hx => by omega⟩
  simp [prL, prN, lnV]
 obtain ⟨k, ps, A8, cap8, AN, cN, V, hm, h10, h8, hps, hB, hb9, hop, hon, hrw⟩ := hI
 obtain ⟨bs, hbsz⟩ : ∃ b, b = w8.heap.size := ⟨_, rfl⟩
 rw [← hbsz] at hrw
 have hbz : bs ≤ w8.heap.size := Nat.le_of_eq hbsz
 have hkl := hps.le
 have hpsl := hps.len
 have lt9 : b9 < bs := by rw [hbsz]; exact hb9.lt
 refine c_know 10 (.int .i64 k) h10 nu (c_know 8 (.slice A8 ps.length cap8) h8 nu (c_seq (c_seq (c_region (wmI rfl ?_)))))
 refine wmS rfl (wl (r_len U64 rfl) (wl (r_lss rfl rfl) (x_nil (e_S ?_))))
 refine c_ifd rfl (fun c26 => ?_) (fun c26 => ?_)
 ·
  have hlt : k < ps.length := by omega
  obtain ⟨q8, rfl⟩ := pr_addr hop om
  obtain ⟨z, hgz⟩ : ∃ z, ps.getD k 0 = z := ⟨_, rfl⟩
  have hzl : z < (pG l ga gb).length := by rw [← hgz]; exact hps.lt _ (by simp [List.getD, hlt])
  have hzd := dec_lt (by rw [← hGl]; exact hzl)
  obtain ⟨i, hi⟩ : ∃ i, z / gb.length = i := ⟨_, rfl⟩
  obtain ⟨j, hj⟩ : ∃ j, z % gb.length = j := ⟨_, rfl⟩
  have hil : i < ga.length := by rw [← hi]; exact hzd.1
  have hjl : j < gb.length := by rw [← hj]; exact hzd.2
  obtain ⟨LA, lc, hpr, hlA⟩ := hpa i hil
  obtain ⟨LB, lcb, hprb, hlB⟩ := hpb j hjl
  have hmx := hlA.1
  unfold maxI at hmx
  have hmxb := hlB.1
  unfold maxI at hmxb
  have hfwa : (nd ga i).ln.length ≤ 40 := by rw [nd_eq hil]; exact nLT (hva.gok.few i hil) hf40
  have hzij : z = i * gb.length + j := by rw [← hi, ← hj, Nat.mul_comm]; exact (Nat.div_add_mod z gb.length).symm
  obtain ⟨hsq, hlnz, _, _⟩ := pG_succ (l := l) hil hjl
  rw [← hzij] at hsq hlnz
  refine c_skip (e_S (c_seq (c_block (c_seq (c_region ?_)))))
  refine wl (r_bd (vs := #[]) (cs := #[.int .i64 0, .slice none 0 0]) (by simp) kR) ?_
  refine wl_al (cs := #[.int .i64 0, .slice none 0 0]) ze39 rfl (fun b11 w9 hb11 hs hr => ?_)
  have or_b9_b11 : b9 < b11 := nLL hb9.lt hr
  have or_hop_b11 := (fun g hg => nLL (hop.lt g hg).2 hr)
  have or_hon_b11 := (fun g hg => nLL (hon.lt g hg).2 hr)
  have or_hbz_b11 := (nLT hbz hr)
  have lo11 := nLT (Bel.size hB) hr
  replace hB := hB.tr0 hs
  replace hb9 := hb9.tr0 hs
  replace hop := hop.tr0 hs
  replace hon := hon.tr0 hs
  replace hrw := hrw.tr hs (by simp)
  replace hbz := nLT hbz (Same.size hs)
  clear hs
  clear hr
  refine wl_stW hb11 rfl rfl sz39_GTgt rfl oneA (fun w10 hq hs => ?_)
  replace hB := hB.tr1 hs lo11
  replace hb9 := hb9.tr1 hs om
  replace hop := hop.tr1 hs (fun g hg => by first | exact ownb_ne hop hb11 dE g hg | (have := or_hop_b11 g hg; omega))
  replace hon := hon.tr1 hs (fun g hg => by first | exact ownb_ne hon hb11 dE g hg | (have := or_hon_b11 g hg; omega))
  replace hrw := hrw.tr hs (fun g hg => by rw [List.mem_singleton.1 hg]; first | exact .inr ⟨_, _, hb11, by decide⟩ | exact .inl om)
  replace hbz := nLT hbz (Same.size hs)
  clear hs
  replace hb11 := hq
  refine x_nil (e_S (c_seq (c_seq ?_)))
  have lb11 : bs ≤ b11 := or_hbz_b11
  have hb4 := hb4c.bel hB
  refine c_still kR kR (fun w11 hs => ?_)
  replace hB := hB.tr0 hs
  replace hb9 := hb9.tr0 hs
  replace hop := hop.tr0 hs
  replace hon := hon.tr0 hs
  replace hrw := hrw.tr hs (by simp)
  replace hbz := nLT hbz (Same.size hs)
  replace hb11 := hb11.tr0 hs
  replace hb4 := hb4.tr0 hs
  clear hs
  refine ws (r_fa U28 sz26_GTgt dE rfl rfl rfl) (ws (r_ld1 (v := .slice _ _ _) U26 rfl rfl (hb4.cell rfl)) (ws (r_mv (v := .slice _ _ _) rfl) (ws (r_mv (v := .int _ _) rfl) (ws (r_ia (i := k) U64 sz55 rfl rfl om rfl) (ws (r_iaA (i := 0) U55 sz3_GSearch rfl rfl om rfl) ?_)))))
  refine ws (r_ld1 (v := .int _ _) U3 rfl rfl (pr_cell0 (i := i) hop hlt (by rw [hgz]; exact hi))) (ws (r_ia (i := i) U26 sz39_GTgt rfl rfl hil rfl) (ws (r_fa U39 sz37_GTgt dE rfl rfl rfl) (ws (r_ld1 (v := .slice _ _ _) U37 rfl rfl (hB.cell hpal (hpr 1 _ rfl))) (ws (r_len U37 rfl) (ws (r_mv (v := .int _ _) rfl) ?_)))))
  refine s_nil (e_S (c_block ?_))
  refine c_loopS [8, 13, 15, 16, 41, 42, 43, 44, 45, 46, 47, 48, 49, 50, 51, 52, 53, 54, 55, 56, 57, 58, 59, 60, 61, 62, 63, 64, 65, 66, 67, 68, 69, 70, 71, 72, 73, 74, 75, 76, 77, 78, 79, 80, 81, 82, 83, 84, 85, 86, 87, 88, 89, 90, 91, 92, 93, 94, 95, 96, 97, 98, 99, 100, 101, 102, 103, 104, 105] (fun m g w' => ∃ (q : Nat) (ps : List Nat) (A8 : Option Addr) (cap8 : Nat) (AR : Option Addr) (cR : Nat) (xs : List (Int × Int)), q ≤ (nd ga i).ln.length ∧ m = (nd ga i).ln.length - q ∧ g 41 = .int .i64 q ∧ g 8 = .slice A8 ps.length cap8 ∧ PsOk (pG l ga gb) ps k ∧ k < ps.length ∧ ps.getD k 0 = z ∧ xs = pLq ga gb i j q ∧ (∀ y ∈ xs, y.2.toNat ∈ ps) ∧ Bel w5 w' ∧ Blk w' b9 28 #[.slice AN k cN] ∧ Blk w' b11 39 #[.int .i64 0, .slice AR (xs).length cR] ∧ Own w' b22 55 2 A8 (ps).length cap8 (lnV (prL gb.length ps)) ∧ Own w' b22 39 2 AN k cN (ndV (fun x => .int .i64 ((x : Nat) : Int)) V k) ∧ RWR w' b22 bs k (pG l ga gb) ps V ∧ Own w' (b11 + 1) 36 2 AR (xs).length cR (lnV (lnW ps xs)) ∧ bs ≤ w'.heap.size) ((nd ga i).ln.length) ?_ (fun m g8 w12 hI => ?_)
  ·
   exact ⟨0, ps, _, _, none, 0, [], Nat.zero_le _, rfl, rfl, rfl, hps, hlt, hgz, rfl, fun y hy => (by cases hy), hB, hb9, hb11, hop, hon, hrw, Own.nil _ _ _ _, hbz⟩
  obtain ⟨q, ps, A8, cap8, AR, cR, xs, hq, hmq, h41, h8, hps, hlt, hgz, hxq, hxm, hB, hb9, hb11, hop, hon, hrw, hor, hbz⟩ := hI
  have hpsl := hps.len
  refine c_know 41 (.int .i64 q) h41 nu (c_know 8 (.slice A8 ps.length cap8) h8 nu (c_seq (c_region (wl (r_lss rfl rfl) (x_nil ?_)))))
  refine e_S (c_seq ?_)
  refine c_ifd rfl (fun c42 => ?_) (fun c42 => ?_)
  ·
   have hql : q < (nd ga i).ln.length := by omega
   obtain ⟨la, lof, rfl, hla, hlr⟩ := hlA.at_ hB hql
   obtain ⟨q9, rfl⟩ := pr_addr hop om
   obtain ⟨u, hu, hul⟩ : ∃ u : Nat, ((nd ga i).ln[q]'hql).2 = (u : Int) ∧ u < ga.length := by
     have h1 := hva.gx.lr i hil _ (List.getElem_mem hql)
     exact ⟨(((nd ga i).ln[q]'hql).2).toNat, by omega, by omega⟩
   refine c_skip (e_S (c_seq (c_block (c_seq (c_region ?_)))))
   refine wl (r_ia (i := q) U37 sz36_GSearch rfl rfl om rfl) (wl (r_ldS U36 rfl rfl hlr sz36_GSearch) ?_)
   refine wl_al (cs := #[.int .i64 0, .int .i64 0]) ze36 rfl (fun b13 w13 hb13 hs hr => ?_)
   have or_b9_b13 : b9 < b13 := nLL hb9.lt hr
   have or_b11_b13 : b11 < b13 := nLL hb11.lt hr
   have or_hop_b13 := (fun g hg => nLL (hop.lt g hg).2 hr)
   have or_hon_b13 := (fun g hg => nLL (hon.lt g hg).2 hr)
   have or_hor_b13 := (fun g hg => nLL (hor.lt g hg).2 hr)
   have or_hbz_b13 := (nLT hbz hr)
   have lo13 := nLT (Bel.size hB) hr
   replace hB := hB.tr0 hs
   replace hb9 := hb9.tr0 hs
   replace hb11 := hb11.tr0 hs
   replace hop := hop.tr0 hs
   replace hon := hon.tr0 hs
   replace hrw := hrw.tr hs (by simp)
   replace hor := hor.tr0 hs
   replace hbz := nLT hbz (Same.size hs)
   clear hs
   clear hr
   refine wl_stW hb13 rfl rfl sz36_GSearch rfl oneA (fun w14 hq hs => ?_)
   replace hB := hB.tr1 hs lo13
   replace hb9 := hb9.tr1 hs om
   replace hb11 := hb11.tr1 hs om
   replace hop := hop.tr1 hs (fun g hg => by first | exact ownb_ne hop hb13 dE g hg | (have := or_hop_b13 g hg; omega))
   replace hon := hon.tr1 hs (fun g hg => by first | exact ownb_ne hon hb13 dE g hg | (have := or_hon_b13 g hg; omega))
   replace hrw := hrw.tr hs (fun g hg => by rw [List.mem_singleton.1 hg]; first | exact .inr ⟨_, _, hb13, by decide⟩ | exact .inl om)
   replace hor := hor.tr1 hs (fun g hg => by first | exact ownb_ne hor hb13 dE g hg | (have := or_hor_b13 g hg; omega))
   replace hbz := nLT hbz (Same.size hs)
   clear hs
   replace hb13 := hq
   refine x_nil (e_S (c_seq ?_))
   rw [hu] at hb13
   have hb5 := hb5c.bel hB
   refine c_still kR kR (fun w15 hs => ?_)
   replace hB := hB.tr0 hs
   replace hb9 := hb9.tr0 hs
   replace hb11 := hb11.tr0 hs
   replace hop := hop.tr0 hs
   replace hon := hon.tr0 hs
   replace hrw := hrw.tr hs (by simp)
   replace hor := hor.tr0 hs
   replace hbz := nLT hbz (Same.size hs)
   replace hb13 := hb13.tr0 hs
   replace hb5 := hb5.tr0 hs
   clear hs
   refine ws (r_fa U28 sz26_GTgt dE rfl rfl rfl) (ws (r_ld1 (v := .slice _ _ _) U26 rfl rfl (hb5.cell rfl)) (ws (r_mv (v := .slice _ _ _) rfl) (ws (r_mv (v := .int _ _) rfl) (ws (r_ia (i := k) U64 sz55 rfl rfl om rfl) (ws (r_iaA (i := 1) U55 sz3_GSearch rfl rfl om rfl) ?_)))))
   refine ws (r_ld1 (v := .int _ _) U3 rfl rfl (pr_cell1 (i := j) hop hlt (by rw [hgz]; exact hj))) (ws (r_ia (i := j) U26 sz39_GTgt rfl rfl hjl rfl) (ws (r_fa U39 sz37_GTgt dE rfl rfl rfl) (ws (r_ld1 (v := .slice _ _ _) U37 rfl rfl (hB.cell hpbl (hprb 1 _ rfl))) (ws (r_len U37 rfl) (ws (r_mv (v := .int _ _) rfl) ?_)))))
   refine s_nil (e_S (c_block ?_))
   refine c_loopS [8, 15, 16, 56, 57, 58, 59, 60, 61, 62, 63, 64, 65, 66, 67, 68, 69, 70, 71, 72, 73, 74, 75, 76, 77, 78, 79, 80, 81, 82, 83, 84, 85, 86, 87, 88, 89, 90, 91, 92, 93, 94, 95, 96, 97, 98, 99, 100, 101, 102, 103, 104] (fun m g w' => ∃ (p : Nat) (ps : List Nat) (A8 : Option Addr) (cap8 : Nat) (AR : Option Addr) (cR : Nat) (xs : List (Int × Int)), p ≤ (nd gb j).ln.length ∧ m = (nd gb j).ln.length - p ∧ g 56 = .int .i64 p ∧ g 8 = .slice A8 ps.length cap8 ∧ PsOk (pG l ga gb) ps k ∧ k < ps.length ∧ ps.getD k 0 = z ∧ InL ga gb i j q p xs ∧ (∀ y ∈ xs, y.2.toNat ∈ ps) ∧ (∀ g ∈ aL AR, g ≠ b13) ∧ Bel w5 w' ∧ Blk w' b9 28 #[.slice AN k cN] ∧ Blk w' b11 39 #[.int .i64 0, .slice AR (xs).length cR] ∧ Blk w' b13 36 #[.int .i64 ((nd ga i).ln[q]'hql).1, .int .i64 (u : Nat)] ∧ Own w' b22 55 2 A8 (ps).length cap8 (lnV (prL gb.length ps)) ∧ Own w' b22 39 2 AN k cN (ndV (fun x => .int .i64 ((x : Nat) : Int)) V k) ∧ RWR w' b22 bs k (pG l ga gb) ps V ∧ Own w' (b11 + 1) 36 2 AR (xs).length cR (lnV (lnW ps xs)) ∧ bs ≤ w'.heap.size) ((nd gb j).ln.length) ?_ (fun m g11 w16 hI => ?_)
   ·
    exact ⟨0, ps, _, _, _, _, xs, Nat.zero_le _, rfl, rfl, rfl, hps, hlt, hgz, by rw [hxq]; exact InL.start _ _ _ _ _, hxm, fun g hg => Nat.ne_of_lt (or_hor_b13 g hg), hB, hb9, hb11, hb13, hop, hon, hrw, hor, hbz⟩
   obtain ⟨p, ps, A8, cap8, AR, cR, xs, hp, hmp, h56, h8, hps, hlt, hgz, hin, hxm, or_hor_b13, hB, hb9, hb11, hb13, hop, hon, hrw, hor, hbz⟩ := hI
   have hpsl := hps.len
   refine c_know 56 (.int .i64 p) h56 nu (c_know 8 (.slice A8 ps.length cap8) h8 nu (c_seq (c_region (wl (r_lss rfl rfl) (x_nil ?_)))))
   refine e_S (c_seq ?_)
   refine c_ifd rfl (fun c57 => ?_) (fun c57 => ?_)
   ·
    have hpl : p < (nd gb j).ln.length := by omega
    obtain ⟨lbb, lofb, rfl, hlbb, hlrb⟩ := hlB.at_ hB hpl
    obtain ⟨q9, rfl⟩ := pr_addr hop om
    obtain ⟨t, ht, htl⟩ : ∃ t : Nat, ((nd gb j).ln[p]'hpl).2 = (t : Int) ∧ t < gb.length := by
      have h1 := hvb.gx.lr j hjl _ (List.getElem_mem hpl)
      exact ⟨(((nd gb j).ln[p]'hpl).2).toNat, by omega, by omega⟩
    refine c_skip (e_S (c_seq (c_block (c_seq (c_region ?_)))))
    refine wl (r_ia (i := p) U37 sz36_GSearch rfl rfl om rfl) (wl (r_ldS U36 rfl rfl hlrb sz36_GSearch) ?_)
    refine wl_al (cs := #[.int .i64 0, .int .i64 0]) ze36 rfl (fun b15 w17 hb15 hs hr => ?_)
    have or_b9_b15 : b9 < b15 := nLL hb9.lt hr
    have or_b11_b15 : b11 < b15 := nLL hb11.lt hr
    have or_b13_b15 : b13 < b15 := nLL hb13.lt hr
    have or_hop_b15 := (fun g hg => nLL (hop.lt g hg).2 hr)
    have or_hon_b15 := (fun g hg => nLL (hon.lt g hg).2 hr)
    have or_hor_b15 := (fun g hg => nLL (hor.lt g hg).2 hr)
    have or_hbz_b15 := (nLT hbz hr)
    have lo15 := nLT (Bel.size hB) hr
    replace hB := hB.tr0 hs
    replace hb9 := hb9.tr0 hs
    replace hb11 := hb11.tr0 hs
    replace hb13 := hb13.tr0 hs
    replace hop := hop.tr0 hs
    replace hon := hon.tr0 hs
    replace hrw := hrw.tr hs (by simp)
    replace hor := hor.tr0 hs
    replace hbz := nLT hbz (Same.size hs)
    clear hs
    clear hr
    refine wl_stW hb15 rfl rfl sz36_GSearch rfl oneA (fun w18 hq hs => ?_)
    replace hB := hB.tr1 hs lo15
    replace hb9 := hb9.tr1 hs om
    replace hb11 := hb11.tr1 hs om
    replace hb13 := hb13.tr1 hs om
    replace hop := hop.tr1 hs (fun g hg => by first | exact ownb_ne hop hb15 dE g hg | (have := or_hop_b15 g hg; omega))
    replace hon := hon.tr1 hs (fun g hg => by first | exact ownb_ne hon hb15 dE g hg | (have := or_hon_b15 g hg; omega))
    replace hrw := hrw.tr hs (fun g hg => by rw [List.mem_singleton.1 hg]; first | exact .inr ⟨_, _, hb15, by decide⟩ | exact .inl om)
    replace hor := hor.tr1 hs (fun g hg => by first | exact ownb_ne hor hb15 dE g hg | (have := or_hor_b15 g hg; omega))
    replace hbz := nLT hbz (Same.size hs)
    clear hs
    replace hb15 := hq
    refine x_nil (e_S (c_seq (c_seq ?_)))
    rw [ht] at hb15
    refine c_region (wl (r_fa U36 sz3_GSearch dE rfl rfl rfl) (wl (r_ld1 (v := .int _ _) U3 rfl rfl (hb13.cell rfl)) (wl (r_fa U36 sz3_GSearch dE rfl rfl rfl) (wl (r_ld1 (v := .int _ _) U3 rfl rfl (hb15.cell rfl)) (wl (r_neq rfl rfl) ?_)))))
    refine x_nil (e_S ?_)
    refine c_ifd rfl (fun c64 => ?_) (fun c64 => ?_)
    ·
     refine c_exit (e_Sx (e_Bx (e_S (c_region (wl (r_add rfl rfl rfl om) ?_)))))
     refine wmI rfl (x_nil (e_LS ((nd gb j).ln.length - (p + 1)) om agA ?_))
     first
     | exact ⟨p + 1, addC ps (u * gb.length + t), _, _, _, _, xs ++ [(((nd ga i).ln[q]'hql).1, (((u * gb.length + t) : Nat) : Int))], by omega, rfl, rfl, sl_lenW hal, hps2, hlt2, hgz2, hin2, hxm2, hne13, hB, hb9, hb11, hb13, hop, hon, hrw, hor, hbz⟩
     | exact ⟨p + 1, ps, _, _, _, _, xs, by omega, rfl, rfl, rfl, hps, hlt, hgz, hin.no hpl hql (fun e => c64 e.symm), hxm, or_hor_b13, hB, hb9, hb11, hb13, hop, hon, hrw, hor, hbz⟩
    have hfe : ((nd gb j).ln[p]'hpl).1 = ((nd ga i).ln[q]'hql).1 := (Decidable.not_not.1 c64).symm
    obtain ⟨hxq2, hin2⟩ := hin.yes (hvb.gx.srt j hjl) hpl hql hfe hu ht
    have hcl : (u * gb.length + t) < (pG l ga gb).length := by rw [hGl]; exact enc_lt hul htl
    refine c_skip (e_S (c_seq (c_region (waI rfl (x_nil ?_)))))
    refine e_S (c_seq (c_block ?_))
    refine c_loopS [16, 65, 66, 67, 68, 69, 70, 71, 72, 73, 74, 75, 76, 77, 78, 79, 80, 81, 82] (fun m g w' => ∃ r : Nat, r ≤ ps.length ∧ m = ps.length - r ∧ g 16 = .int .i64 r ∧ (∀ x, x < r → ¬ ps.getD x 0 = (u * gb.length + t)) ∧ SameQ [] w18 w') (ps.length) ?_ (fun m g15 w19 hI => ?_)
    ·
     exact ⟨0, Nat.zero_le _, rfl, rfl, fun x hx => by omega, Same.refl _ _⟩
    obtain ⟨r, hr, hmr, h16, hrn, hS⟩ := hI
    replace hB := hB.tr0 hS
    replace hb9 := hb9.tr0 hS
    replace hb11 := hb11.tr0 hS
    replace hb13 := hb13.tr0 hS
    replace hb15 := hb15.tr0 hS
    replace hop := hop.tr0 hS
    replace hon := hon.tr0 hS
    replace hor := hor.tr0 hS
    replace hrw := hrw.tr hS (by simp)
    replace hbz := nLT hbz (Same.size hS)
    refine c_know 16 (.int .i64 r) h16 nu (c_seq (c_seq ?_))
    refine c_cutS [65, 66, 67, 68, 69, 70, 71, 72, 73, 74, 75, 76, 77, 78, 79, 80] (fun g w' => (g 80 = .bool (decide (r < ps.length ∧ ¬ ps.getD r 0 = u * gb.length + t))) ∧ Same [] w19 w') ?_ (fun g15 w20 hI => ?_)
    ·
     have hZ : SameQ [] w19 w19 := Same.refl _ _
     refine c_still kR kR (fun w21 hs => ?_)
     replace hB := hB.tr0 hs
     replace hb9 := hb9.tr0 hs
     replace hb11 := hb11.tr0 hs
     replace hb13 := hb13.tr0 hs
     replace hop := hop.tr0 hs
     replace hon := hon.tr0 hs
     replace hrw := hrw.tr hs (by simp)
     replace hor := hor.tr0 hs
     replace hbz := nLT hbz (Same.size hs)
     replace hb15 := hb15.tr0 hs
     replace hS := SameQ.trans hS hs (by simp)
     replace hZ := SameQ.trans hZ hs (by simp)
     clear hs
     refine ws (r_mv (v := .int _ _) rfl) (ws (r_mv (v := .slice _ _ _) rfl) (ws (r_len U64 rfl) (ws (r_lss rfl rfl) (ws (r_mv (v := .bool _) rfl) ?_))))
     refine ws_cases 69 rfl (fun g69 => ?_) (fun g69 => ?_)
     ·
      refine wsgy 69 rfl rfl (r_mv (v := .slice _ _ _) rfl) (wsgy 69 rfl rfl (r_mv (v := .int _ _) rfl) (wsgy 69 rfl rfl (r_ia (i := r) U64 sz55 rfl rfl om rfl) (wsgy 69 rfl rfl (r_ldS U55 rfl rfl (pr_range hop om) sz55) (wsgy 69 rfl rfl (r_fa U36 sz3_GSearch dE rfl rfl rfl) (wsgy 69 rfl rfl (r_ld1 (v := .int _ _) U3 rfl rfl (hb13.cell rfl)) ?_)))))
      refine wsgy 69 rfl rfl (r_fa U36 sz3_GSearch dE rfl rfl rfl) (wsgy 69 rfl rfl (r_ld1 (v := .int _ _) U3 rfl rfl (hb15.cell rfl)) (wsgy 69 rfl rfl (r_bd2 (v0 := .int _ _) (v1 := .int _ _) (fun v0 v1 => #[v0, v1]) rfl rfl kR) (wsgy 69 rfl rfl (r_neA kR U55 U3 sz3_GSearch rfl rfl) (ws (r_pt (v := .bool _) rfl rfl) (s_nil ?_)))))
      refine e_R ⟨agA, ?_⟩
      refine ⟨?_, hZ⟩
      refine congrArg Value.bool ?_
      first
        | exact (decide_eq_false (fun h => g69 om)).symm
        | exact decide_eq_decide.2 ⟨fun h => ⟨by omega, fun e => h ((pr_iff htl).2 e)⟩, fun h e => h.2 ((pr_iff htl).1 e)⟩
     refine wsgn 69 rfl rfl rfl (wsgn 69 rfl rfl rfl (wsgn 69 rfl rfl rfl (wsgn 69 rfl rfl rfl (wsgn 69 rfl rfl rfl (wsgn 69 rfl rfl rfl ?_)))))
     refine wsgn 69 rfl rfl rfl (wsgn 69 rfl rfl rfl (wsgn 69 rfl rfl rfl (wsgn 69 rfl rfl rfl (ws (r_pf (v := .bool _) rfl rfl) (s_nil ?_)))))
     refine e_R ⟨agA, ?_⟩
     refine ⟨?_, hZ⟩
     refine congrArg Value.bool ?_
     first
       | exact (decide_eq_false (fun h => g69 om)).symm
       | exact decide_eq_decide.2 ⟨fun h => ⟨by omega, fun e => h ((pr_iff htl).2 e)⟩, fun h e => h.2 ((pr_iff htl).1 e)⟩
    obtain ⟨h80, hs⟩ := hI
    replace hB := hB.tr0 hs
    replace hb9 := hb9.tr0 hs
    replace hb11 := hb11.tr0 hs
    replace hb13 := hb13.tr0 hs
    replace hop := hop.tr0 hs
    replace hon := hon.tr0 hs
    replace hrw := hrw.tr hs (by simp)
    replace hor := hor.tr0 hs
    replace hbz := nLT hbz (Same.size hs)
    replace hb15 := hb15.tr0 hs
    replace hS := SameQ.trans hS hs (by simp)
    clear hs
    refine e_know 80 (.bool (decide (r < ps.length ∧ ¬ ps.getD r 0 = u * gb.length + t))) h80 nu (e_S ?_)
    refine c_ifd rfl (fun c80 => ?_) (fun c80 => ?_)
    ·
     have hrlt := c80.1
     refine c_skip (e_S (c_block (c_region (wmI rfl (wl (r_add rfl rfl rfl om) ?_)))))
     refine waI rfl (x_nil (e_B (e_LS (ps.length - (r + 1)) om agA ?_)))
     exact ⟨r + 1, by omega, rfl, rfl, fun x hx => by
       by_cases e : x = r
       · subst e; exact c80.2
       · exact hrn x om, hS⟩
    refine c_exit (e_Sx (e_LSx (e_Bx (e_S (c_seq ?_)))))
    refine c_seq (c_region (wmI rfl (wmS rfl (wl (r_len U64 rfl) (wl (r_eql rfl rfl) ?_)))))
    refine x_nil (e_S ?_)
    refine c_ifd rfl (fun c86 => ?_) (fun c86 => ?_)
    ·
     have hnc : ¬ (u * gb.length + t) ∈ ps := fun h => by
       obtain ⟨x, hx, e⟩ := List.getElem_of_mem h
       exact hrn x om (by simp [List.getD, hx, e])
     have hadd : addC ps (u * gb.length + t) = ps ++ [(u * gb.length + t)] := by unfold addC; rw [if_neg hnc]
     have hal : (addC ps (u * gb.length + t)).length = ps.length + 1 := by rw [hadd]; simp
     have hidx : (addC ps (u * gb.length + t)).idxOf (u * gb.length + t) = r := by rw [idx_new hnc]; omega
     have or_hop_b9 := ownb_ne hop hb9 dE
     have or_hop_b11 := ownb_ne hop hb11 dE
     have or_hop_b13 := ownb_ne hop hb13 dE
     have or_hop_b15 := ownb_ne hop hb15 dE
     have hbs22 := hop.lt q9 (List.mem_singleton.2 rfl)
     refine c_region (wmS rfl (wl (r_fa U36 sz3_GSearch dE rfl rfl rfl) (wl (r_ld1 (v := .int _ _) U3 rfl rfl (hb13.cell rfl)) (wl (r_fa U36 sz3_GSearch dE rfl rfl rfl) (wl (r_ld1 (v := .int _ _) U3 rfl rfl (hb15.cell rfl)) ?_)))))
     refine wl (r_bd2 (v0 := .int _ _) (v1 := .int _ _) (fun v0 v1 => #[v0, v1]) rfl rfl kR) ?_
     refine wl_bs (cs := #[_, _]) [(0, .agg _)] rfl U64 sz55 ze55 dE dE kR rfl (fun b93 w22 hb93 hs hr => ?_)
     have or_b9_b93 : b9 < b93 := nLL hb9.lt hr
     have or_b11_b93 : b11 < b93 := nLL hb11.lt hr
     have or_b13_b93 : b13 < b93 := nLL hb13.lt hr
     have or_hop_b93 := (fun g hg => nLL (hop.lt g hg).2 hr)
     have or_hon_b93 := (fun g hg => nLL (hon.lt g hg).2 hr)
     have or_hor_b93 := (fun g hg => nLL (hor.lt g hg).2 hr)
     have or_hbz_b93 := (nLT hbz hr)
     have or_b15_b93 : b15 < b93 := nLL hb15.lt hr
     have lo93 := nLT (Bel.size hB) hr
     replace hB := hB.tr0 hs
     replace hb9 := hb9.tr0 hs
     replace hb11 := hb11.tr0 hs
     replace hb13 := hb13.tr0 hs
     replace hop := hop.tr0 hs
     replace hon := hon.tr0 hs
     replace hrw := hrw.tr hs (by simp)
     replace hor := hor.tr0 hs
     replace hbz := nLT hbz (Same.size hs)
     replace hb15 := hb15.tr0 hs
     clear hs
     clear hr
     refine wl_app U64 in55 rfl dE hop hb93 rfl rfl rfl oneA dE om om om (fun g94 cap94 w23 ho94 hs hg => ?_)
     have ne_ho94_b9 : g94 ≠ b9 := fun e => by
      have hl := hb9.lt
      rcases hg with hg | hg
      · have h1 := hop.lt g94 (by rw [hg]; exact List.mem_singleton.2 rfl)
        (try have := or_hop_b9 g94 (by rw [hg]; exact List.mem_singleton.2 rfl)); omega
      · omega
     have ne_ho94_b11 : g94 ≠ b11 := fun e => by
      have hl := hb11.lt
      rcases hg with hg | hg
      · have h1 := hop.lt g94 (by rw [hg]; exact List.mem_singleton.2 rfl)
        (try have := or_hop_b11 g94 (by rw [hg]; exact List.mem_singleton.2 rfl)); omega
      · omega
     have ne_ho94_b13 : g94 ≠ b13 := fun e => by
      have hl := hb13.lt
      rcases hg with hg | hg
      · have h1 := hop.lt g94 (by rw [hg]; exact List.mem_singleton.2 rfl)
        (try have := or_hop_b13 g94 (by rw [hg]; exact List.mem_singleton.2 rfl)); omega
      · omega
     have ne_ho94_b15 : g94 ≠ b15 := fun e => by
      have hl := hb15.lt
      rcases hg with hg | hg
      · have h1 := hop.lt g94 (by rw [hg]; exact List.mem_singleton.2 rfl)
        (try have := or_hop_b15 g94 (by rw [hg]; exact List.mem_singleton.2 rfl)); omega
      · omega
     replace hB := hB.tr hs (fun g hg => nLT om (hop.lt g hg).1)
     replace hb9 := hb9.tr hs (fun hx => by have := (hop.lt _ hx).1; (try have := or_hop_b9 _ hx); omega)
     replace hb11 := hb11.tr hs (fun hx => by have := (hop.lt _ hx).1; (try have := or_hop_b11 _ hx); omega)
     replace hb13 := hb13.tr hs (fun hx => by have := (hop.lt _ hx).1; (try have := or_hop_b13 _ hx); omega)
     replace hon := hon.tr hs (own_ne hon hop dE)
     replace hrw := hrw.tr hs (fun g hg => by first | exact .inl (by have := ((hop).lt g hg).1; omega) | (obtain ⟨cs, h⟩ := (hop).typ g hg; exact .inr ⟨_, _, h, by decide⟩))
     replace hor := hor.tr hs (own_ne hor hop dE)
     replace hbz := nLT hbz (Same.size hs)
     replace hb15 := hb15.tr hs (fun hx => by have := (hop.lt _ hx).1; (try have := or_hop_b15 _ hx); omega)
     have hop : Own w23 b22 55 2 (some ⟨g94, 0, none⟩) ((addC ps (u * gb.length + t))).length cap94 (lnV (prL gb.length (addC ps (u * gb.length + t)))) := by
       rw [hal, hadd, ← prL_snoc]
       have e := enc_div (i := u) htl
       simp only [prN, e.1, e.2]
       exact ho94
     refine waS rfl (x_nil (e_S ?_))
     have hop2 := hop
     have hps2 := hps.add hcl
     have hlt2 : k < (addC ps (u * gb.length + t)).length := by omega
     have hgz2 := (addC_getD (c := (u * gb.length + t)) hlt).trans hgz
     have hxm2 := mem_snoc (f := ((nd ga i).ln[q]'hql).1) (c := (u * gb.length + t)) hxm
     replace hrw := hrw.add (c := (u * gb.length + t)) hps
     rw [← lnW_add (c := (u * gb.length + t)) hxm] at hor
     have hxl := hin.len
     have or_hor_b11 := ownb_ne hor hb11 dE
     have or_hor_b9 := ownb_ne hor hb9 dE
     have hxe : (xs ++ [(((nd ga i).ln[q]'hql).1, (((u * gb.length + t) : Nat) : Int))]).length = xs.length + 1 := by simp
     refine c_region (wl (r_fa U39 sz37_GTgt dE rfl rfl rfl) (wl (r_ld1 (v := .slice _ _ _) U37 rfl rfl (hb11.cell rfl)) (wl (r_fa U36 sz3_GSearch dE rfl rfl rfl) (wl (r_ld1 (v := .int _ _) U3 rfl rfl (hb13.cell rfl)) (wmI rfl ?_)))))
     refine wl (r_bd2 (v0 := .int _ _) (v1 := .int _ _) (fun v0 v1 => #[v0, v1]) rfl rfl kR) ?_
     refine wl_bs (cs := #[_, _]) [(0, .agg _)] rfl U37 sz36_GSearch ze36 dE dE kR rfl (fun b101 w24 hb101 hs hr => ?_)
     have or_b9_b101 : b9 < b101 := nLL hb9.lt hr
     have or_b11_b101 : b11 < b101 := nLL hb11.lt hr
     have or_b13_b101 : b13 < b101 := nLL hb13.lt hr
     have or_hon_b101 := (fun g hg => nLL (hon.lt g hg).2 hr)
     have or_hor_b101 := (fun g hg => nLL (hor.lt g hg).2 hr)
     have or_hbz_b101 := (nLT hbz hr)
     have or_b15_b101 : b15 < b101 := nLL hb15.lt hr
     have or_hop_b101 := (fun g hg => nLL (hop.lt g hg).2 hr)
     have lo101 := nLT (Bel.size hB) hr
     replace hB := hB.tr0 hs
     replace hb9 := hb9.tr0 hs
     replace hb11 := hb11.tr0 hs
     replace hb13 := hb13.tr0 hs
     replace hon := hon.tr0 hs
     replace hrw := hrw.tr hs (by simp)
     replace hor := hor.tr0 hs
     replace hbz := nLT hbz (Same.size hs)
     replace hb15 := hb15.tr0 hs
     replace hop := hop.tr0 hs
     clear hs
     clear hr
     refine wl_app U37 in36 rfl dE hor hb101 rfl rfl rfl oneA dE om om hb11.lt (fun g102 cap102 w25 ho102 hs hg => ?_)
     have ne_ho102_b9 : g102 ≠ b9 := fun e => by
      have hl := hb9.lt
      rcases hg with hg | hg
      · have h1 := hor.lt g102 (by rw [hg]; exact List.mem_singleton.2 rfl)
        (try have := or_hor_b9 g102 (by rw [hg]; exact List.mem_singleton.2 rfl)); omega
      · omega
     have ne_ho102_b11 : g102 ≠ b11 := fun e => by
      have hl := hb11.lt
      rcases hg with hg | hg
      · have h1 := hor.lt g102 (by rw [hg]; exact List.mem_singleton.2 rfl)
        (try have := or_hor_b11 g102 (by rw [hg]; exact List.mem_singleton.2 rfl)); omega
      · omega
     have ne_ho102_b13 : g102 ≠ b13 := fun e => by
      have hl := hb13.lt
      rcases hg with hg | hg
      · have h1 := hor.lt g102 (by rw [hg]; exact List.mem_singleton.2 rfl)
        (try have := or_hor_b13 g102 (by rw [hg]; exact List.mem_singleton.2 rfl)); omega
      · omega
     have ne_ho102_b15 : g102 ≠ b15 := fun e => by
      have hl := hb15.lt
      rcases hg with hg | hg
      · have h1 := hor.lt g102 (by rw [hg]; exact List.mem_singleton.2 rfl)
        (try have := or_hor_b15 g102 (by rw [hg]; exact List.mem_singleton.2 rfl)); omega
      · omega
     replace hB := hB.tr hs (fun g hg => nLT om (hor.lt g hg).1)
     replace hb9 := hb9.tr hs (fun hx => by have := (hor.lt _ hx).1; (try have := or_hor_b9 _ hx); omega)
     replace hb11 := hb11.tr hs (fun hx => by have := (hor.lt _ hx).1; (try have := or_hor_b11 _ hx); omega)
     replace hb13 := hb13.tr hs (fun hx => by have := (hor.lt _ hx).1; (try have := or_hor_b13 _ hx); omega)
     replace hon := hon.tr hs (own_ne hon hor dE)
     replace hrw := hrw.tr hs (fun g hg => by first | exact .inl (by have := ((hor).lt g hg).1; omega) | (obtain ⟨cs, h⟩ := (hor).typ g hg; exact .inr ⟨_, _, h, by decide⟩))
     replace hbz := nLT hbz (Same.size hs)
     replace hb15 := hb15.tr hs (fun hx => by have := (hor.lt _ hx).1; (try have := or_hor_b15 _ hx); omega)
     replace hop := hop.tr hs (own_ne hop hor dE)
     have hor : Own w25 (b11 + 1) 36 2 (some ⟨g102, 0, none⟩) ((xs ++ [(((nd ga i).ln[q]'hql).1, (((u * gb.length + t) : Nat) : Int))])).length cap102 (lnV (lnW (addC ps (u * gb.length + t)) (xs ++ [(((nd ga i).ln[q]'hql).1, (((u * gb.length + t) : Nat) : Int))]))) := by
       rw [hxe, lnW_snoc hxm, ← lnW_add (c := (u * gb.length + t)) hxm, ← lnV_snoc, hidx]; exact ho102
     have hne13 : ∀ g ∈ aL (some ⟨g102, 0, none⟩), g ≠ b13 := fun g hg => by rw [List.mem_singleton.1 hg]; exact ne_ho102_b13
     refine wl (r_fa U39 sz37_GTgt dE rfl rfl rfl) ?_
     refine wl_st1 (v := .slice _ _ _) hb11 rfl rfl sz37_GTgt (by first | decide | simp) rfl rfl (fun w26 hq hs => ?_)
     replace hB := hB.tr1 hs lo11
     replace hb9 := hb9.tr1 hs om
     replace hb13 := hb13.tr1 hs om
     replace hon := hon.tr1 hs (fun g hg => by first | exact ownb_ne hon hb11 dE g hg | (have := or_hon_b11 g hg; omega))
     replace hrw := hrw.tr hs (fun g hg => by rw [List.mem_singleton.1 hg]; first | exact .inr ⟨_, _, hb11, by decide⟩ | exact .inl om)
     replace hbz := nLT hbz (Same.size hs)
     replace hb15 := hb15.tr1 hs om
     replace hop := hop.tr1 hs (fun g hg => by first | exact ownb_ne hop hb11 dE g hg | (have := or_hop_b11 g hg; omega))
     replace hor := hor.tr1 hs (fun g hg => by first | exact ownb_ne hor hb11 dE g hg | (have := or_hor_b11 g hg; omega))
     clear hs
     replace hb11 := hq
     rw [← hxe] at hb11
     refine x_nil (e_B (e_S (c_region (wl (r_add rfl rfl rfl om) (wmI rfl ?_)))))
     refine x_nil (e_LS ((nd gb j).ln.length - (p + 1)) om agA ?_)
     first
     | exact ⟨p + 1, addC ps (u * gb.length + t), _, _, _, _, xs ++ [(((nd ga i).ln[q]'hql).1, (((u * gb.length + t) : Nat) : Int))], by omega, rfl, rfl, sl_lenW hal, hps2, hlt2, hgz2, hin2, hxm2, hne13, hB, hb9, hb11, hb13, hop, hon, hrw, hor, hbz⟩
     | exact ⟨p + 1, ps, _, _, _, _, xs, by omega, rfl, rfl, rfl, hps, hlt, hgz, hin.no hpl hql (fun e => c64 e.symm), hxm, or_hor_b13, hB, hb9, hb11, hb13, hop, hon, hrw, hor, hbz⟩
    have hrlt : r < ps.length := by omega
    have hrc : ps[r] = (u * gb.length + t) := by
      have h1 : ps.getD r 0 = (u * gb.length + t) := Classical.byContradiction (fun e => c80 ⟨hrlt, e⟩)
      simpa [List.getD, hrlt] using h1
    obtain ⟨hadd, hidx⟩ := idx_old hps.nd_ hrlt
    rw [hrc] at hadd hidx
    have hal : (addC ps (u * gb.length + t)).length = ps.length := by rw [hadd]
    rw [← hadd] at hop
    refine c_skip (e_S ?_)
    have hop2 := hop
    have hps2 := hps.add hcl
    have hlt2 : k < (addC ps (u * gb.length + t)).length := by omega
    have hgz2 := (addC_getD (c := (u * gb.length + t)) hlt).trans hgz
    have hxm2 := mem_snoc (f := ((nd ga i).ln[q]'hql).1) (c := (u * gb.length + t)) hxm
    replace hrw := hrw.add (c := (u * gb.length + t)) hps
    rw [← lnW_add (c := (u * gb.length + t)) hxm] at hor
    have hxl := hin.len
    have or_hor_b11 := ownb_ne hor hb11 dE
    have or_hor_b9 := ownb_ne hor hb9 dE
    have hxe : (xs ++ [(((nd ga i).ln[q]'hql).1, (((u * gb.length + t) : Nat) : Int))]).length = xs.length + 1 := by simp
    refine c_region (wl (r_fa U39 sz37_GTgt dE rfl rfl rfl) (wl (r_ld1 (v := .slice _ _ _) U37 rfl rfl (hb11.cell rfl)) (wl (r_fa U36 sz3_GSearch dE rfl rfl rfl) (wl (r_ld1 (v := .int _ _) U3 rfl rfl (hb13.cell rfl)) (wmI rfl ?_)))))
    refine wl (r_bd2 (v0 := .int _ _) (v1 := .int _ _) (fun v0 v1 => #[v0, v1]) rfl rfl kR) ?_
    refine wl_bs (cs := #[_, _]) [(0, .agg _)] rfl U37 sz36_GSearch ze36 dE dE kR rfl (fun b101 w27 hb101 hs hr => ?_)
    have or_b9_b101 : b9 < b101 := nLL hb9.lt hr
    have or_b11_b101 : b11 < b101 := nLL hb11.lt hr
    have or_b13_b101 : b13 < b101 := nLL hb13.lt hr
    have or_hop_b101 := (fun g hg => nLL (hop.lt g hg).2 hr)
    have or_hon_b101 := (fun g hg => nLL (hon.lt g hg).2 hr)
    have or_hor_b101 := (fun g hg => nLL (hor.lt g hg).2 hr)
    have or_hbz_b101 := (nLT hbz hr)
    have or_b15_b101 : b15 < b101 := nLL hb15.lt hr
    have lo101 := nLT (Bel.size hB) hr
    replace hB := hB.tr0 hs
    replace hb9 := hb9.tr0 hs
    replace hb11 := hb11.tr0 hs
    replace hb13 := hb13.tr0 hs
    replace hop := hop.tr0 hs
    replace hon := hon.tr0 hs
    replace hrw := hrw.tr hs (by simp)
    replace hor := hor.tr0 hs
    replace hbz := nLT hbz (Same.size hs)
    replace hb15 := hb15.tr0 hs
    clear hs
    clear hr
    refine wl_app U37 in36 rfl dE hor hb101 rfl rfl rfl oneA dE om om hb11.lt (fun g102 cap102 w28 ho102 hs hg => ?_)
    have ne_ho102_b9 : g102 ≠ b9 := fun e => by
     have hl := hb9.lt
     rcases hg with hg | hg
     · have h1 := hor.lt g102 (by rw [hg]; exact List.mem_singleton.2 rfl)
       (try have := or_hor_b9 g102 (by rw [hg]; exact List.mem_singleton.2 rfl)); omega
     · omega
    have ne_ho102_b11 : g102 ≠ b11 := fun e => by
     have hl := hb11.lt
     rcases hg with hg | hg
     · have h1 := hor.lt g102 (by rw [hg]; exact List.mem_singleton.2 rfl)
       (try have := or_hor_b11 g102 (by rw [hg]; exact List.mem_singleton.2 rfl)); omega
     · omega
    have ne_ho102_b13 : g102 ≠ b13 := fun e => by
     have hl := hb13.lt
     rcases hg with hg | hg
     · have h1 := hor.lt g102 (by rw [hg]; exact List.mem_singleton.2 rfl)
       (try have := or_hor_b13 g102 (by rw [hg]; exact List.mem_singleton.2 rfl)); omega
     · omega
    have ne_ho102_b15 : g102 ≠ b15 := fun e => by
     have hl := hb15.lt
     rcases hg with hg | hg
     · have h1 := hor.lt g102 (by rw [hg]; exact List.mem_singleton.2 rfl)
       (try have := or_hor_b15 g102 (by rw [hg]; exact List.mem_singleton.2 rfl)); omega
     · omega
    replace hB := hB.tr hs (fun g hg => nLT om (hor.lt g hg).1)
    replace hb9 := hb9.tr hs (fun hx => by have := (hor.lt _ hx).1; (try have := or_hor_b9 _ hx); omega)
    replace hb11 := hb11.tr hs (fun hx => by have := (hor.lt _ hx).1; (try have := or_hor_b11 _ hx); omega)
    replace hb13 := hb13.tr hs (fun hx => by have := (hor.lt _ hx).1; (try have := or_hor_b13 _ hx); omega)
    replace hop := hop.tr hs (own_ne hop hor dE)
    replace hon := hon.tr hs (own_ne hon hor dE)
    replace hrw := hrw.tr hs (fun g hg => by first | exact .inl (by have := ((hor).lt g hg).1; omega) | (obtain ⟨cs, h⟩ := (hor).typ g hg; exact .inr ⟨_, _, h, by decide⟩))
    replace hbz := nLT hbz (Same.size hs)
    replace hb15 := hb15.tr hs (fun hx => by have := (hor.lt _ hx).1; (try have := or_hor_b15 _ hx); omega)
    have hor : Own w28 (b11 + 1) 36 2 (some ⟨g102, 0, none⟩) ((xs ++ [(((nd ga i).ln[q]'hql).1, (((u * gb.length + t) : Nat) : Int))])).length cap102 (lnV (lnW (addC ps (u * gb.length + t)) (xs ++ [(((nd ga i).ln[q]'hql).1, (((u * gb.length + t) : Nat) : Int))]))) := by
      rw [hxe, lnW_snoc hxm, ← lnW_add (c := (u * gb.length + t)) hxm, ← lnV_snoc, hidx]; exact ho102
    have hne13 : ∀ g ∈ aL (some ⟨g102, 0, none⟩), g ≠ b13 := fun g hg => by rw [List.mem_singleton.1 hg]; exact ne_ho102_b13
    refine wl (r_fa U39 sz37_GTgt dE rfl rfl rfl) ?_
    refine wl_st1 (v := .slice _ _ _) hb11 rfl rfl sz37_GTgt (by first | decide | simp) rfl rfl (fun w29 hq hs => ?_)
    replace hB := hB.tr1 hs lo11
    replace hb9 := hb9.tr1 hs om
    replace hb13 := hb13.tr1 hs om
    replace hop := hop.tr1 hs (fun g hg => by first | exact ownb_ne hop hb11 dE g hg | (have := or_hop_b11 g hg; omega))
    replace hon := hon.tr1 hs (fun g hg => by first | exact ownb_ne hon hb11 dE g hg | (have := or_hon_b11 g hg; omega))
    replace hrw := hrw.tr hs (fun g hg => by rw [List.mem_singleton.1 hg]; first | exact .inr ⟨_, _, hb11, by decide⟩ | exact .inl om)
    replace hbz := nLT hbz (Same.size hs)
    replace hb15 := hb15.tr1 hs om
    replace hor := hor.tr1 hs (fun g hg => by first | exact ownb_ne hor hb11 dE g hg | (have := or_hor_b11 g hg; omega))
    clear hs
    replace hb11 := hq
    rw [← hxe] at hb11
    refine x_nil (e_B (e_S (c_region (wl (r_add rfl rfl rfl om) (wmI rfl ?_)))))
    refine x_nil (e_LS ((nd gb j).ln.length - (p + 1)) om agA ?_)
    first
    | exact ⟨p + 1, addC ps (u * gb.length + t), _, _, _, _, xs ++ [(((nd ga i).ln[q]'hql).1, (((u * gb.length + t) : Nat) : Int))], by omega, rfl, rfl, sl_lenW hal, hps2, hlt2, hgz2, hin2, hxm2, hne13, hB, hb9, hb11, hb13, hop, hon, hrw, hor, hbz⟩
    | exact ⟨p + 1, ps, _, _, _, _, xs, by omega, rfl, rfl, rfl, hps, hlt, hgz, hin.no hpl hql (fun e => c64 e.symm), hxm, or_hor_b13, hB, hb9, hb11, hb13, hop, hon, hrw, hor, hbz⟩
   have hpe : p = (nd gb j).ln.length := by omega
   subst hpe
   refine c_exit (e_Sx (e_LSx (e_Bx (e_B (e_S ?_)))))
   refine c_region (wl (r_add rfl rfl rfl om) (wmI rfl (x_nil (e_LS ((nd ga i).ln.length - (q + 1)) om agA ?_))))
   exact ⟨q + 1, ps, _, _, _, _, xs, by omega, rfl, rfl, rfl, hps, hlt, hgz, hin.fin hql, hxm, hB, hb9, hb11, hop, hon, hrw, hor, hbz⟩
  have hqe : q = (nd ga i).ln.length := by omega
  have hxe : xs = pLn ga gb i j := by rw [hxq]; exact pLq_all om
  have hclo : ∀ t ∈ succN (pG l ga gb) (ps.getD k 0), t ∈ ps := fun t ht => by
    rw [hgz, hsq] at ht
    obtain ⟨y, hy, rfl⟩ := List.mem_map.1 ht
    exact hxm y (by rw [hxe]; exact hy)
  rw [← hxe] at hlnz
  have hxl : xs.length ≤ 40 := by rw [hxq]; exact nLT (pLq_len _ _ _ _ _) om
  refine c_exit (e_Sx (e_LSx (e_Bx (e_S (c_seq ?_)))))
  have hrow5 := RowO.of (lo := b22) (base := b11 + 1) (xs := lnW ps xs) om (by rw [lnW_len]; exact hor)
  rw [lnW_len] at hrow5
  obtain ⟨s5, hs5⟩ : ∃ b, b = w12.heap.size := ⟨_, rfl⟩
  rw [← hs5] at hrow5
  have hz5 : s5 ≤ w12.heap.size := Nat.le_of_eq hs5
  have hbs5 : bs ≤ s5 := by omega
  refine c_region (wmI rfl (wl (r_fa U39 sz3_GSearch dE rfl rfl rfl) ?_))
  refine wl_st1 (v := .int _ _) hb11 rfl rfl sz3_GSearch (by first | decide | simp) rfl rfl (fun w30 hq hs => ?_)
  replace hB := hB.tr1 hs lo11
  replace hb9 := hb9.tr1 hs om
  replace hop := hop.tr1 hs (fun g hg => by first | exact ownb_ne hop hb11 dE g hg | (have := or_hop_b11 g hg; omega))
  replace hon := hon.tr1 hs (fun g hg => by first | exact ownb_ne hon hb11 dE g hg | (have := or_hon_b11 g hg; omega))
  replace hrw := hrw.tr hs (fun g hg => by rw [List.mem_singleton.1 hg]; first | exact .inr ⟨_, _, hb11, by decide⟩ | exact .inl om)
  replace hbz := nLT hbz (Same.size hs)
  replace hrow5 := hrow5.tr hs (fun g hg => by rw [List.mem_singleton.1 hg]; first | exact .inr ⟨_, _, hb11, by decide⟩ | exact .inl om)
  replace hz5 := nLT hz5 (Same.size hs)
  clear hs
  replace hb11 := hq
  refine x_nil (e_S ?_)
  have or_hon_b9 := ownb_ne hon hb9 dE
  refine c_region (wl (r_fa U28 sz26_GTgt dE rfl rfl rfl) (wl (r_ld1 (v := .slice _ _ _) U26 rfl rfl (hb9.cell rfl)) (wl (r_ldS U39 rfl rfl hb11.range0 sz39_GTgt) ?_)))
  refine wl_bs (cs := #[_, _]) [(0, .agg _)] rfl U26 sz39_GTgt ze39 dE dE kR rfl (fun b111 w31 hb111 hs hr => ?_)
  have or_b9_b111 : b9 < b111 := nLL hb9.lt hr
  have or_b11_b111 : b11 < b111 := nLL hb11.lt hr
  have or_hop_b111 := (fun g hg => nLL (hop.lt g hg).2 hr)
  have or_hon_b111 := (fun g hg => nLL (hon.lt g hg).2 hr)
  have or_hbz_b111 := (nLT hbz hr)
  have or_hz5_b111 := (nLT hz5 hr)
  have lo111 := nLT (Bel.size hB) hr
  replace hB := hB.tr0 hs
  replace hb9 := hb9.tr0 hs
  replace hb11 := hb11.tr0 hs
  replace hop := hop.tr0 hs
  replace hon := hon.tr0 hs
  replace hrw := hrw.tr hs (by simp)
  replace hbz := nLT hbz (Same.size hs)
  replace hrow5 := hrow5.tr hs (by simp)
  replace hz5 := nLT hz5 (Same.size hs)
  clear hs
  clear hr
  refine wl_app U26 in39 rfl dE hon hb111 rfl rfl rfl oneA dE om om om (fun g112 cap112 w32 ho112 hs hg => ?_)
  have ne_ho112_b9 : g112 ≠ b9 := fun e => by
   have hl := hb9.lt
   rcases hg with hg | hg
   · have h1 := hon.lt g112 (by rw [hg]; exact List.mem_singleton.2 rfl)
     (try have := or_hon_b9 g112 (by rw [hg]; exact List.mem_singleton.2 rfl)); omega
   · omega
  have ne_ho112_b11 : g112 ≠ b11 := fun e => by
   have hl := hb11.lt
   rcases hg with hg | hg
   · have h1 := hon.lt g112 (by rw [hg]; exact List.mem_singleton.2 rfl)
     (try have := or_hon_b11 g112 (by rw [hg]; exact List.mem_singleton.2 rfl)); omega
   · omega
  replace hB := hB.tr hs (fun g hg => nLT om (hon.lt g hg).1)
  replace hb9 := hb9.tr hs (fun hx => by have := (hon.lt _ hx).1; (try have := or_hon_b9 _ hx); omega)
  replace hb11 := hb11.tr hs (fun hx => by have := (hon.lt _ hx).1; (try have := or_hon_b11 _ hx); omega)
  replace hop := hop.tr hs (own_ne hop hon dE)
  replace hrw := hrw.tr hs (fun g hg => by first | exact .inl (by have := ((hon).lt g hg).1; omega) | (obtain ⟨cs, h⟩ := (hon).typ g hg; exact .inr ⟨_, _, h, by decide⟩))
  replace hbz := nLT hbz (Same.size hs)
  replace hrow5 := hrow5.tr hs (fun g hg => by first | exact .inl (by have := ((hon).lt g hg).1; omega) | (obtain ⟨cs, h⟩ := (hon).typ g hg; exact .inr ⟨_, _, h, by decide⟩))
  replace hz5 := nLT hz5 (Same.size hs)
  have hon2 : Own w32 b22 39 2 (some ⟨g112, 0, none⟩) (k + 1) cap112 (ndV (fun x => .int .i64 ((x : Nat) : Int)) (fun x => if x = k then .slice AR xs.length cR else V x) (k + 1)) := by
    rw [ndV_snoc, ndV_congr (f' := fun x => .int .i64 ((x : Nat) : Int)) (h' := V) (fun x _ => rfl) (fun x hx => by rw [if_neg (show ¬ x = k from by omega)])]
    simp only [if_true]
    exact ho112
  refine wl (r_fa U28 sz26_GTgt dE rfl rfl rfl) ?_
  refine wl_st1 (v := .slice _ _ _) hb9 rfl rfl sz26_GTgt (by first | decide | simp) rfl rfl (fun w33 hq hs => ?_)
  replace hB := hB.tr1 hs lo9
  replace hb11 := hb11.tr1 hs om
  replace hop := hop.tr1 hs (fun g hg => by first | exact ownb_ne hop hb9 dE g hg | (have := or_hop_b9 g hg; omega))
  replace hrw := hrw.tr hs (fun g hg => by rw [List.mem_singleton.1 hg]; first | exact .inr ⟨_, _, hb9, by decide⟩ | exact .inl om)
  replace hbz := nLT hbz (Same.size hs)
  replace hrow5 := hrow5.tr hs (fun g hg => by rw [List.mem_singleton.1 hg]; first | exact .inr ⟨_, _, hb9, by decide⟩ | exact .inl om)
  replace hz5 := nLT hz5 (Same.size hs)
  replace hon2 := hon2.tr1 hs (fun g hg => by first | exact ownb_ne hon2 hb9 dE g hg | (have := or_hon2_b9 g hg; omega))
  clear hs
  replace hb9 := hq
  refine x_nil (e_B (e_S (c_region (wmI rfl (wl (r_add rfl rfl rfl om) ?_)))))
  refine waI rfl (x_nil (e_LS ((pG l ga gb).length - (k + 1)) om agA ?_))
  exact ⟨k + 1, ps, _, _, _, _, fun x => if x = k then .slice AR xs.length cR else V x, rfl, rfl, rfl, hps.next hlt hclo, hB, hb9, hop, hon2, (hrw.snoc hbs5 (by rw [hgz, hlnz]; exact hrow5)).up hz5⟩
 have hke : k = ps.length := by omega
 subst hke
 have hwl := WGr_len (pG l ga gb) ps
 have hfew := pG_few (l := l) (a := ga) (b := gb) (nf := fs.length) (fun i hi => by rw [nd_eq hi]; exact hva.gok.few i hi) (fun i hi x hx => by rw [nd_eq hi] at hx; have := hva.gok.ln i hi x hx; exact ⟨this.1, this.2.1⟩)
 have hwk := WGr_ok hps om hfew.1 hfew.2
 rw [← hwl] at hb9
 refine c_exit (e_Sx (e_LSx (e_Bx (e_S (c_seq ?_)))))
 have hbz22 : w5.heap.size ≤ b22 := lo22
 refine c_region (wl (r_ldS U28 rfl rfl hb9.range0 sz28) ?_)
 have lz9 := hb9.lt
 have hszc := Bel.size hB
 have hnw := hrw.nodes hon hwl.symm
 refine wl_cl fn19 (rfrom3_any AN cN fs.length (WGr (pG l ga gb) ps) 0 _ hnw hwk om (by rw [hwl]; exact hps.pos)) rfl (fun e' w34 hr => ?_)
 obtain ⟨⟨o, AF, cF, hD, hok, rfl, hgr⟩, hs⟩ := hr
 replace hs := Same.of_bel hs
 replace hB := hB.tr0 hs
 replace hb9 := hb9.tr0 hs
 replace hop := hop.tr0 hs
 replace hon := hon.tr0 hs
 replace hrw := hrw.tr hs (by simp)
 replace hbz := nLT hbz (Same.size hs)
 clear hs
 obtain ⟨zlo, hzlo⟩ : ∃ z, z = (w8).heap.size := ⟨_, rfl⟩
 obtain ⟨zhi, hzhi⟩ : ∃ z, z = w34.heap.size := ⟨_, rfl⟩
 rw [← hzlo, ← hzhi] at hgr
 rw [← hzlo] at lz9 hszc
 have hzh : zhi ≤ w34.heap.size := Nat.le_of_eq hzhi
 have hcl : (canG (WGr (pG l ga gb) ps) o).length = o.length := by simp [canG]
 have hnum := WGr_num hps
 obtain ⟨hDG, hol⟩ := hnum.dl hps.zero hps.pos hD
 have hmm : ∀ k ∈ o, ∀ t ∈ succN (WGr (pG l ga gb) ps) k, t ∈ o := fun k hk t ht => hD.clo k hk (fun hb => by cases hb) t ht
 refine ⟨_, rfl, ?_⟩
 refine wl_stW hb9 rfl rfl sz28 rfl oneA (fun w35 hq hs => ?_)
 replace hB := hB.tr1 hs lo9
 replace hop := hop.tr1 hs (fun g hg => by first | exact ownb_ne hop hb9 dE g hg | (have := or_hop_b9 g hg; omega))
 replace hgr := hgr.tr hs (fun g hg => by rw [List.mem_singleton.1 hg]; omega)
 replace hzh := nLT hzh (Same.size hs)
 clear hs
 replace hb9 := hq
 refine x_nil (e_S (c_seq (c_seq ?_)))
 have hol2 := hok.cnt
 refine c_region (wl (r_fa U28 sz26_GTgt dE rfl rfl rfl) (wl (r_ld1 (v := .slice _ _ _) U26 rfl rfl (hb9.cell rfl)) (wl (r_len U26 rfl) (wmI rfl (x_nil ?_)))))
 refine e_S (c_block ?_)
 refine c_loopS [17, 18, 19, 20, 119, 120, 121, 122, 123, 124, 125, 126, 127, 128, 129, 130, 131, 132, 133, 134, 135, 136, 137, 138, 139, 140, 141, 142, 143, 144, 145, 146, 147, 148, 149, 150, 151, 152, 153, 154, 155, 156, 157, 158, 159, 160, 161, 162, 163, 164] (fun m g w' => ∃ x : Nat, x ≤ o.length ∧ m = o.length - x ∧ g 119 = .int .i64 x ∧ Bel w5 w' ∧ Blk w' b9 28 #[.slice AF o.length cF] ∧ Own w' b22 55 2 A8 (ps).length cap8 (lnV (prL gb.length ps)) ∧ GrT w' zlo zhi AF cF (canG (WGr (pG l ga gb) ps) o) (tyW (pG l ga gb) (canG (WGr (pG l ga gb) ps) o) ps o x) ∧ zhi ≤ w'.heap.size ∧ (∀ z ∈ (o.map (fun k => ps.getD k 0)).take x, pok l ga gb z = true) ∧ x ≤ 60) (o.length) ?_ (fun m g26 w36 hI => ?_)
 ·
  exact ⟨0, Nat.zero_le _, rfl, rfl, hB, hb9, hop, by rw [tyW_zero]; exact hgr, hzh, fun z hz => by simp at hz, by omega⟩
 obtain ⟨x, hxo, hmx, h119, hB, hb9, hop, hgr, hzh, hokx, hx60⟩ := hI
 refine c_know 119 (.int .i64 x) h119 nu (c_seq (c_region (wl (r_lss rfl rfl) (x_nil (e_S ?_)))))
 refine c_seq ?_
 refine c_ifd rfl (fun c120 => ?_) (fun c120 => ?_)
 ·
  have hxl : x < o.length := by omega
  obtain ⟨gF, rfl, hgF1, hgF2⟩ := hgr.addr (k := x) (by rw [hcl]; exact hxl)
  obtain ⟨A27, m27, c27, hrg⟩ := hgr.rg (k := x) (by rw [hcl]; exact hxl)
  obtain ⟨kx, hkx⟩ : ∃ kx, o.getD x 0 = kx := ⟨_, rfl⟩
  have hkx2 : o[x] = kx := by simpa [List.getD, hxl] using hkx
  have hkxl : kx < ps.length := by rw [← hkx2]; exact hol _ (List.getElem_mem hxl)
  have hTx : tyW (pG l ga gb) (canG (WGr (pG l ga gb) ps) o) ps o x x = ((kx : Nat) : Int) := by
    unfold tyW
    rw [if_neg om, nd_canG hxl, hkx, WGr_nd hkxl]
  rw [hTx] at hrg
  refine c_skip (e_S (c_seq (c_block (c_seq (c_region ?_)))))
  refine wmI rfl (wl (r_ia (i := x) U26 sz39_GTgt rfl rfl om rfl) (wl (r_ldS U39 rfl rfl hrg sz39_GTgt) ?_))
  refine wl_al (cs := #[.int .i64 0, .slice none 0 0]) ze39 rfl (fun b18 w37 hb18 hs hr => ?_)
  have or_b9_b18 : b9 < b18 := nLL hb9.lt hr
  have or_hop_b18 := (fun g hg => nLL (hop.lt g hg).2 hr)
  have or_hzh_b18 := (nLT hzh hr)
  have lo18 := nLT (Bel.size hB) hr
  replace hB := hB.tr0 hs
  replace hb9 := hb9.tr0 hs
  replace hop := hop.tr0 hs
  replace hgr := hgr.tr hs (by simp)
  replace hzh := nLT hzh (Same.size hs)
  clear hs
  clear hr
  refine waI rfl ?_
  refine wl_stW hb18 rfl rfl sz39_GTgt rfl oneA (fun w38 hq hs => ?_)
  replace hB := hB.tr1 hs lo18
  replace hb9 := hb9.tr1 hs om
  replace hop := hop.tr1 hs (fun g hg => by first | exact ownb_ne hop hb18 dE g hg | (have := or_hop_b18 g hg; omega))
  replace hgr := hgr.tr hs (fun g hg => by rw [List.mem_singleton.1 hg]; omega)
  replace hzh := nLT hzh (Same.size hs)
  clear hs
  replace hb18 := hq
  refine x_nil (e_S (c_seq (c_seq (c_region (wmI rfl ?_)))))
  refine wl (r_eql rfl rfl) (x_nil (e_S ?_))
  refine c_ifd rfl (fun c125 => ?_) (fun c125 => ?_)
  ·
   have hx60e : x = 60 := by omega
   have hgl := genS_lim (ok := pok l ga gb) (o := (o.map (fun k => ps.getD k 0))) (by rw [List.length_map]; omega) (by rw [← hx60e]; exact hokx)
   refine c_seq ?_
   have hb6 := hb6c.bel hB
   have hb7 := hb7c.bel hB
   replace hB := bel_trans hB0 hB
   have l6 := hb6c.lt
   have l7 := hb7c.lt
   refine c_region (wl (r_bd (vs := #[]) (cs := #[.slice none 0 0]) (by simp) kR) (wl (r_bd2 (v0 := .int _ _) (v1 := .int _ _) (fun v0 v1 => #[v0, v1]) rfl rfl kR) ?_))
   refine wl_stW hb6 rfl rfl sz28 rfl oneA (fun w39 hq hs => ?_)
   replace hB := hB.tr1 hs lo6
   replace hb9 := hb9.tr1 hs om
   replace hzh := nLT hzh (Same.size hs)
   replace hb7 := hb7.tr1 hs om
   clear hs
   replace hb6 := hq
   refine wl_stW hb7 rfl rfl sz30 rfl oneA (fun w40 hq hs => ?_)
   replace hB := hB.tr1 hs lo7
   replace hb9 := hb9.tr1 hs om
   replace hzh := nLT hzh (Same.size hs)
   replace hb6 := hb6.tr1 hs om
   clear hs
   replace hb7 := hq
   refine x_nil (e_S (c_ret (e_Sr (e_Br (e_Sr ?_)))))
   refine e_LSr (e_Br (e_Sr (fin2 (.inl rfl) rfl (rr_cell U28 rfl rfl hb6.range0 sz28) (rr_cell U30 rfl rfl hb7.range0 sz30) ?_)))
   exact ⟨⟨none, [], 0, (17, -1), rfl, fun w2 _ => nodes_nil w2 none, .inr ⟨h0, _, hDG, hgl.symm, .inl ⟨by decide, rfl⟩⟩⟩, hB⟩
  refine c_skip (e_S (c_seq ?_))
  obtain ⟨q9, rfl⟩ := pr_addr hop om
  obtain ⟨z, hgz⟩ : ∃ z, ps.getD kx 0 = z := ⟨_, rfl⟩
  have hzl : z < (pG l ga gb).length := by rw [← hgz]; exact hps.lt _ (by simp [List.getD, hkxl])
  have hzd := dec_lt (by rw [← hGl]; exact hzl)
  obtain ⟨i, hi⟩ : ∃ i, z / gb.length = i := ⟨_, rfl⟩
  obtain ⟨j, hj⟩ : ∃ j, z % gb.length = j := ⟨_, rfl⟩
  have hil : i < ga.length := by rw [← hi]; exact hzd.1
  have hjl : j < gb.length := by rw [← hj]; exact hzd.2
  have hzij : z = i * gb.length + j := by rw [← hi, ← hj, Nat.mul_comm]; exact (Nat.div_add_mod z gb.length).symm
  obtain ⟨_, _, htyz, hpkz⟩ := pG_succ (l := l) hil hjl
  rw [← hzij] at htyz hpkz
  obtain ⟨LA, lc, hpr, _⟩ := hpa i hil
  obtain ⟨LB, lcb, hprb, _⟩ := hpb j hjl
  have hta0 := hva.gx.tr i hil
  have htb0 := hvb.gx.tr j hjl
  obtain ⟨ta, hta⟩ : ∃ t : Nat, (nd ga i).ty = (t : Int) := ⟨((nd ga i).ty).toNat, by omega⟩
  obtain ⟨tb, htb⟩ : ∃ t : Nat, (nd gb j).ty = (t : Int) := ⟨((nd gb j).ty).toNat, by omega⟩
  have htal : ta < l.length := by omega
  have htbl : tb < l.length := by omega
  rw [hta] at hpr
  rw [htb] at hprb
  rw [hta, htb, Int.toNat_natCast, Int.toNat_natCast] at htyz hpkz
  obtain ⟨J, hJ⟩ : ∃ J, J = joinsK l ta tb l.length := ⟨_, rfl⟩
  have hOGx : (o.map (fun k => ps.getD k 0))[x]'(by rw [List.length_map]; exact hxl) = z := by rw [List.getElem_map, hkx2]; exact hgz
  have hzr : w38.rangeAt q9 (0 + kx * 2) [.int .i64 ((i : Nat) : Int), .int .i64 ((j : Nat) : Int)] := by
    have h := pr_range hop hkxl
    rw [hgz, hi, hj] at h
    exact h
  refine c_region (wmS rfl (wl (r_fa U39 sz3_GSearch dE rfl rfl rfl) (wl (r_ld1 (v := .int _ _) U3 rfl rfl (hb18.cell rfl)) (wl (r_ia (i := kx) U64 sz55 rfl rfl hkxl rfl) (wl (r_ldS U55 rfl rfl hzr sz55) ?_)))))
  refine wl_al (cs := #[.int .i64 0, .int .i64 0]) ze55 rfl (fun b19 w41 hb19 hs hr => ?_)
  have or_b9_b19 : b9 < b19 := nLL hb9.lt hr
  have or_hop_b19 := (fun g hg => nLL (hop.lt g hg).2 hr)
  have or_hzh_b19 := (nLT hzh hr)
  have or_b18_b19 : b18 < b19 := nLL hb18.lt hr
  have lo19 := nLT (Bel.size hB) hr
  replace hB := hB.tr0 hs
  replace hb9 := hb9.tr0 hs
  replace hop := hop.tr0 hs
  replace hgr := hgr.tr hs (by simp)
  replace hzh := nLT hzh (Same.size hs)
  replace hb18 := hb18.tr0 hs
  clear hs
  clear hr
  refine wl_stW hb19 rfl rfl sz55 rfl oneA (fun w42 hq hs => ?_)
  replace hB := hB.tr1 hs lo19
  replace hb9 := hb9.tr1 hs om
  replace hop := hop.tr1 hs (fun g hg => by first | exact ownb_ne hop hb19 dE g hg | (have := or_hop_b19 g hg; omega))
  replace hgr := hgr.tr hs (fun g hg => by rw [List.mem_singleton.1 hg]; omega)
  replace hzh := nLT hzh (Same.size hs)
  replace hb18 := hb18.tr1 hs om
  clear hs
  replace hb19 := hq
  refine x_nil (e_S (c_seq ?_))
  have hb3 := hb3c.bel hB
  have hb4 := hb4c.bel hB
  have hb5 := hb5c.bel hB
  refine c_monoTO 18 [133, 134, 135, 136, 137, 138, 139, 140, 141, 142, 143, 144, 145, 146, 147, 148, 149, 20] (fun _ => false) (fun ix v wv => match ix with | 0 => v = .pointer (some ⟨b3, 0, none⟩) | 1 => v = .slice A l.length c | 2 => v = .pointer (some ⟨b4, 0, none⟩) | 3 => v = .slice (some ⟨pa, oa, none⟩) ga.length c1 | 4 => v = .pointer (some ⟨b19, 0, none⟩) | 5 => v = .int .i64 ((i : Nat) : Int) | 6 => v = .pointer (some ⟨pa, oa + i * 2, none⟩) | 7 => v = .pointer (some ⟨pa, oa + i * 2 + 0, none⟩) | 8 => v = .int .i64 ((ta : Nat) : Int) | 9 => v = .pointer (some ⟨b5, 0, none⟩) | 10 => v = .slice (some ⟨pb, ob, none⟩) gb.length c2 | 11 => v = .pointer (some ⟨b19, 1, none⟩) | 12 => v = .int .i64 ((j : Nat) : Int) | 13 => v = .pointer (some ⟨pb, ob + j * 2, none⟩) | 14 => v = .pointer (some ⟨pb, ob + j * 2 + 0, none⟩) | 15 => v = .int .i64 ((tb : Nat) : Int) | 16 => ∃ (AJ : Option Addr) (capJ : Nat), v = .slice AJ J.length capJ ∧ Own wv zhi 3 1 AJ J.length capJ (J.map (Value.int .i64)) | 17 => ∃ (AJ : Option Addr) (capJ : Nat), v = .slice AJ J.length capJ ∧ Own wv zhi 3 1 AJ J.length capJ (J.map (Value.int .i64)) | _ => True) kR kR ?_ ?_ ?_
  ·
   intro ix v wv wv2 h hs
   match ix, h with
   | 0, h => exact h
   | 1, h => exact h
   | 2, h => exact h
   | 3, h => exact h
   | 4, h => exact h
   | 5, h => exact h
   | 6, h => exact h
   | 7, h => exact h
   | 8, h => exact h
   | 9, h => exact h
   | 10, h => exact h
   | 11, h => exact h
   | 12, h => exact h
   | 13, h => exact h
   | 14, h => exact h
   | 15, h => exact h
   | 16, h =>
    obtain ⟨AJ, capJ, e149, hoJ⟩ := (show ∃ (AJ : Option Addr) (capJ : Nat), v = .slice AJ J.length capJ ∧ Own wv zhi 3 1 AJ J.length capJ (J.map (Value.int .i64)) from h)
    exact ⟨AJ, capJ, e149, hoJ.tr0 hs⟩
   | 17, h =>
    obtain ⟨AJ, capJ, e20, hoJ⟩ := (show ∃ (AJ : Option Addr) (capJ : Nat), v = .slice AJ J.length capJ ∧ Own wv zhi 3 1 AJ J.length capJ (J.map (Value.int .i64)) from h)
    exact ⟨AJ, capJ, e20, hoJ.tr0 hs⟩
   | _ + 18, h => exact trivial
  ·
   intro ix o hix hoq gg wx hs hd hdis
   match ix, hix, hoq with
   | 0, _, hoq =>
    obtain rfl := sI hoq
    have hs0 := hs
    replace hb3 := hb3.tr0 hs
    clear hs
    refine os_rv (r_fa U25 sz22_GLoose dE rfl rfl rfl) ⟨Same.refl _ _, ?_, frsh_no⟩
    exact rfl
   | 1, _, hoq =>
    obtain rfl := sI hoq
    have hs0 := hs
    replace hb3 := hb3.tr0 hs
    clear hs
    have d0 : gg 133 = .pointer (some ⟨b3, 0, none⟩) := hd 0 (dep_of kR)
    have e133 := d0
    refine os_know 133 (.pointer (some ⟨b3, 0, none⟩)) e133 nu ?_
    refine os_rv (r_ld1 (v := .slice _ _ _) U22 rfl rfl (hb3.cell rfl)) ⟨Same.refl _ _, ?_, frsh_no⟩
    exact rfl
   | 2, _, hoq =>
    obtain rfl := sI hoq
    have hs0 := hs
    replace hb4 := hb4.tr0 hs
    clear hs
    refine os_rv (r_fa U28 sz26_GTgt dE rfl rfl rfl) ⟨Same.refl _ _, ?_, frsh_no⟩
    exact rfl
   | 3, _, hoq =>
    obtain rfl := sI hoq
    have hs0 := hs
    replace hb4 := hb4.tr0 hs
    clear hs
    have d2 : gg 135 = .pointer (some ⟨b4, 0, none⟩) := hd 2 (dep_of kR)
    have e135 := d2
    refine os_know 135 (.pointer (some ⟨b4, 0, none⟩)) e135 nu ?_
    refine os_rv (r_ld1 (v := .slice _ _ _) U26 rfl rfl (hb4.cell rfl)) ⟨Same.refl _ _, ?_, frsh_no⟩
    exact rfl
   | 4, _, hoq =>
    obtain rfl := sI hoq
    have hs0 := hs
    replace hb19 := hb19.tr0 hs
    clear hs
    refine os_rv (r_iaA (i := 0) U55 sz3_GSearch rfl rfl om rfl) ⟨Same.refl _ _, ?_, frsh_no⟩
    exact rfl
   | 5, _, hoq =>
    obtain rfl := sI hoq
    have hs0 := hs
    replace hb19 := hb19.tr0 hs
    clear hs
    have d4 : gg 137 = .pointer (some ⟨b19, 0, none⟩) := hd 4 (dep_of kR)
    have e137 := d4
    refine os_know 137 (.pointer (some ⟨b19, 0, none⟩)) e137 nu ?_
    refine os_rv (r_ld1 (v := .int _ _) U3 rfl rfl (hb19.cell rfl)) ⟨Same.refl _ _, ?_, frsh_no⟩
    exact rfl
   | 6, _, hoq =>
    obtain rfl := sI hoq
    have hs0 := hs
    clear hs
    have d3 : gg 136 = .slice (some ⟨pa, oa, none⟩) ga.length c1 := hd 3 (dep_of kR)
    have e136 := d3
    have d5 : gg 138 = .int .i64 ((i : Nat) : Int) := hd 5 (dep_of kR)
    have e138 := d5
    refine os_know 136 (.slice (some ⟨pa, oa, none⟩) ga.length c1) e136 nu (os_know 138 (.int .i64 ((i : Nat) : Int)) e138 nu ?_)
    refine os_rv (r_ia (i := i) U26 sz39_GTgt rfl rfl hil rfl) ⟨Same.refl _ _, ?_, frsh_no⟩
    exact rfl
   | 7, _, hoq =>
    obtain rfl := sI hoq
    have hs0 := hs
    clear hs
    have d6 : gg 139 = .pointer (some ⟨pa, oa + i * 2, none⟩) := hd 6 (dep_of kR)
    have e139 := d6
    refine os_know 139 (.pointer (some ⟨pa, oa + i * 2, none⟩)) e139 nu ?_
    refine os_rv (r_fa U39 sz3_GSearch dE rfl rfl rfl) ⟨Same.refl _ _, ?_, frsh_no⟩
    exact rfl
   | 8, _, hoq =>
    obtain rfl := sI hoq
    have hs0 := hs
    replace hB := hB.tr0 hs
    clear hs
    have d7 : gg 140 = .pointer (some ⟨pa, oa + i * 2 + 0, none⟩) := hd 7 (dep_of kR)
    have e140 := d7
    refine os_know 140 (.pointer (some ⟨pa, oa + i * 2 + 0, none⟩)) e140 nu ?_
    refine os_rv (r_ld1 (v := .int _ _) U3 rfl rfl (hB.cell hpal (hpr 0 _ rfl))) ⟨Same.refl _ _, ?_, frsh_no⟩
    exact rfl
   | 9, _, hoq =>
    obtain rfl := sI hoq
    have hs0 := hs
    replace hb5 := hb5.tr0 hs
    clear hs
    refine os_rv (r_fa U28 sz26_GTgt dE rfl rfl rfl) ⟨Same.refl _ _, ?_, frsh_no⟩
    exact rfl
   | 10, _, hoq =>
    obtain rfl := sI hoq
    have hs0 := hs
    replace hb5 := hb5.tr0 hs
    clear hs
    have d9 : gg 142 = .pointer (some ⟨b5, 0, none⟩) := hd 9 (dep_of kR)
    have e142 := d9
    refine os_know 142 (.pointer (some ⟨b5, 0, none⟩)) e142 nu ?_
    refine os_rv (r_ld1 (v := .slice _ _ _) U26 rfl rfl (hb5.cell rfl)) ⟨Same.refl _ _, ?_, frsh_no⟩
    exact rfl
   | 11, _, hoq =>
    obtain rfl := sI hoq
    have hs0 := hs
    replace hb19 := hb19.tr0 hs
    clear hs
    refine os_rv (r_iaA (i := 1) U55 sz3_GSearch rfl rfl om rfl) ⟨Same.refl _ _, ?_, frsh_no⟩
    exact rfl
   | 12, _, hoq =>
    obtain rfl := sI hoq
    have hs0 := hs
    replace hb19 := hb19.tr0 hs
    clear hs
    have d11 : gg 144 = .pointer (some ⟨b19, 1, none⟩) := hd 11 (dep_of kR)
    have e144 := d11
    refine os_know 144 (.pointer (some ⟨b19, 1, none⟩)) e144 nu ?_
    refine os_rv (r_ld1 (v := .int _ _) U3 rfl rfl (hb19.cell rfl)) ⟨Same.refl _ _, ?_, frsh_no⟩
    exact rfl
   | 13, _, hoq =>
    obtain rfl := sI hoq
    have hs0 := hs
    clear hs
    have d10 : gg 143 = .slice (some ⟨pb, ob, none⟩) gb.length c2 := hd 10 (dep_of kR)
    have e143 := d10
    have d12 : gg 145 = .int .i64 ((j : Nat) : Int) := hd 12 (dep_of kR)
    have e145 := d12
    refine os_know 143 (.slice (some ⟨pb, ob, none⟩) gb.length c2) e143 nu (os_know 145 (.int .i64 ((j : Nat) : Int)) e145 nu ?_)
    refine os_rv (r_ia (i := j) U26 sz39_GTgt rfl rfl hjl rfl) ⟨Same.refl _ _, ?_, frsh_no⟩
    exact rfl
   | 14, _, hoq =>
    obtain rfl := sI hoq
    have hs0 := hs
    clear hs
    have d13 : gg 146 = .pointer (some ⟨pb, ob + j * 2, none⟩) := hd 13 (dep_of kR)
    have e146 := d13
    refine os_know 146 (.pointer (some ⟨pb, ob + j * 2, none⟩)) e146 nu ?_
    refine os_rv (r_fa U39 sz3_GSearch dE rfl rfl rfl) ⟨Same.refl _ _, ?_, frsh_no⟩
    exact rfl
   | 15, _, hoq =>
    obtain rfl := sI hoq
    have hs0 := hs
    replace hB := hB.tr0 hs
    clear hs
    have d14 : gg 147 = .pointer (some ⟨pb, ob + j * 2 + 0, none⟩) := hd 14 (dep_of kR)
    have e147 := d14
    refine os_know 147 (.pointer (some ⟨pb, ob + j * 2 + 0, none⟩)) e147 nu ?_
    refine os_rv (r_ld1 (v := .int _ _) U3 rfl rfl (hB.cell hpbl (hprb 0 _ rfl))) ⟨Same.refl _ _, ?_, frsh_no⟩
    exact rfl
   | 16, _, hoq =>
    obtain rfl := sI hoq
    have hs0 := hs
    replace hB := hB.tr0 hs
    replace hzh := nLT hzh (Same.size hs)
    clear hs
    have d1 : gg 134 = .slice A l.length c := hd 1 (dep_of kR)
    have e134 := d1
    have d8 : gg 141 = .int .i64 ((ta : Nat) : Int) := hd 8 (dep_of kR)
    have e141 := d8
    have d15 : gg 148 = .int .i64 ((tb : Nat) : Int) := hd 15 (dep_of kR)
    have e148 := d15
    refine os_know 134 (.slice A l.length c) e134 nu (os_know 141 (.int .i64 ((ta : Nat) : Int)) e141 nu (os_know 148 (.int .i64 ((tb : Nat) : Int)) e148 nu ?_))
    refine os_cl fn20 ((hJ ▸ sjoins_any A c l ta tb wx (hT.mono hB) hva.s.vt hva.s.le htal htbl)) rfl (fun e' w2 hr => ?_)
    obtain ⟨⟨AJ, capJ, rfl, hoJ⟩, hs⟩ := hr
    exact ⟨_, rfl, Same.of_bel hs, ⟨_, _, rfl, hoJ.low hzh⟩, frsh_no⟩
   | 17, _, hoq =>
    obtain rfl := sI hoq
    have hs0 := hs
    clear hs
    have d16 : ∃ (AJ : Option Addr) (capJ : Nat), gg 149 = .slice AJ J.length capJ ∧ Own wx zhi 3 1 AJ J.length capJ (J.map (Value.int .i64)) := hd 16 (dep_of kR)
    obtain ⟨AJ, capJ, e149, hoJ⟩ := d16
    refine os_know 149 (.slice AJ J.length capJ) e149 nu ?_
    refine os_rv (r_as (v := .slice _ _ _) rfl) ⟨Same.refl _ _, ?_, frsh_no⟩
    exact ⟨_, _, rfl, hoJ⟩
   | _ + 18, hix, _ => exact absurd hix om
  intro gg w43 hs hR hdis
  have hs0 := hs
  replace hB := hB.tr0 hs
  replace hb9 := hb9.tr0 hs
  replace hop := hop.tr0 hs
  replace hgr := hgr.tr hs (by simp)
  replace hzh := nLT hzh (Same.size hs)
  replace hb18 := hb18.tr0 hs
  replace hb19 := hb19.tr0 hs
  replace hb3 := hb3.tr0 hs
  replace hb4 := hb4.tr0 hs
  replace hb5 := hb5.tr0 hs
  clear hs
  have d17 : ∃ (AJ : Option Addr) (capJ : Nat), gg 20 = .slice AJ J.length capJ ∧ Own w43 zhi 3 1 AJ J.length capJ (J.map (Value.int .i64)) := hR 17 dE
  obtain ⟨AJ, capJ, e20, hoJ⟩ := d17
  refine wl_know 20 (.slice AJ J.length capJ) e20 nu (x_nil (e_S (c_seq (c_seq (c_region ?_)))))
  refine wmS rfl (wl (r_len U56 rfl) (wl (r_neq rfl rfl) (x_nil (e_S ?_))))
  refine c_ifd rfl (fun c152 => ?_) (fun c152 => ?_)
  ·
   have hpn : pok l ga gb z = false := by
     rw [hpkz]; unfold jok; rw [← hJ]; exact decide_eq_false om
   have hgb := genS_bad (ok := pok l ga gb) (o := (o.map (fun k => ps.getD k 0))) (k := x) (by rw [List.length_map]; exact hxl) om hokx (by rw [hOGx]; exact hpn)
   refine c_seq ?_
   have hb6 := hb6c.bel hB
   have hb7 := hb7c.bel hB
   replace hB := bel_trans hB0 hB
   have l6 := hb6c.lt
   have l7 := hb7c.lt
   refine c_region (wl (r_bd (vs := #[]) (cs := #[.slice none 0 0]) (by simp) kR) (wmI rfl (wl (r_bd2 (v0 := .int _ _) (v1 := .int _ _) (fun v0 v1 => #[v0, v1]) rfl rfl kR) ?_)))
   refine wl_stW hb6 rfl rfl sz28 rfl oneA (fun w44 hq hs => ?_)
   replace hB := hB.tr1 hs lo6
   replace hzh := nLT hzh (Same.size hs)
   replace hb7 := hb7.tr1 hs om
   clear hs
   replace hb6 := hq
   refine wl_stW hb7 rfl rfl sz30 rfl oneA (fun w45 hq hs => ?_)
   replace hB := hB.tr1 hs lo7
   replace hzh := nLT hzh (Same.size hs)
   replace hb6 := hb6.tr1 hs om
   clear hs
   replace hb7 := hq
   refine x_nil (e_S (c_ret (e_Sr (e_Br (e_Sr ?_)))))
   refine e_LSr (e_Br (e_Sr (fin2 (.inl rfl) rfl (rr_cell U28 rfl rfl hb6.range0 sz28) (rr_cell U30 rfl rfl hb7.range0 sz30) ?_)))
   exact ⟨⟨none, [], 0, (16, (x : Int)), rfl, fun w2 _ => nodes_nil w2 none, .inr ⟨h0, _, hDG, hgb.symm, .inl ⟨by show ¬ (16 : Int) = 0; decide, rfl⟩⟩⟩, hB⟩
  have hj1 : J.length = 1 := by omega
  have hpy : pok l ga gb z = true := by
    rw [hpkz]; unfold jok; rw [← hJ]; exact decide_eq_true hj1
  have hjv : J = [jnV l ta tb] := by
    rw [hJ]; exact jn_one (by rw [← hpkz]; exact hpy)
  have hok1 := take_ok (ok := pok l ga gb) (o := (o.map (fun k => ps.getD k 0))) (k := x) (by rw [List.length_map]; exact hxl) hokx (by rw [hOGx]; exact hpy)
  refine c_skip (e_S ?_)
  obtain ⟨gJ, rfl, _, _, _⟩ := hoJ.cell (by rw [hjv]; simp)
  obtain ⟨VF, gA, curA, eA, hgA1, hgA2, hbA, hszA, _, _, hrwA, hclA⟩ := hgr.open_ (k := x) (by rw [hcl]; exact hxl)
  cases eA
  rw [hcl] at hszA
  refine c_tail 8 kR kR (fun w46 hs => ?_)
  replace hB := hB.tr0 hs
  replace hb9 := hb9.tr0 hs
  replace hop := hop.tr0 hs
  replace hzh := nLT hzh (Same.size hs)
  replace hoJ := hoJ.tr0 hs
  replace hbA := hbA.tr0 hs
  replace hrwA := fun x hx => (hrwA x hx).tr hs (by simp)
  clear hs
  refine ws (r_fa U28 sz26_GTgt dE rfl rfl rfl) (ws (r_ld1 (v := .slice _ _ _) U26 rfl rfl (hb9.cell rfl)) (ws (r_mv (v := .int _ _) rfl) (ws (r_mv (v := .slice _ _ _) rfl) (ws (r_ia (i := 0) U56 sz3_GSearch rfl rfl om rfl) (ws (r_ld1 (v := .int _ _) U3 rfl rfl (own_head hoJ hjv)) ?_)))))
  refine ws (r_ia (i := x) U26 sz39_GTgt rfl rfl om rfl) (ws (r_fa U39 sz3_GSearch dE rfl rfl rfl) (s_tail ?_))
  refine wl_st1 (v := .int _ _) hbA rfl rfl sz3_GSearch (by show 0 + x * 2 + 0 < curA.size; omega) rfl rfl (fun w47 hq hs => ?_)
  replace hB := hB.tr1 hs om
  replace hb9 := hb9.tr1 hs om
  replace hop := hop.tr1 hs (fun g hg => by first | exact ownb_ne hop hbA dE g hg | (have := or_hop_gF g hg; omega))
  replace hzh := nLT hzh (Same.size hs)
  replace hoJ := hoJ.tr1 hs (fun g hg => by have := (hoJ.lt g hg).1; omega)
  replace hrwA := fun x hx => (hrwA x hx).tr hs (fun g hg => by rw [List.mem_singleton.1 hg]; exact .inr ⟨_, _, hbA, by decide⟩)
  clear hs
  replace hbA := hq
  have hgr := (hclA _ _ hbA hrwA).congr (fun y _ => tyW_succ (G := (pG l ga gb)) (C := (canG (WGr (pG l ga gb) ps) o)) (ps := ps) (o := o) (x := x) (by rw [hkx, hgz]; exact htyz.symm) y)
  refine x_nil (e_B (e_S (c_region (wl (r_add rfl rfl rfl om) (wmI rfl ?_)))))
  refine x_nil (e_LS (o.length - (x + 1)) om agA ?_)
  exact ⟨x + 1, by omega, rfl, rfl, hB, hb9, hop, hgr, hzh, hok1, by omega⟩
 have hxe : x = o.length := by omega
 subst hxe
 refine c_exit (e_Sx (e_LSx (e_Bx (e_S (c_seq ?_)))))
 have hb6 := hb6c.bel hB
 have hb7 := hb7c.bel hB
 replace hB := bel_trans hB0 hB
 have l6 := hb6c.lt
 have l7 := hb7c.lt
 refine c_region (wl (r_ldS U28 rfl rfl hb9.range0 sz28) (wl (r_bd (vs := #[]) (cs := #[.int .i64 0, .int .i64 0]) (by simp) kR) ?_))
 refine wl_stW hb6 rfl rfl sz28 rfl oneA (fun w48 hq hs => ?_)
 replace hB := hB.tr1 hs lo6
 replace hb9 := hb9.tr1 hs om
 replace hgr := hgr.tr hs (fun g hg => by rw [List.mem_singleton.1 hg]; omega)
 replace hzh := nLT hzh (Same.size hs)
 replace hb7 := hb7.tr1 hs om
 clear hs
 replace hb6 := hq
 refine wl_stW hb7 rfl rfl sz30 rfl oneA (fun w49 hq hs => ?_)
 replace hB := hB.tr1 hs lo7
 replace hb9 := hb9.tr1 hs om
 replace hgr := hgr.tr hs (fun g hg => by rw [List.mem_singleton.1 hg]; omega)
 replace hzh := nLT hzh (Same.size hs)
 replace hb6 := hb6.tr1 hs om
 clear hs
 replace hb7 := hq
 refine x_nil (e_S (c_ret (fin2 (.inl rfl) rfl (rr_cell U28 rfl rfl hb6.range0 sz28) (rr_cell U30 rfl rfl hb7.range0 sz30) ?_)))
 have hcl2 : (canG (pG l ga gb) (o.map (fun k => ps.getD k 0))).length = o.length := by simp [canG]
 refine ⟨⟨AF, canG (pG l ga gb) (o.map (fun k => ps.getD k 0)), cF, (0, 0), by rw [hcl2], fun w2 hf => ?_, .inr ⟨h0, _, hDG, (genS_all0 (ok := pok l ga gb) (by rw [List.length_map]; omega) (fun z hz => hokx z (by rw [List.take_of_length_le (by rw [List.length_map]; exact Nat.le_refl _)]; exact hz))).symm, .inr ⟨rfl, rfl⟩⟩⟩, hB⟩
 have hh := ((hgr.low (show w.heap.size ≤ zlo by omega)).fr hf).nodes
 rw [WGr_fin hps hol hmm] at hh
 exact hh
end Go.Proofs.YteenmolhopbpeaaDoor
