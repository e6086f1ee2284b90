/- What these functions of the program compute, at every world: glosswright/hierarchy.Text. What these functions of the program compute, at every world: glosswright/graph.From$1. The canonical form of a valid graph is valid, and its own canonical form. No program in sight. What these functions of the program compute, at every world: slices.Equal[[]glosswright/api.Link,glosswright/api.Link], glosswright/glosswrightequal.Nodes. What these functions of the program compute, at every world: . -/
import Derived.Test.YtegngekpmpdngaaDoorU
import Derived.Test.YtegngekpmpdngaaDoorShf
import Derived.Test.YtegngekpmpdngaaDoorNIeq
import Derived.Test.YtegngekpmpdngaaDoorGro
namespace Go.Proofs.YtegngekpmpdngaaDoor
open Go.RowKit
theorem cells_nl (a : List UInt8) : Lib.byteCells a ++ [Value.int .u8 10] = Lib.byteCells (a ++ [10]) := by simp [Lib.byteCells]
theorem bcl (a : List UInt8) : (Lib.byteCells a).length = a.length := Lib.byteCells_length a
theorem ad5 {s : ByteArray} (h : (bl s).length ≤ 30) : (⟨#[116, 121, 112, 101, 32]⟩ : ByteArray).size + s.size ≤ 9223372036854775807 := by
  rw [← bl_size s]; show 5 + _ ≤ _; omega
theorem ad1 {s : ByteArray} (h : (bl s).length ≤ 30) : (⟨#[32]⟩ : ByteArray).size + s.size ≤ 9223372036854775807 := by
  rw [← bl_size s]; show 1 + _ ≤ _; omega
theorem adG {p q : ByteArray} {a b : Nat} (h : p.size ≤ a) (k : q.size ≤ b) (hab : a + b ≤ 9223372036854775807) : p.size + q.size ≤ 9223372036854775807 := by omega
theorem lb0 {l : List Ty} {x : List UInt8} {ps : List Int} : lineB TYb (x :: (ps.take 0).map (nmI l)) = bl ⟨#[116, 121, 112, 101, 32]⟩ ++ x := by
  show TYb ++ ((32 :: x) ++ []) = _
  rw [List.append_nil]
  rfl
theorem app_sz (p q : ByteArray) : (p ++ q).size = p.size + q.size := by rw [← bl_size, bl_app, List.length_append, bl_size, bl_size]
theorem apl {p q : ByteArray} {a b : Nat} (h : p.size ≤ a) (k : q.size ≤ b) : (p ++ q).size ≤ a + b := by rw [app_sz]; omega
theorem sz_le {s : ByteArray} (h : (bl s).length ≤ 30) : s.size ≤ 30 := by rw [← bl_size]; exact h
theorem t5_sz : (⟨#[116, 121, 112, 101, 32]⟩ : ByteArray).size = 5 := rfl
theorem s1_sz : (⟨#[32]⟩ : ByteArray).size = 1 := rfl
theorem bel_belowH {w0 w w' : World} {B : Nat} (h : Bel w0 w) (k : Below B w w') (hl : w0.heap.size ≤ B) : Bel w0 w' :=
  ⟨k.os.trans h.os, k.tape.trans h.tape, k.output.trans h.output, nLT h.size k.size, fun i hi => (k.block i (nLL hi hl)).trans (h.block i hi)⟩
theorem fn89_HTxt : callable Tryd.prog 89 = true := by kernel_rfl
theorem fn90_HTxt : callable Tryd.prog 90 = true := by kernel_rfl
theorem fn91_HTxt : callable Tryd.prog 91 = true := by kernel_rfl
theorem sz43_HTxt : (Tryd.prog.info? 43).map (·.size) = some 1 := by kernel_rfl
theorem sz77_HTxt : (Tryd.prog.info? 77).map (·.size) = some 2 := by kernel_rfl
theorem sz9_HTxt : (Tryd.prog.info? 9).map (·.size) = some 1 := by kernel_rfl
theorem ze131_HTxt : (Tryd.prog.info? 131).map (·.zero) = some (some (.agg #[.pointer none, .slice none 0 0])) := by kernel_rfl
theorem ze77_HTxt : (Tryd.prog.info? 77).map (·.zero) = some (some (.agg #[.string ⟨#[]⟩, .slice none 0 0])) := by kernel_rfl
set_option maxRecDepth 100000 in
set_option maxHeartbeats 4000000 in
theorem htext_any (A B : Option Addr) (c d : Nat) (l : List Ty) (fs : List Ft) (w : World) (hT : TypesIn w A l) (hF : FeatsIn w B fs) (hv : HV l fs) : Calls Tryd.prog 60 #[.agg #[.slice A l.length c, .slice B fs.length d]] w fun e w' => e = .returned (.string (mkS (htx l fs))) ∧ Bel w w' := by
 have h60 := hv.le
 have h40 := hv.few
 refine enter Tryd.func60 Tryd.ntmps60 rfl (Nat.le_of_ble_eq_true rfl) ?_
 have hB : Bel w w := Below.refl _ _
 refine c_seq (c_region ?_)
 refine wl_bx (v := .agg #[_, _]) (cs := #[_, _]) rfl rfl (fun b1 w1 hb1 hs hr => ?_)
 have lo1 := nLT (Bel.size hB) hr
 replace hB := hB.tr0 hs
 clear hs
 clear hr
 refine wl (r_as (v := .string _) rfl) (x_nil (e_S (c_seq (c_region ?_))))
 refine wl_al (cs := #[.pointer none, .slice none 0 0]) ze131_HTxt rfl (fun b3 w2 hb3 hs hr => ?_)
 have or_b1_b3 : b1 < b3 := nLL hb1.lt hr
 have lo3 := nLT (Bel.size hB) hr
 replace hB := hB.tr0 hs
 replace hb1 := hb1.tr0 hs
 clear hs
 clear hr
 refine x_nil (e_S (c_seq (c_seq ?_)))
 have hbd : BldI w2 w.heap.size b3 (Lib.byteCells ([])) := BldI.new hb3 lo3
 refine c_region (wl (r_fa U25 sz22_GLoose dE rfl rfl rfl) (wl (r_ld1 (v := .slice _ _ _) U22 rfl rfl (hb1.cell rfl)) (wl (r_len U22 rfl) (wmI rfl (x_nil ?_)))))
 refine e_S (c_block ?_)
 refine c_loopS [5, 7, 13, 14, 15, 16, 17, 18, 19, 20, 21, 22, 23, 24, 25, 26, 27, 28, 29, 30, 31, 32, 33, 34, 35, 36, 37, 38] (fun m g w' => ∃ k : Nat, k ≤ l.length ∧ m = l.length - k ∧ g 13 = .int .i64 k ∧ Bel w w' ∧ Blk w' b1 25 #[.slice A l.length c, .slice B fs.length d] ∧ BldI w' w.heap.size b3 (Lib.byteCells (tyX l k))) (l.length) ?_ (fun m g3 w3 hI => ?_)
 ·
  exact ⟨0, Nat.zero_le _, rfl, rfl, hB, hb1, hbd⟩
 obtain ⟨k, hk, hm, h13, hB, hb1, hbd⟩ := hI
 refine c_know 13 (.int .i64 k) h13 nu (c_seq (c_region (wl (r_lss rfl rfl) (x_nil (e_S ?_)))))
 refine c_seq ?_
 refine c_ifd rfl (fun c14 => ?_) (fun c14 => ?_)
 ·
  have hlt : k < l.length := by omega
  obtain ⟨lb, lof, PA, pcap, rfl, hlb, hlr, hpi⟩ := hT.at_ (Below.refl _ _ : Bel w w) hlt
  have hnk := nm_len (hv.ty k hlt).1
  have hxl := hv.tyXl k om
  have hpl := hpi.1
  unfold maxI at hpl
  refine c_skip (e_S (c_seq (c_block (c_seq (c_region ?_)))))
  refine wl (r_ia (i := k) U22 sz77_HTxt rfl rfl om rfl) (wl (r_ldS U77 rfl rfl (hB.range hlb hlr) sz77_HTxt) ?_)
  refine wl_al (cs := #[.string ⟨#[]⟩, .slice none 0 0]) ze77_HTxt rfl (fun b5 w4 hb5 hs hr => ?_)
  have or_b1_b5 : b1 < b5 := nLL hb1.lt hr
  have or_hbd_b5 := (nLL hbd.lt hr)
  have lo5 := nLT (Bel.size hB) hr
  replace hB := hB.tr0 hs
  replace hb1 := hb1.tr0 hs
  replace hbd := hbd.tr0 hs
  clear hs
  clear hr
  refine wl_stW hb5 rfl rfl sz77_HTxt rfl oneA (fun w5 hq hs => ?_)
  replace hB := hB.tr1 hs lo5
  replace hb1 := hb1.tr1 hs om
  replace hbd := hbd.tr1 hs hb5 dE (by first | omega | assumption)
  clear hs
  replace hb5 := hq
  refine x_nil (e_S (c_seq (c_region (wl (r_fa U77 sz9_HTxt dE rfl rfl rfl) (wl (r_ld1 (v := .string _) U9 rfl rfl (hb5.cell rfl)) ?_)))))
  refine wl (r_addS rfl rfl (ad5 hnk)) ?_
  refine wl_cl fn89_HTxt (ws_any hbd (by rw [bcl, app_sz, t5_sz]; have := sz_le hnk; omega) (Bel.size hB)) rfl (fun e' w6 hr => ?_)
  obtain ⟨rfl, hbd2, hK⟩ := hr
  replace hB := hK.bel hB (Nat.le_refl _) lo3
  replace hb1 := hK.keep hb1 dE om
  replace hb5 := hK.keep hb5 dE om
  clear hbd
  have hbd : BldI w6 w.heap.size b3 (Lib.byteCells (tyX l k ++ lineB TYb (bl (l[k]'hlt).name :: ((l[k]'hlt).par.take 0).map (nmI l)))) := by
    have h := hbd2
    rw [str_cells, cells_app, bl_app] at h; rw [lb0]; exact h
  clear hbd2 hK
  refine ⟨_, rfl, ?_⟩
  refine x_nil (e_S (c_seq (c_seq (c_region (wl (r_fa U77 sz43_HTxt dE rfl rfl rfl) ?_)))))
  refine wl (r_ld1 (v := .slice _ _ _) U43 rfl rfl (hb5.cell rfl)) (wl (r_len U43 rfl) (wmI rfl (x_nil (e_S (c_block ?_)))))
  refine c_loopS [7, 24, 25, 26, 27, 28, 29, 30, 31, 32, 33, 34, 35, 36] (fun m g w' => ∃ j : Nat, j ≤ (l[k]'hlt).par.length ∧ m = (l[k]'hlt).par.length - j ∧ g 24 = .int .i64 j ∧ Bel w w' ∧ Blk w' b1 25 #[.slice (some ⟨lb, lof, none⟩) l.length c, .slice B fs.length d] ∧ Blk w' b5 77 #[.string (l[k]'hlt).name, .slice PA (l[k]'hlt).par.length pcap] ∧ BldI w' w.heap.size b3 (Lib.byteCells (tyX l k ++ lineB TYb (bl (l[k]'hlt).name :: ((l[k]'hlt).par.take j).map (nmI l))))) ((l[k]'hlt).par.length) ?_ (fun m g7 w7 hI => ?_)
  ·
   exact ⟨0, Nat.zero_le _, rfl, rfl, hB, hb1, hb5, hbd⟩
  obtain ⟨j, hj, hmj, h24, hB, hb1, hb5, hbd⟩ := hI
  refine c_know 24 (.int .i64 j) h24 nu (c_seq (c_region (wl (r_lss rfl rfl) (x_nil (e_S ?_)))))
  refine c_seq ?_
  refine c_ifd rfl (fun c25 => ?_) (fun c25 => ?_)
  ·
   have hjl : j < (l[k]'hlt).par.length := by omega
   obtain ⟨pb, po, rfl, hpb, hpr⟩ := hpi.at_ hjl
   have hpr0 := (hv.par hlt).2 _ (List.getElem_mem hjl)
   obtain ⟨p, hp, hpk⟩ : ∃ z : Nat, ((l[k]'hlt).par[j]'hjl) = (z : Int) ∧ z < l.length := ⟨(((l[k]'hlt).par[j]'hjl)).toNat, by omega, by omega⟩
   rw [hp] at hpr
   obtain ⟨qb, qo, QA, qc, hqe, hqb, hqr, _⟩ := hT.at_ (Below.refl _ _ : Bel w w) hpk
   cases hqe
   have hnq := hv.nmL ((p : Nat) : Int)
   rw [nmI_at rfl hpk] at hnq
   have hlj := hv.tyC hlt j
   have htk : lineB TYb (bl (l[k]'hlt).name :: ((l[k]'hlt).par.take (j + 1)).map (nmI l)) = lineB TYb (bl (l[k]'hlt).name :: ((l[k]'hlt).par.take j).map (nmI l)) ++ 32 :: bl (l[p]'hpk).name := by
     rw [List.take_succ_eq_append_getElem hjl, List.map_append, List.map_cons, List.map_nil, ← List.cons_append, lineB_snoc, hp, nmI_at rfl hpk]
   refine c_skip (e_S (c_seq (c_block (c_seq (c_region ?_)))))
   refine wl (r_ia (i := j) U43 sz3_GLoose rfl rfl om rfl) (wl (r_ld1 (v := .int _ _) U3 rfl rfl (hB.cell hpb hpr)) (waI rfl (x_nil (e_S (c_region ?_)))))
   refine wl (r_fa U25 sz22_GLoose dE rfl rfl rfl) (wl (r_ld1 (v := .slice _ _ _) U22 rfl rfl (hb1.cell rfl)) (wmI rfl (wl (r_ia (i := p) U22 sz77_HTxt rfl rfl hpk rfl) (wl (r_fa U77 sz9_HTxt dE rfl rfl rfl) (wl (r_ld1 (v := .string _) U9 rfl rfl (hB.cell hqb (hqr 0 _ rfl))) ?_)))))
   refine wl (r_addS rfl rfl (ad1 hnq)) ?_
   refine wl_cl fn89_HTxt (ws_any hbd (by rw [bcl, app_sz, s1_sz, List.length_append]; have := sz_le hnq; omega) (Bel.size hB)) rfl (fun e' w8 hr => ?_)
   obtain ⟨rfl, hbd2, hK⟩ := hr
   replace hB := hK.bel hB (Nat.le_refl _) lo3
   replace hb1 := hK.keep hb1 dE om
   replace hb5 := hK.keep hb5 dE om
   clear hbd
   have hbd : BldI w8 w.heap.size b3 (Lib.byteCells (tyX l k ++ lineB TYb (bl (l[k]'hlt).name :: ((l[k]'hlt).par.take (j + 1)).map (nmI l)))) := by
     have h := hbd2
     rw [str_cells, cells_app, bl_app, List.append_assoc] at h; rw [htk]; exact h
   clear hbd2 hK
   refine ⟨_, rfl, ?_⟩
   refine x_nil (e_B (e_S (c_region (wl (r_add rfl rfl rfl om) (wmI rfl ?_)))))
   refine x_nil (e_LS ((l[k]'hlt).par.length - (j + 1)) om agA ?_)
   exact ⟨j + 1, by omega, rfl, rfl, hB, hb1, hb5, hbd⟩
  have hjx : j = (l[k]'hlt).par.length := by omega
  have hall : tyX l (k + 1) = tyX l k ++ lineB TYb (bl (l[k]'hlt).name :: ((l[k]'hlt).par.take j).map (nmI l)) ++ [10] := by
    rw [tyX_succ hlt, hjx, List.take_length, List.append_assoc]
    rfl
  have hlj := hv.tyC hlt j
  refine c_exit (e_Sx (e_LSx (e_Bx (e_S (c_region ?_)))))
  refine wl_cl fn90_HTxt (wb_any (c := 10) hbd (by rw [bcl, List.length_append]; omega) (Bel.size hB)) rfl (fun e' w9 hr => ?_)
  obtain ⟨rfl, hbd2, hK⟩ := hr
  replace hB := hK.bel hB (Nat.le_refl _) lo3
  replace hb1 := hK.keep hb1 dE om
  replace hb5 := hK.keep hb5 dE om
  clear hbd
  have hbd : BldI w9 w.heap.size b3 (Lib.byteCells (tyX l (k + 1))) := by
    have h := hbd2
    rw [cells_nl] at h; rw [hall]; exact h
  clear hbd2 hK
  refine ⟨_, rfl, ?_⟩
  refine x_nil (e_B (e_S (c_region (wl (r_add rfl rfl rfl om) (wmI rfl ?_)))))
  refine x_nil (e_LS (l.length - (k + 1)) om agA ?_)
  exact ⟨k + 1, by omega, rfl, rfl, hB, hb1, hbd⟩
 have hke : k = l.length := by omega
 subst hke
 rw [← ftX_zero (fs := fs)] at hbd
 refine c_exit (e_Sx (e_LSx (e_Bx (e_S (c_seq ?_)))))
 refine c_seq (c_region (wl (r_fa U25 sz23_GLoose dE rfl rfl rfl) (wl (r_ld1 (v := .slice _ _ _) U23 rfl rfl (hb1.cell rfl)) (wl (r_len U23 rfl) (wmI rfl ?_)))))
 refine x_nil (e_S (c_block ?_))
 refine c_loopS [9, 42, 43, 44, 45, 46, 47, 48, 49, 50, 51, 52, 53, 54, 55, 56, 57, 58, 59, 60, 61, 62, 63, 64, 65, 66, 67, 68, 69] (fun m g w' => ∃ k : Nat, k ≤ fs.length ∧ m = fs.length - k ∧ g 42 = .int .i64 k ∧ Bel w w' ∧ Blk w' b1 25 #[.slice A l.length c, .slice B fs.length d] ∧ BldI w' w.heap.size b3 (Lib.byteCells (ftX l fs k))) (fs.length) ?_ (fun m g14 w10 hI => ?_)
 ·
  exact ⟨0, Nat.zero_le _, rfl, rfl, hB, hb1, hbd⟩
 obtain ⟨k, hk, hm, h42, hB, hb1, hbd⟩ := hI
 refine c_know 42 (.int .i64 k) h42 nu (c_seq (c_region (wl (r_lss rfl rfl) (x_nil (e_S ?_)))))
 refine c_seq ?_
 refine c_ifd rfl (fun c43 => ?_) (fun c43 => ?_)
 ·
  have hlt : k < fs.length := by omega
  obtain ⟨fb, fo, rfl, hfb, hfr⟩ := hF.at_ (Below.refl _ _ : Bel w w) hlt
  have hff := hv.feat hlt
  have hnk := nm_len (hv.ft k hlt).1
  have hxl := hv.ftXl k om
  obtain ⟨on, hon, honl⟩ : ∃ z : Nat, (fs[k]'hlt).of = (z : Int) ∧ z < l.length := ⟨((fs[k]'hlt).of).toNat, by omega, by omega⟩
  obtain ⟨vn, hvn, hvnl⟩ : ∃ z : Nat, (fs[k]'hlt).val = (z : Int) ∧ z < l.length := ⟨((fs[k]'hlt).val).toNat, by omega, by omega⟩
  obtain ⟨ob, oo, OA, oc, rfl, hob, hor, _⟩ := hT.at_ (Below.refl _ _ : Bel w w) honl
  obtain ⟨vb, vo, VA, vc, hve, hvb, hvr, _⟩ := hT.at_ (Below.refl _ _ : Bel w w) hvnl
  cases hve
  have hno := nm_len (hv.ty on honl).1
  have hnv := nm_len (hv.ty vn hvnl).1
  have hfx : ftX l fs (k + 1) = ftX l fs k ++ bl ((⟨#[102, 101, 97, 116, 32]⟩ : ByteArray) ++ (fs[k]'hlt).name ++ (⟨#[32]⟩ : ByteArray) ++ (l[on]'honl).name ++ (⟨#[32]⟩ : ByteArray) ++ (l[vn]'hvnl).name ++ (⟨#[10]⟩ : ByteArray)) := by
    rw [ftX_succ hlt]
    unfold fdL fdW lineB
    rw [hon, hvn, nmI_at rfl honl, nmI_at rfl hvnl]
    simp only [bl_app, List.flatMap_cons, List.flatMap_nil, List.append_nil, List.append_assoc, List.cons_append]
    rfl
  refine c_skip (e_S (c_seq (c_block (c_seq (c_region ?_)))))
  refine wl (r_ia (i := k) U23 sz63_GVal rfl rfl om rfl) (wl (r_ldS U63 rfl rfl (hB.range hfb hfr) sz63_GVal) ?_)
  refine wl_al (cs := #[.string ⟨#[]⟩, .int .i64 0, .int .i64 0]) ze63_GVal rfl (fun b9 w11 hb9 hs hr => ?_)
  have or_b1_b9 : b1 < b9 := nLL hb1.lt hr
  have or_hbd_b9 := (nLL hbd.lt hr)
  have lo9 := nLT (Bel.size hB) hr
  replace hB := hB.tr0 hs
  replace hb1 := hb1.tr0 hs
  replace hbd := hbd.tr0 hs
  clear hs
  clear hr
  refine wl_stW hb9 rfl rfl sz63_GVal rfl oneA (fun w12 hq hs => ?_)
  replace hB := hB.tr1 hs lo9
  replace hb1 := hb1.tr1 hs om
  replace hbd := hbd.tr1 hs hb9 dE (by first | omega | assumption)
  clear hs
  replace hb9 := hq
  refine x_nil (e_S ?_)
  rw [hon, hvn] at hb9
  have zk := sz_le hnk
  have zo := sz_le hno
  have zv := sz_le hnv
  have z1 := apl (p := (⟨#[102, 101, 97, 116, 32]⟩ : ByteArray)) (Nat.le_refl 5) zk
  have z2 := apl (q := (⟨#[32]⟩ : ByteArray)) z1 (Nat.le_refl 1)
  have z3 := apl z2 zo
  have z4 := apl (q := (⟨#[32]⟩ : ByteArray)) z3 (Nat.le_refl 1)
  have z5 := apl z4 zv
  have z6 := apl (q := (⟨#[10]⟩ : ByteArray)) z5 (Nat.le_refl 1)
  refine c_monoTO 22 [46, 47, 48, 49, 50, 51, 52, 53, 54, 55, 56, 57, 58, 59, 60, 61, 62, 63, 64, 65, 66, 67] (fun _ => false) (fun ix v wv => match ix with | 0 => v = .pointer (some ⟨b9, 0, none⟩) | 1 => v = .string (fs[k]'hlt).name | 2 => v = .string ((⟨#[102, 101, 97, 116, 32]⟩ : ByteArray) ++ (fs[k]'hlt).name) | 3 => v = .string ((⟨#[102, 101, 97, 116, 32]⟩ : ByteArray) ++ (fs[k]'hlt).name ++ (⟨#[32]⟩ : ByteArray)) | 4 => v = .pointer (some ⟨b1, 0, none⟩) | 5 => v = .slice (some ⟨ob, oo, none⟩) l.length c | 6 => v = .pointer (some ⟨b9, 1, none⟩) | 7 => v = .int .i64 ((on : Nat) : Int) | 8 => v = .pointer (some ⟨ob, oo + on * 2, none⟩) | 9 => v = .pointer (some ⟨ob, oo + on * 2 + 0, none⟩) | 10 => v = .string (l[on]'honl).name | 11 => v = .string ((⟨#[102, 101, 97, 116, 32]⟩ : ByteArray) ++ (fs[k]'hlt).name ++ (⟨#[32]⟩ : ByteArray) ++ (l[on]'honl).name) | 12 => v = .string ((⟨#[102, 101, 97, 116, 32]⟩ : ByteArray) ++ (fs[k]'hlt).name ++ (⟨#[32]⟩ : ByteArray) ++ (l[on]'honl).name ++ (⟨#[32]⟩ : ByteArray)) | 13 => v = .pointer (some ⟨b1, 0, none⟩) | 14 => v = .slice (some ⟨ob, oo, none⟩) l.length c | 15 => v = .pointer (some ⟨b9, 2, none⟩) | 16 => v = .int .i64 ((vn : Nat) : Int) | 17 => v = .pointer (some ⟨ob, oo + vn * 2, none⟩) | 18 => v = .pointer (some ⟨ob, oo + vn * 2 + 0, none⟩) | 19 => v = .string (l[vn]'hvnl).name | 20 => v = .string ((⟨#[102, 101, 97, 116, 32]⟩ : ByteArray) ++ (fs[k]'hlt).name ++ (⟨#[32]⟩ : ByteArray) ++ (l[on]'honl).name ++ (⟨#[32]⟩ : ByteArray) ++ (l[vn]'hvnl).name) | 21 => v = .string ((⟨#[102, 101, 97, 116, 32]⟩ : ByteArray) ++ (fs[k]'hlt).name ++ (⟨#[32]⟩ : ByteArray) ++ (l[on]'honl).name ++ (⟨#[32]⟩ : ByteArray) ++ (l[vn]'hvnl).name ++ (⟨#[10]⟩ : ByteArray)) | _ => True) kR kR ?_ ?_ ?_
  ·
   intro ix v wv wv2 h hs
   match ix, h with
   | 0, h => exact h
   | 1, h => exact h
   | 2, h => exact h
   | 3, h => exact h
   | 4, h => exact h
   | 5, h => exact h
   | 6, h => exact h
   | 7, h => exact h
   | 8, h => exact h
   | 9, h => exact h
   | 10, h => exact h
   | 11, h => exact h
   | 12, h => exact h
   | 13, h => exact h
   | 14, h => exact h
   | 15, h => exact h
   | 16, h => exact h
   | 17, h => exact h
   | 18, h => exact h
   | 19, h => exact h
   | 20, h => exact h
   | 21, h => exact h
   | _ + 22, h => exact trivial
  ·
   intro ix o hix hoq gg wx hs hd hdis
   match ix, hix, hoq with
   | 0, _, hoq =>
    obtain rfl := sI hoq
    have hs0 := hs
    replace hb9 := hb9.tr0 hs
    clear hs
    refine os_rv (r_fa U63 sz9_HTxt dE rfl rfl rfl) ⟨Same.refl _ _, ?_, frsh_no⟩
    exact rfl
   | 1, _, hoq =>
    obtain rfl := sI hoq
    have hs0 := hs
    replace hb9 := hb9.tr0 hs
    clear hs
    have d0 : gg 46 = .pointer (some ⟨b9, 0, none⟩) := hd 0 (dep_of kR)
    have e46 := d0
    refine os_know 46 (.pointer (some ⟨b9, 0, none⟩)) e46 nu ?_
    refine os_rv (r_ld1 (v := .string _) U9 rfl rfl (hb9.cell rfl)) ⟨Same.refl _ _, ?_, frsh_no⟩
    exact rfl
   | 2, _, hoq =>
    obtain rfl := sI hoq
    have hs0 := hs
    clear hs
    have d1 : gg 47 = .string (fs[k]'hlt).name := hd 1 (dep_of kR)
    have e47 := d1
    refine os_know 47 (.string (fs[k]'hlt).name) e47 nu ?_
    refine os_rv (r_addS rfl rfl (adG (Nat.le_refl 5) zk dE)) ⟨Same.refl _ _, ?_, frsh_no⟩
    exact rfl
   | 3, _, hoq =>
    obtain rfl := sI hoq
    have hs0 := hs
    clear hs
    have d2 : gg 48 = .string ((⟨#[102, 101, 97, 116, 32]⟩ : ByteArray) ++ (fs[k]'hlt).name) := hd 2 (dep_of kR)
    have e48 := d2
    refine os_know 48 (.string ((⟨#[102, 101, 97, 116, 32]⟩ : ByteArray) ++ (fs[k]'hlt).name)) e48 nu ?_
    refine os_rv (r_addS rfl rfl (adG z1 (Nat.le_refl 1) dE)) ⟨Same.refl _ _, ?_, frsh_no⟩
    exact rfl
   | 4, _, hoq =>
    obtain rfl := sI hoq
    have hs0 := hs
    replace hb1 := hb1.tr0 hs
    clear hs
    refine os_rv (r_fa U25 sz22_GLoose dE rfl rfl rfl) ⟨Same.refl _ _, ?_, frsh_no⟩
    exact rfl
   | 5, _, hoq =>
    obtain rfl := sI hoq
    have hs0 := hs
    replace hb1 := hb1.tr0 hs
    clear hs
    have d4 : gg 50 = .pointer (some ⟨b1, 0, none⟩) := hd 4 (dep_of kR)
    have e50 := d4
    refine os_know 50 (.pointer (some ⟨b1, 0, none⟩)) e50 nu ?_
    refine os_rv (r_ld1 (v := .slice _ _ _) U22 rfl rfl (hb1.cell rfl)) ⟨Same.refl _ _, ?_, frsh_no⟩
    exact rfl
   | 6, _, hoq =>
    obtain rfl := sI hoq
    have hs0 := hs
    replace hb9 := hb9.tr0 hs
    clear hs
    refine os_rv (r_fa U63 sz3_GLoose dE rfl rfl rfl) ⟨Same.refl _ _, ?_, frsh_no⟩
    exact rfl
   | 7, _, hoq =>
    obtain rfl := sI hoq
    have hs0 := hs
    replace hb9 := hb9.tr0 hs
    clear hs
    have d6 : gg 52 = .pointer (some ⟨b9, 1, none⟩) := hd 6 (dep_of kR)
    have e52 := d6
    refine os_know 52 (.pointer (some ⟨b9, 1, none⟩)) e52 nu ?_
    refine os_rv (r_ld1 (v := .int _ _) U3 rfl rfl (hb9.cell rfl)) ⟨Same.refl _ _, ?_, frsh_no⟩
    exact rfl
   | 8, _, hoq =>
    obtain rfl := sI hoq
    have hs0 := hs
    clear hs
    have d5 : gg 51 = .slice (some ⟨ob, oo, none⟩) l.length c := hd 5 (dep_of kR)
    have e51 := d5
    have d7 : gg 53 = .int .i64 ((on : Nat) : Int) := hd 7 (dep_of kR)
    have e53 := d7
    refine os_know 51 (.slice (some ⟨ob, oo, none⟩) l.length c) e51 nu (os_know 53 (.int .i64 ((on : Nat) : Int)) e53 nu ?_)
    refine os_rv (r_ia (i := on) U22 sz77_HTxt rfl rfl honl rfl) ⟨Same.refl _ _, ?_, frsh_no⟩
    exact rfl
   | 9, _, hoq =>
    obtain rfl := sI hoq
    have hs0 := hs
    clear hs
    have d8 : gg 54 = .pointer (some ⟨ob, oo + on * 2, none⟩) := hd 8 (dep_of kR)
    have e54 := d8
    refine os_know 54 (.pointer (some ⟨ob, oo + on * 2, none⟩)) e54 nu ?_
    refine os_rv (r_fa U77 sz9_HTxt dE rfl rfl rfl) ⟨Same.refl _ _, ?_, frsh_no⟩
    exact rfl
   | 10, _, hoq =>
    obtain rfl := sI hoq
    have hs0 := hs
    replace hB := hB.tr0 hs
    clear hs
    have d9 : gg 55 = .pointer (some ⟨ob, oo + on * 2 + 0, none⟩) := hd 9 (dep_of kR)
    have e55 := d9
    refine os_know 55 (.pointer (some ⟨ob, oo + on * 2 + 0, none⟩)) e55 nu ?_
    refine os_rv (r_ld1 (v := .string _) U9 rfl rfl (hB.cell hob (hor 0 _ rfl))) ⟨Same.refl _ _, ?_, frsh_no⟩
    exact rfl
   | 11, _, hoq =>
    obtain rfl := sI hoq
    have hs0 := hs
    clear hs
    have d3 : gg 49 = .string ((⟨#[102, 101, 97, 116, 32]⟩ : ByteArray) ++ (fs[k]'hlt).name ++ (⟨#[32]⟩ : ByteArray)) := hd 3 (dep_of kR)
    have e49 := d3
    have d10 : gg 56 = .string (l[on]'honl).name := hd 10 (dep_of kR)
    have e56 := d10
    refine os_know 49 (.string ((⟨#[102, 101, 97, 116, 32]⟩ : ByteArray) ++ (fs[k]'hlt).name ++ (⟨#[32]⟩ : ByteArray))) e49 nu (os_know 56 (.string (l[on]'honl).name) e56 nu ?_)
    refine os_rv (r_addS rfl rfl (adG z2 zo dE)) ⟨Same.refl _ _, ?_, frsh_no⟩
    exact rfl
   | 12, _, hoq =>
    obtain rfl := sI hoq
    have hs0 := hs
    clear hs
    have d11 : gg 57 = .string ((⟨#[102, 101, 97, 116, 32]⟩ : ByteArray) ++ (fs[k]'hlt).name ++ (⟨#[32]⟩ : ByteArray) ++ (l[on]'honl).name) := hd 11 (dep_of kR)
    have e57 := d11
    refine os_know 57 (.string ((⟨#[102, 101, 97, 116, 32]⟩ : ByteArray) ++ (fs[k]'hlt).name ++ (⟨#[32]⟩ : ByteArray) ++ (l[on]'honl).name)) e57 nu ?_
    refine os_rv (r_addS rfl rfl (adG z3 (Nat.le_refl 1) dE)) ⟨Same.refl _ _, ?_, frsh_no⟩
    exact rfl
   | 13, _, hoq =>
    obtain rfl := sI hoq
    have hs0 := hs
    replace hb1 := hb1.tr0 hs
    clear hs
    refine os_rv (r_fa U25 sz22_GLoose dE rfl rfl rfl) ⟨Same.refl _ _, ?_, frsh_no⟩
    exact rfl
   | 14, _, hoq =>
    obtain rfl := sI hoq
    have hs0 := hs
    replace hb1 := hb1.tr0 hs
    clear hs
    have d13 : gg 59 = .pointer (some ⟨b1, 0, none⟩) := hd 13 (dep_of kR)
    have e59 := d13
    refine os_know 59 (.pointer (some ⟨b1, 0, none⟩)) e59 nu ?_
    refine os_rv (r_ld1 (v := .slice _ _ _) U22 rfl rfl (hb1.cell rfl)) ⟨Same.refl _ _, ?_, frsh_no⟩
    exact rfl
   | 15, _, hoq =>
    obtain rfl := sI hoq
    have hs0 := hs
    replace hb9 := hb9.tr0 hs
    clear hs
    refine os_rv (r_fa U63 sz3_GLoose dE rfl rfl rfl) ⟨Same.refl _ _, ?_, frsh_no⟩
    exact rfl
   | 16, _, hoq =>
    obtain rfl := sI hoq
    have hs0 := hs
    replace hb9 := hb9.tr0 hs
    clear hs
    have d15 : gg 61 = .pointer (some ⟨b9, 2, none⟩) := hd 15 (dep_of kR)
    have e61 := d15
    refine os_know 61 (.pointer (some ⟨b9, 2, none⟩)) e61 nu ?_
    refine os_rv (r_ld1 (v := .int _ _) U3 rfl rfl (hb9.cell rfl)) ⟨Same.refl _ _, ?_, frsh_no⟩
    exact rfl
   | 17, _, hoq =>
    obtain rfl := sI hoq
    have hs0 := hs
    clear hs
    have d14 : gg 60 = .slice (some ⟨ob, oo, none⟩) l.length c := hd 14 (dep_of kR)
    have e60 := d14
    have d16 : gg 62 = .int .i64 ((vn : Nat) : Int) := hd 16 (dep_of kR)
    have e62 := d16
    refine os_know 60 (.slice (some ⟨ob, oo, none⟩) l.length c) e60 nu (os_know 62 (.int .i64 ((vn : Nat) : Int)) e62 nu ?_)
    refine os_rv (r_ia (i := vn) U22 sz77_HTxt rfl rfl hvnl rfl) ⟨Same.refl _ _, ?_, frsh_no⟩
    exact rfl
   | 18, _, hoq =>
    obtain rfl := sI hoq
    have hs0 := hs
    clear hs
    have d17 : gg 63 = .pointer (some ⟨ob, oo + vn * 2, none⟩) := hd 17 (dep_of kR)
    have e63 := d17
    refine os_know 63 (.pointer (some ⟨ob, oo + vn * 2, none⟩)) e63 nu ?_
    refine os_rv (r_fa U77 sz9_HTxt dE rfl rfl rfl) ⟨Same.refl _ _, ?_, frsh_no⟩
    exact rfl
   | 19, _, hoq =>
    obtain rfl := sI hoq
    have hs0 := hs
    replace hB := hB.tr0 hs
    clear hs
    have d18 : gg 64 = .pointer (some ⟨ob, oo + vn * 2 + 0, none⟩) := hd 18 (dep_of kR)
    have e64 := d18
    refine os_know 64 (.pointer (some ⟨ob, oo + vn * 2 + 0, none⟩)) e64 nu ?_
    refine os_rv (r_ld1 (v := .string _) U9 rfl rfl (hB.cell hvb (hvr 0 _ rfl))) ⟨Same.refl _ _, ?_, frsh_no⟩
    exact rfl
   | 20, _, hoq =>
    obtain rfl := sI hoq
    have hs0 := hs
    clear hs
    have d12 : gg 58 = .string ((⟨#[102, 101, 97, 116, 32]⟩ : ByteArray) ++ (fs[k]'hlt).name ++ (⟨#[32]⟩ : ByteArray) ++ (l[on]'honl).name ++ (⟨#[32]⟩ : ByteArray)) := hd 12 (dep_of kR)
    have e58 := d12
    have d19 : gg 65 = .string (l[vn]'hvnl).name := hd 19 (dep_of kR)
    have e65 := d19
    refine os_know 58 (.string ((⟨#[102, 101, 97, 116, 32]⟩ : ByteArray) ++ (fs[k]'hlt).name ++ (⟨#[32]⟩ : ByteArray) ++ (l[on]'honl).name ++ (⟨#[32]⟩ : ByteArray))) e58 nu (os_know 65 (.string (l[vn]'hvnl).name) e65 nu ?_)
    refine os_rv (r_addS rfl rfl (adG z4 zv dE)) ⟨Same.refl _ _, ?_, frsh_no⟩
    exact rfl
   | 21, _, hoq =>
    obtain rfl := sI hoq
    have hs0 := hs
    clear hs
    have d20 : gg 66 = .string ((⟨#[102, 101, 97, 116, 32]⟩ : ByteArray) ++ (fs[k]'hlt).name ++ (⟨#[32]⟩ : ByteArray) ++ (l[on]'honl).name ++ (⟨#[32]⟩ : ByteArray) ++ (l[vn]'hvnl).name) := hd 20 (dep_of kR)
    have e66 := d20
    refine os_know 66 (.string ((⟨#[102, 101, 97, 116, 32]⟩ : ByteArray) ++ (fs[k]'hlt).name ++ (⟨#[32]⟩ : ByteArray) ++ (l[on]'honl).name ++ (⟨#[32]⟩ : ByteArray) ++ (l[vn]'hvnl).name)) e66 nu ?_
    refine os_rv (r_addS rfl rfl (adG z5 (Nat.le_refl 1) dE)) ⟨Same.refl _ _, ?_, frsh_no⟩
    exact rfl
   | _ + 22, hix, _ => exact absurd hix om
  intro gg w13 hs hR hdis
  have hs0 := hs
  replace hB := hB.tr0 hs
  replace hb1 := hb1.tr0 hs
  replace hbd := hbd.tr0 hs
  replace hb9 := hb9.tr0 hs
  clear hs
  have d21 : gg 67 = .string ((⟨#[102, 101, 97, 116, 32]⟩ : ByteArray) ++ (fs[k]'hlt).name ++ (⟨#[32]⟩ : ByteArray) ++ (l[on]'honl).name ++ (⟨#[32]⟩ : ByteArray) ++ (l[vn]'hvnl).name ++ (⟨#[10]⟩ : ByteArray)) := hR 21 dE
  have e67 := d21
  refine wl_know 67 (.string ((⟨#[102, 101, 97, 116, 32]⟩ : ByteArray) ++ (fs[k]'hlt).name ++ (⟨#[32]⟩ : ByteArray) ++ (l[on]'honl).name ++ (⟨#[32]⟩ : ByteArray) ++ (l[vn]'hvnl).name ++ (⟨#[10]⟩ : ByteArray))) e67 nu ?_
  refine wl_cl fn89_HTxt (ws_any hbd (by rw [bcl]; omega) (Bel.size hB)) rfl (fun e' w14 hr => ?_)
  obtain ⟨rfl, hbd2, hK⟩ := hr
  replace hB := hK.bel hB (Nat.le_refl _) lo3
  replace hb1 := hK.keep hb1 dE om
  replace hb9 := hK.keep hb9 dE om
  clear hbd
  have hbd : BldI w14 w.heap.size b3 (Lib.byteCells (ftX l fs (k + 1))) := by
    have h := hbd2
    rw [str_cells, cells_app] at h; rw [hfx]; exact h
  clear hbd2 hK
  refine ⟨_, rfl, ?_⟩
  refine x_nil (e_B (e_S (c_region (wl (r_add rfl rfl rfl om) (wmI rfl ?_)))))
  refine x_nil (e_LS (fs.length - (k + 1)) om agA ?_)
  exact ⟨k + 1, by omega, rfl, rfl, hB, hb1, hbd⟩
 have hke : k = fs.length := by omega
 subst hke
 rw [ftX_all] at hbd
 refine c_exit (e_Sx (e_LSx (e_Bx (e_S (c_seq ?_)))))
 have hsz0 := Bel.size hB
 refine c_region ?_
 refine wl_cl fn91_HTxt (sh_Builder_String_any w.heap.size b3 _ _ hbd.is hsz0) rfl (fun e' w15 hr => ?_)
 obtain ⟨rfl, hs⟩ := hr
 replace hB := bel_belowH hB hs (Nat.le_refl _)
 refine ⟨_, rfl, ?_⟩
 refine wl (r_as (v := .string _) rfl) (x_nil (e_S (c_ret (fin1 (.inl rfl) rfl rfl ?_))))
 exact ⟨rfl, hB⟩
end Go.Proofs.YtegngekpmpdngaaDoor
namespace Go.Proofs.YtegngekpmpdngaaDoor
open Go.RowKit
theorem sz43_GVisit : (Tryd.prog.info? 43).map (·.size) = some 1 := by kernel_rfl
end Go.Proofs.YtegngekpmpdngaaDoor
namespace Go.Proofs.YtegngekpmpdngaaDoor
open Go.RowKit
structure GV (l : List Ty) (fs : List Ft) (g : List Nd) : Prop where
  h : (hierFault l fs).1 = 0
  s : Sound l
  few : fs.length ≤ 40
  f : FOk l.length fs
  gok : GOk l.length fs.length g
  t : tyF l fs g = (0, 0)
  u : ¬ 0 ≤ unrI g
  lo : (looseF l.length fs.length g).1 = 0
theorem DL.sub {g : List Nd} {is a b : List Nat} (h : DL g is a b) : ∀ x ∈ a, x ∈ b := by
  induction h with
  | nil => exact fun x h => h
  | old h t ih => exact ih
  | new h s t ihs iht => exact fun x hx => iht x (ihs x (List.mem_append_left _ hx))
theorem DL.has {g : List Nd} {is a b : List Nat} (h : DL g is a b) : ∀ i ∈ is, i ∈ b := by
  induction h with
  | nil => exact fun i h => by cases h
  | old h t ih =>
    intro i hi
    rcases List.mem_cons.1 hi with rfl | hi
    · exact t.sub _ h
    · exact ih i hi
  | new h s t ihs iht =>
    intro i hi
    rcases List.mem_cons.1 hi with rfl | hi
    · exact t.sub _ (s.sub _ (by simp))
    · exact iht i hi
theorem DL.clo {g : List Nd} {is a b : List Nat} (h : DL g is a b) : ∀ x ∈ b, ¬ x ∈ a → ∀ t ∈ succN g x, t ∈ b := by
  induction h with
  | nil => exact fun x h1 h2 => absurd h1 h2
  | old h t ih => exact ih
  | new h s t ihs iht =>
    rename_i i is o o1 o'
    intro x hx hn y hy
    by_cases h1 : x ∈ o1
    · by_cases h2 : x = i
      · subst h2; exact t.sub _ (s.has y hy)
      · exact t.sub _ (ihs x h1 (fun h3 => by
          rcases List.mem_append.1 h3 with h3 | h3
          · exact hn h3
          · exact h2 (List.mem_singleton.1 h3)) y hy)
    · exact iht x hx h1 y hy
structure Tr (g : List Nd) (o : List Nat) : Prop where
  dl : DL g [0] [] o
  ok : OOk g.length o
  nd : o.Nodup
  pos : 0 < o.length
  zero : o.idxOf 0 = 0
  clo : ∀ x ∈ o, ∀ t ∈ succN g x, t ∈ o
theorem get_idx {o : List Nat} {x : Nat} (hx : x ∈ o) : ∃ h : o.idxOf x < o.length, o[o.idxOf x] = x := ⟨List.idxOf_lt_length_of_mem hx, List.getElem_idxOf _⟩
theorem numO_in {o : List Nat} {x : Nat} (hx : x ∈ o) : numO o x = (o.idxOf x : Nat) := by simp [numO, hx]
theorem canG_len (g : List Nd) (o : List Nat) : (canG g o).length = o.length := by simp [canG]
theorem canG_nd {g : List Nd} {o : List Nat} {x : Nat} (hx : x ∈ o) : nd (canG g o) (o.idxOf x) = canN g o x := by
  obtain ⟨h1, h2⟩ := get_idx hx
  rw [nd_eq (by rw [canG_len]; exact h1)]
  simp [canG, h2]
theorem canG_succ {g : List Nd} {o : List Nat} (h : ∀ x ∈ o, ∀ t ∈ succN g x, t ∈ o) {x : Nat} (hx : x ∈ o) : succN (canG g o) (o.idxOf x) = (succN g x).map (o.idxOf ·) := by
  unfold succN
  rw [canG_nd hx]
  simp only [canN, List.map_map]
  refine List.map_congr_left (fun y hy => ?_)
  have : y.2.toNat ∈ o := h x hx _ (by simp only [succN, List.mem_map]; exact ⟨y, hy, rfl⟩)
  simp [canL, numO_in this]
theorem DL.map {g : List Nd} {o : List Nat} (hc : ∀ x ∈ o, ∀ t ∈ succN g x, t ∈ o) {is a b : List Nat} (h : DL g is a b) : (∀ x ∈ b, x ∈ o) → DL (canG g o) (is.map (o.idxOf ·)) (a.map (o.idxOf ·)) (b.map (o.idxOf ·)) := by
  have inj : ∀ x y, x ∈ o → y ∈ o → o.idxOf x = o.idxOf y → x = y := fun x y hx hy e => by
    obtain ⟨h1, h2⟩ := get_idx hx
    obtain ⟨h3, h4⟩ := get_idx hy
    rw [← h2, ← h4]
    simp only [e]
  induction h with
  | nil => exact fun _ => .nil
  | old h t ih =>
    intro hb
    exact .old (List.mem_map_of_mem h) (ih hb)
  | new h s t ihs iht =>
    rename_i i is o0 o1 o'
    intro hb
    have hio := hb i (t.sub _ (s.sub _ (by simp)))
    refine .new (fun hm => ?_) ?_ (iht hb)
    · obtain ⟨y, hy, e⟩ := List.mem_map.1 hm
      have hyo := hb y (t.sub _ (s.sub _ (List.mem_append_left _ hy)))
      exact h (inj y i hyo hio e ▸ hy)
    · have := ihs (fun x hx => hb x (t.sub _ hx))
      rw [List.map_append] at this
      rw [canG_succ hc hio]
      exact this
end Go.Proofs.YtegngekpmpdngaaDoor
namespace Go.Proofs.YtegngekpmpdngaaDoor
open Go.RowKit
theorem FrSame.then {B B0 : Nat} {w0 w1 w2 : World} (h : FrSame B w0 w1) (k : FrSame B0 w1 w2) (hb : B0 ≤ B) : FrSame B w0 w2 :=
  ⟨nLT h.size k.size, fun i hi hl => (k.blk i (nLT hb hi) (nLL hl h.size)).trans (h.blk i hi hl)⟩
end Go.Proofs.YtegngekpmpdngaaDoor
namespace Go.Proofs.YtegngekpmpdngaaDoor
open Go.RowKit
inductive NdVs (w : World) : List Nd → List Value → Prop
  | nil : NdVs w [] []
  | cons {x : Nd} {l : List Nd} {vs : List Value} {A : Option Addr} {c : Nat} (h : LinksIn w A x.ln) (r : NdVs w l vs) : NdVs w (x :: l) (.int .i64 x.ty :: .slice A x.ln.length c :: vs)
theorem NdVs.get {w : World} {l : List Nd} {vs : List Value} (h : NdVs w l vs) : ∀ k (hk : k < l.length), ∃ A c, vs[k * 2]? = some (.int .i64 (l[k]).ty) ∧ vs[k * 2 + 1]? = some (.slice A (l[k]).ln.length c) ∧ LinksIn w A (l[k]).ln := by
  induction h with
  | nil => intro k hk; simp at hk
  | cons h r ih =>
    intro k hk
    match k, hk with
    | 0, _ => exact ⟨_, _, rfl, rfl, h⟩
    | k + 1, hk =>
      obtain ⟨A, c, h1, h2, h3⟩ := ih k (by simpa using hk)
      refine ⟨A, c, ?_, ?_, h3⟩
      · rw [show (k + 1) * 2 = k * 2 + 1 + 1 from by omega]; simpa using h1
      · rw [show (k + 1) * 2 + 1 = k * 2 + 1 + 1 + 1 from by omega]; simpa using h2
end Go.Proofs.YtegngekpmpdngaaDoor
