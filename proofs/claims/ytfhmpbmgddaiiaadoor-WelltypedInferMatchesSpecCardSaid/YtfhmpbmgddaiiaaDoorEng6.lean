/- What these functions of the program compute, at every world: glosswright/glosswrightref4.Inferred. The engine's sixth part: copy, zeros appended to a slice, functions that the model has itself, a drawn region in which an operation changes what another one has made. -/
import Derived.Test.YtfhmpbmgddaiiaaDoorU
import Derived.Test.YtfhmpbmgddaiiaaDoorEng5
import Derived.Test.YtfhmpbmgddaiiaaDoorComp
import Derived.Test.YtfhmpbmgddaiiaaDoorEng4
import Derived.Laws.CopyRow
import Derived.Laws.Externs
import Derived.Lib.Overlaps
namespace Go.Proofs.YtfhmpbmgddaiiaaDoor
open Go.RowKit
theorem ownb_neF {w : World} {base b sz k c : Nat} {e t : TypeId} {A : Option Addr} {xs : List Value} {cs : Array Value} (h : Own w base e sz A k c xs) (hb : Blk w b t cs) (hne : e ≠ t) : ∀ g ∈ aL A, g ≠ b := fun g hg e1 => by
  obtain ⟨c2, h2⟩ := h.typ g hg
  subst e1
  exact hne (blk_type h2 hb)
theorem sl_lenF {A : Option Addr} {m n cap : Nat} (h : n = m) : Value.slice A m cap = Value.slice A n cap := by rw [h]
theorem fn23 : callable Tryd.prog 23 = true := by kernel_rfl
set_option maxRecDepth 100000 in
set_option maxHeartbeats 4000000 in
theorem inferred_any (A B G : Option Addr) (c d cg : Nat) (l : List Ty) (fs : List Ft) (gr : List Nd) (w : World) (hT : TypesIn w A l) (hF : FeatsIn w B fs) (hG : NodesIn w G gr) (hgl : GL l fs gr) : Calls Tryd.prog 8 #[.agg #[.slice A l.length c, .slice B fs.length d], .agg #[.slice G gr.length cg]] w fun e w' => (∃ A' X cX ok, e = .returned (.tuple #[.agg #[.slice A' (List.length X) cX], .bool ok]) ∧ (∀ w2, FrSame w.heap.size w' w2 → NodesIn w2 A' X) ∧ InrS l fs gr ok X) ∧ Bel w w' := by
 have hS0 := hgl.s
 have hf40 := hgl.few
 have hl60 := hS0.le
 have hvt := hS0.vt
 refine enter Tryd.func8 Tryd.ntmps8 rfl (Nat.le_of_ble_eq_true rfl) ?_
 have hB : Bel w w := Below.refl _ _
 refine c_seq (c_region ?_)
 refine wl_bx (v := .agg #[_, _]) (cs := #[_, _]) rfl rfl (fun b2 w1 hb2 hs hr => ?_)
 have lo2 := nLT (Bel.size hB) hr
 replace hB := hB.tr0 hs
 clear hs
 clear hr
 refine wl_bx (v := .agg #[_]) (cs := #[_]) rfl rfl (fun b3 w2 hb3 hs hr => ?_)
 have or_b2_b3 : b2 < b3 := nLL hb2.lt hr
 have lo3 := nLT (Bel.size hB) hr
 replace hB := hB.tr0 hs
 replace hb2 := hb2.tr0 hs
 clear hs
 clear hr
 refine wl_al (cs := #[.slice none 0 0]) ze28 rfl (fun b4 w3 hb4 hs hr => ?_)
 have or_b2_b4 : b2 < b4 := nLL hb2.lt hr
 have or_b3_b4 : b3 < b4 := nLL hb3.lt hr
 have lo4 := nLT (Bel.size hB) hr
 replace hB := hB.tr0 hs
 replace hb2 := hb2.tr0 hs
 replace hb3 := hb3.tr0 hs
 clear hs
 clear hr
 refine waB rfl (x_nil (e_S (c_seq (c_region (wl (r_ldS U28 rfl rfl hb3.range0 sz28) ?_)))))
 have z2 := hb2.lt
 have z4 := hb4.lt
 have hszv := Bel.size hB
 refine wl_cl fn23 (rfrom3_any G cg fs.length gr 0 _ (hG.mono hB) hgl.gok.two om hgl.gok.pos) rfl (fun e' w4 hr => ?_)
 obtain ⟨⟨o, AF, cF, hD, hok, rfl, hgr⟩, hs⟩ := hr
 replace hs := Same.of_bel hs
 replace hB := hB.tr0 hs
 replace hb2 := hb2.tr0 hs
 replace hb3 := hb3.tr0 hs
 replace hb4 := hb4.tr0 hs
 clear hs
 obtain ⟨zlo, hzlo⟩ : ∃ z, z = (w3).heap.size := ⟨_, rfl⟩
 obtain ⟨zhi, hzhi⟩ : ∃ z, z = w4.heap.size := ⟨_, rfl⟩
 rw [← hzlo, ← hzhi] at hgr
 rw [← hzlo] at z2 z4 hszv
 have hzh : zhi ≤ w4.heap.size := Nat.le_of_eq hzhi
 have hwz : w.heap.size ≤ zhi := by rw [hzhi]; exact Bel.size hB
 obtain ⟨hgx, hG60, hfr, _, _⟩ := hgl.can hD
 have hGo : (canG gr o).length = o.length := canG_len gr o
 have hlnn : ∀ i, (nd (canG gr o) i).ln.length ≤ 40 := fun i => by
   by_cases hi : i < o.length
   · rw [nd_canG hi]
     have hl2 : o.getD i 0 < gr.length := hok.lt _ (by simp [List.getD, hi])
     show ((nd gr (o.getD i 0)).ln.map _).length ≤ 40
     rw [List.length_map, nd_eq hl2]
     exact nLT (hgl.gok.few _ hl2) hf40
   · rw [nd_out (by rw [hGo]; exact hi)]; exact Nat.zero_le _
 obtain ⟨Gq, hGq⟩ : ∃ z, z = canG gr o := ⟨_, rfl⟩
 rw [← hGq] at hgr hgx hG60 hfr hGo hlnn
 refine ⟨_, rfl, ?_⟩
 refine wl_al (cs := #[.slice none 0 0]) ze28 rfl (fun b6 w5 hb6 hs hr => ?_)
 have or_b2_b6 : b2 < b6 := nLL hb2.lt hr
 have or_b3_b6 : b3 < b6 := nLL hb3.lt hr
 have or_b4_b6 : b4 < b6 := nLL hb4.lt hr
 have or_hzh_b6 := (nLT hzh hr)
 have lo6 := nLT (Bel.size hB) hr
 replace hB := hB.tr0 hs
 replace hb2 := hb2.tr0 hs
 replace hb3 := hb3.tr0 hs
 replace hb4 := hb4.tr0 hs
 replace hgr := hgr.tr hs (by simp)
 replace hzh := nLT hzh (Same.size hs)
 clear hs
 clear hr
 refine wl_stW hb6 rfl rfl sz28 rfl oneA (fun w6 hq hs => ?_)
 replace hB := hB.tr1 hs lo6
 replace hb2 := hb2.tr1 hs om
 replace hb3 := hb3.tr1 hs om
 replace hb4 := hb4.tr1 hs om
 replace hgr := hgr.tr hs (fun g hg => by rw [List.mem_singleton.1 hg]; omega)
 replace hzh := nLT hzh (Same.size hs)
 clear hs
 replace hb6 := hq
 refine x_nil (e_S (c_seq ?_))
 rw [← hGo] at hb6
 replace hgr : GrT w6 zlo zhi AF cF Gq (fun x => ((tyO Gq x : Nat) : Int)) := hgr.congr (fun i hi => by have := hgx.tr i hi; unfold tyO; omega)
 refine c_region (waS rfl (x_nil (e_S (c_seq (c_seq ?_)))))
 refine c_region (wl (r_fa U28 sz26 dE rfl rfl rfl) (wl (r_ld1 (v := .slice _ _ _) U26 rfl rfl (hb6.cell rfl)) (wl (r_len U26 rfl) (wmI rfl (x_nil ?_)))))
 refine e_S (c_block ?_)
 refine c_loopS [5, 7, 8, 9, 10, 12, 14, 16, 17, 18, 19, 21, 29, 30, 31, 32, 33, 34, 35, 36, 37, 38, 39, 40, 41, 42, 43, 44, 45, 46, 47, 48, 49, 50, 51, 52, 53, 54, 55, 56, 57, 58, 59, 60, 61, 62, 63, 64, 65, 66, 67, 68, 69, 70, 71, 72, 73, 74, 75, 76, 77, 78, 79, 80, 81, 82, 83, 84, 85, 86, 87, 88, 89, 90, 91, 92, 93, 94, 95, 96, 97, 98, 99, 100, 101, 102, 103, 104, 105, 106, 107, 108, 109, 110, 111, 112, 113, 114, 115, 116, 117, 118, 119, 120] (fun m g w' => ∃ (i : Nat) (ts : List Nat) (A7 : Option Addr) (cap7 : Nat), i ≤ Gq.length ∧ m = Gq.length - i ∧ g 29 = .int .i64 i ∧ g 7 = .slice A7 ts.length cap7 ∧ ts.length = i ∧ (∀ x (hx : x < ts.length), firstC l (askedL fs Gq x) = some ts[x]) ∧ Bel w w' ∧ Blk w' b2 25 #[.slice A l.length c, .slice B fs.length d] ∧ Blk w' b4 28 #[.slice none 0 0] ∧ Blk w' b6 28 #[.slice AF Gq.length cF] ∧ GrT w' zlo zhi AF cF Gq (fun x => ((tyO Gq x : Nat) : Int)) ∧ Own w' zhi 3 1 A7 ts.length cap7 (oV ts) ∧ zhi ≤ w'.heap.size) (Gq.length) ?_ (fun m g4 w7 hI => ?_)
 ·
  exact ⟨0, [], none, 0, Nat.zero_le _, rfl, rfl, rfl, rfl, fun x hx => by simp at hx, hB, hb2, hb4, hb6, hgr, Own.nil _ _ _ _, hzh⟩
 obtain ⟨i, ts, A7, cap7, hi, hm, h29, h7, htl, hts, hB, hb2, hb4, hb6, hgr, hty, hzh⟩ := hI
 obtain ⟨bs, hbsz⟩ : ∃ b, b = w7.heap.size := ⟨_, rfl⟩
 have hbz : bs ≤ w7.heap.size := Nat.le_of_eq hbsz
 have hub : ∀ g ∈ aL A7, g < bs := fun g hg => by rw [hbsz]; exact (hty.lt g hg).2
 refine c_know 29 (.int .i64 i) h29 nu (c_know 7 (.slice A7 ts.length cap7) h7 nu (c_seq (c_region (wl (r_lss rfl rfl) (x_nil ?_)))))
 refine e_S (c_seq ?_)
 refine c_ifd rfl (fun c30 => ?_) (fun c30 => ?_)
 ·
  have hil : i < Gq.length := by omega
  obtain ⟨gF, rfl, hgF1, hgF2⟩ := hgr.addr hil
  obtain ⟨LA, lc, hrg, hro⟩ := hgr.nd_ hil
  have hmx := hro.lks.1
  unfold maxI at hmx
  refine c_skip (e_S (c_seq (c_block (c_seq (c_region ?_)))))
  refine wmI rfl (wl (r_ia (i := i) U26 sz33 rfl rfl hil rfl) (wl (r_ldS U33 rfl rfl hrg sz33) ?_))
  refine wl_al (cs := #[.int .i64 0, .slice none 0 0]) ze33 rfl (fun b9 w8 hb9 hs hr => ?_)
  have or_b2_b9 : b2 < b9 := nLL hb2.lt hr
  have or_b4_b9 : b4 < b9 := nLL hb4.lt hr
  have or_b6_b9 : b6 < b9 := nLL hb6.lt hr
  have or_hzh_b9 := (nLT hzh hr)
  have or_hbz_b9 := (nLT hbz hr)
  have lo9 := nLT (Bel.size hB) hr
  replace hB := hB.tr0 hs
  replace hb2 := hb2.tr0 hs
  replace hb4 := hb4.tr0 hs
  replace hb6 := hb6.tr0 hs
  replace hgr := hgr.tr hs (by simp)
  replace hty := hty.tr0 hs
  replace hzh := nLT hzh (Same.size hs)
  replace hro := hro.tr hs (by simp)
  replace hbz := nLT hbz (Same.size hs)
  clear hs
  clear hr
  refine waI rfl ?_
  refine wl_stW hb9 rfl rfl sz33 rfl oneA (fun w9 hq hs => ?_)
  replace hB := hB.tr1 hs lo9
  replace hb2 := hb2.tr1 hs om
  replace hb4 := hb4.tr1 hs om
  replace hb6 := hb6.tr1 hs om
  replace hgr := hgr.tr hs (fun g hg => by rw [List.mem_singleton.1 hg]; omega)
  replace hty := hty.tr1 hs (fun g hg => by first | (have := hub g hg; omega) | (have := List.mem_singleton.1 hg; omega))
  replace hzh := nLT hzh (Same.size hs)
  replace hro := hro.tr hs (fun g hg => by rw [List.mem_singleton.1 hg]; exact .inl om)
  replace hbz := nLT hbz (Same.size hs)
  clear hs
  replace hb9 := hq
  refine x_nil (e_S (c_seq (c_region (wl (r_fa U33 sz3_GLoose dE rfl rfl rfl) (wl (r_ld1 (v := .int _ _) U3 rfl rfl (hb9.cell rfl)) ?_)))))
  refine wl_bs (cs := #[_]) [(0, .int _ _)] rfl U46 sz3_GLoose ze3_GUnr dE dE kR rfl (fun b36 w10 hb36 hs hr => ?_)
  have or_b2_b36 : b2 < b36 := nLL hb2.lt hr
  have or_b4_b36 : b4 < b36 := nLL hb4.lt hr
  have or_b6_b36 : b6 < b36 := nLL hb6.lt hr
  have or_hzh_b36 := (nLT hzh hr)
  have or_hbz_b36 := (nLT hbz hr)
  have or_b9_b36 : b9 < b36 := nLL hb9.lt hr
  have lo36 := nLT (Bel.size hB) hr
  replace hB := hB.tr0 hs
  replace hb2 := hb2.tr0 hs
  replace hb4 := hb4.tr0 hs
  replace hb6 := hb6.tr0 hs
  replace hgr := hgr.tr hs (by simp)
  replace hty := hty.tr0 hs
  replace hzh := nLT hzh (Same.size hs)
  replace hro := hro.tr hs (by simp)
  replace hbz := nLT hbz (Same.size hs)
  replace hb9 := hb9.tr0 hs
  clear hs
  clear hr
  refine waS rfl (x_nil (e_S (c_seq (c_seq ?_))))
  obtain ⟨bA, hbA⟩ : ∃ z, z = b36 := ⟨_, rfl⟩
  have hask : Own w10 bA 3 1 (some ⟨b36, 0, none⟩) (askP fs Gq i 0).length 1 (oV (askP fs Gq i 0)) := own_of hb36 (Nat.le_of_eq hbA) (Nat.le_refl _) dE rfl rfl
  have lbA : bs ≤ bA := by rw [hbA]; exact or_hbz_b36
  have lzA : zhi ≤ bA := by rw [hbA]; exact or_hzh_b36
  have hwA : w.heap.size ≤ bA := by rw [hbA]; exact lo36
  replace hbz : bA ≤ w10.heap.size := by have := hb36.lt; omega
  refine c_region (wl (r_fa U33 sz31 dE rfl rfl rfl) (wl (r_ld1 (v := .slice _ _ _) U31 rfl rfl (hb9.cell rfl)) (wl (r_len U31 rfl) (wmI rfl (x_nil ?_)))))
  refine e_S (c_block ?_)
  refine c_loopS [10, 12, 40, 41, 42, 43, 44, 45, 46, 47, 48, 49, 50, 51, 52, 53, 54] (fun m g w' => ∃ (q : Nat) (A10 : Option Addr) (cap10 : Nat) (xs : List Nat), q ≤ (nd Gq i).ln.length ∧ m = (nd Gq i).ln.length - q ∧ g 40 = .int .i64 q ∧ g 10 = .slice A10 xs.length cap10 ∧ xs = askP fs Gq i q ∧ Bel w w' ∧ Blk w' b2 25 #[.slice A l.length c, .slice B fs.length d] ∧ Blk w' b4 28 #[.slice none 0 0] ∧ Blk w' b6 28 #[.slice (some ⟨gF, 0, none⟩) Gq.length cF] ∧ GrT w' zlo zhi (some ⟨gF, 0, none⟩) cF Gq (fun x => ((tyO Gq x : Nat) : Int)) ∧ Own w' zhi 3 1 A7 ts.length cap7 (oV ts) ∧ Own w' bA 3 1 A10 xs.length cap10 (oV xs) ∧ RowO w' zlo zhi (.slice LA (nd Gq i).ln.length lc) (nd Gq i).ln ∧ bA ≤ w'.heap.size) ((nd Gq i).ln.length) ?_ (fun m g8 w11 hI => ?_)
  ·
   exact ⟨0, _, _, _, Nat.zero_le _, rfl, rfl, rfl, rfl, hB, hb2, hb4, hb6, hgr, hty, hask, hro, hbz⟩
  obtain ⟨q, A10, cap10, xs, hq, hmq, h40, h10, hxs, hB, hb2, hb4, hb6, hgr, hty, hask, hro, hbz⟩ := hI
  refine c_know 40 (.int .i64 q) h40 nu (c_know 10 (.slice A10 xs.length cap10) h10 nu (c_seq (c_region (wl (r_lss rfl rfl) (x_nil ?_)))))
  refine e_S (c_seq ?_)
  refine c_ifd rfl (fun c41 => ?_) (fun c41 => ?_)
  ·
   have hql : q < (nd Gq i).ln.length := by omega
   obtain ⟨lb, lof, rfl, hlb, hlr⟩ := hro.lks.at_ (Below.refl _ _ : Bel w11 w11) hql
   have hxr := hfr _ hil _ (List.getElem_mem hql)
   obtain ⟨fi, hfi, hfl⟩ : ∃ t : Nat, ((nd Gq i).ln[q]'hql).1 = (t : Int) ∧ t < fs.length := ⟨(((nd Gq i).ln[q]'hql).1).toNat, by omega, by omega⟩
   have hff := hgl.f.at_ fi hfl
   obtain ⟨on, hon, honl⟩ : ∃ t : Nat, (fs[fi]'hfl).of = (t : Int) ∧ t < l.length := ⟨(fs[fi]'hfl).of.toNat, by omega, by omega⟩
   obtain ⟨vn, hvn, hvnl⟩ : ∃ t : Nat, (fs[fi]'hfl).val = (t : Int) ∧ t < l.length := ⟨(fs[fi]'hfl).val.toNat, by omega, by omega⟩
   obtain ⟨fb, fo, rfl, hfb, hfr2⟩ := hF.at_ (Below.refl _ _ : Bel w w) hfl
   rw [hon, hvn] at hfr2
   have hfa : ftAt fs ((nd Gq i).ln[q]'hql).1 = fs[fi] := by rw [hfi]; simp [ftAt, List.getD, hfl]
   have hof : (ftAt fs ((nd Gq i).ln[q]'hql).1).of.toNat = on := by rw [hfa, hon]; rfl
   have hvl : (ftAt fs ((nd Gq i).ln[q]'hql).1).val.toNat = vn := by rw [hfa, hvn]; rfl
   have hxl : xs.length ≤ 42 := by rw [hxs]; have := askP_len (fs := fs) (G := Gq) i q; have := hlnn i; omega
   refine c_skip (e_S (c_seq (c_block (c_seq (c_region ?_)))))
   refine wl (r_ia (i := q) U31 sz30 rfl rfl om rfl) (wl (r_ldS U30 rfl rfl hlr sz30) ?_)
   refine wl_al (cs := #[.int .i64 0, .int .i64 0]) ze30 rfl (fun b12 w12 hb12 hs hr => ?_)
   have or_b2_b12 : b2 < b12 := nLL hb2.lt hr
   have or_b4_b12 : b4 < b12 := nLL hb4.lt hr
   have or_b6_b12 : b6 < b12 := nLL hb6.lt hr
   have or_hask_b12 := fun g hg => nLL (hask.lt g hg).2 hr
   have or_hbz_b12 := (nLT hbz hr)
   have lo12 := nLT (Bel.size hB) hr
   replace hB := hB.tr0 hs
   replace hb2 := hb2.tr0 hs
   replace hb4 := hb4.tr0 hs
   replace hb6 := hb6.tr0 hs
   replace hgr := hgr.tr hs (by simp)
   replace hty := hty.tr0 hs
   replace hask := hask.tr0 hs
   replace hro := hro.tr hs (by simp)
   replace hbz := nLT hbz (Same.size hs)
   clear hs
   clear hr
   refine wl_stW hb12 rfl rfl sz30 rfl oneA (fun w13 hq hs => ?_)
   replace hB := hB.tr1 hs lo12
   replace hb2 := hb2.tr1 hs om
   replace hb4 := hb4.tr1 hs om
   replace hb6 := hb6.tr1 hs om
   replace hgr := hgr.tr hs (fun g hg => by rw [List.mem_singleton.1 hg]; omega)
   replace hty := hty.tr1 hs (fun g hg => by first | (have := hub g hg; omega) | (have := List.mem_singleton.1 hg; omega))
   replace hask := hask.tr1 hs (fun g hg => by have := (hask.lt g hg).1; (try have := or_hask_b12 g hg); (try simp only [aL] at hg); (try simp only [List.mem_singleton] at hg); omega)
   replace hro := hro.tr hs (fun g hg => by rw [List.mem_singleton.1 hg]; exact .inl om)
   replace hbz := nLT hbz (Same.size hs)
   clear hs
   replace hb12 := hq
   refine x_nil (e_S ?_)
   rw [hfi] at hb12
   refine c_region (wmS rfl (wl (r_fa U25 sz23_GLoose dE rfl rfl rfl) (wl (r_ld1 (v := .slice _ _ _) U23 rfl rfl (hb2.cell rfl)) (wl (r_fa U30 sz3_GLoose dE rfl rfl rfl) (wl (r_ld1 (v := .int _ _) U3 rfl rfl (hb12.cell rfl)) ?_)))))
   refine wl (r_ia (i := fi) U23 sz61_GVal rfl rfl om rfl) (wl (r_fa U61 sz3_GLoose dE rfl rfl rfl) (wl (r_ld1 (v := .int _ _) U3 rfl rfl (hB.cell hfb (hfr2 1 _ rfl))) ?_))
   refine wl_bs (cs := #[_]) [(0, .int _ _)] rfl U46 sz3_GLoose ze3_GUnr dE dE kR rfl (fun b52 w14 hb52 hs hr => ?_)
   have or_b2_b52 : b2 < b52 := nLL hb2.lt hr
   have or_b4_b52 : b4 < b52 := nLL hb4.lt hr
   have or_b6_b52 : b6 < b52 := nLL hb6.lt hr
   have or_hask_b52 := fun g hg => nLL (hask.lt g hg).2 hr
   have or_hbz_b52 := (nLT hbz hr)
   have or_b12_b52 : b12 < b52 := nLL hb12.lt hr
   have lo52 := nLT (Bel.size hB) hr
   replace hB := hB.tr0 hs
   replace hb2 := hb2.tr0 hs
   replace hb4 := hb4.tr0 hs
   replace hb6 := hb6.tr0 hs
   replace hgr := hgr.tr hs (by simp)
   replace hty := hty.tr0 hs
   replace hask := hask.tr0 hs
   replace hro := hro.tr hs (by simp)
   replace hbz := nLT hbz (Same.size hs)
   replace hb12 := hb12.tr0 hs
   clear hs
   clear hr
   refine wl_app U46 in3 rfl dE hask hb52 rfl rfl rfl oneA dE om om om (fun g53 cap53 w15 ho53 hs hg => ?_)
   have ne_ho53_b2 : g53 ≠ b2 := fun e => by
    have hl := hb2.lt
    rcases hg with hg | hg
    · have h1 := hask.lt g53 (by rw [hg]; exact List.mem_singleton.2 rfl)
      (try have := or_hask_b2 g53 (by rw [hg]; exact List.mem_singleton.2 rfl)); omega
    · omega
   have ne_ho53_b4 : g53 ≠ b4 := fun e => by
    have hl := hb4.lt
    rcases hg with hg | hg
    · have h1 := hask.lt g53 (by rw [hg]; exact List.mem_singleton.2 rfl)
      (try have := or_hask_b4 g53 (by rw [hg]; exact List.mem_singleton.2 rfl)); omega
    · omega
   have ne_ho53_b6 : g53 ≠ b6 := fun e => by
    have hl := hb6.lt
    rcases hg with hg | hg
    · have h1 := hask.lt g53 (by rw [hg]; exact List.mem_singleton.2 rfl)
      (try have := or_hask_b6 g53 (by rw [hg]; exact List.mem_singleton.2 rfl)); omega
    · omega
   have ne_ho53_b12 : g53 ≠ b12 := fun e => by
    have hl := hb12.lt
    rcases hg with hg | hg
    · have h1 := hask.lt g53 (by rw [hg]; exact List.mem_singleton.2 rfl)
      (try have := or_hask_b12 g53 (by rw [hg]; exact List.mem_singleton.2 rfl)); omega
    · omega
   replace hB := hB.tr hs (fun g hg => nLT hwA (hask.lt g hg).1)
   replace hb2 := hb2.tr hs (fun hx => by have := (hask.lt _ hx).1; (try have := or_hask_b2 _ hx); omega)
   replace hb4 := hb4.tr hs (fun hx => by have := (hask.lt _ hx).1; (try have := or_hask_b4 _ hx); omega)
   replace hb6 := hb6.tr hs (fun hx => by have := (hask.lt _ hx).1; (try have := or_hask_b6 _ hx); omega)
   replace hgr := hgr.tr hs (fun g hg => .inr (by have := (hask.lt _ hg).1; omega))
   replace hty := hty.tr hs (fun g hg hx => by have := (hask.lt _ hx).1; have := hub g hg; omega)
   replace hro := hro.tr hs (fun g hg => .inl (by have := (hask.lt _ hg).1; omega))
   replace hbz := nLT hbz (Same.size hs)
   replace hb12 := hb12.tr hs (fun hx => by have := (hask.lt _ hx).1; (try have := or_hask_b12 _ hx); omega)
   have hask : Own w15 bA 3 1 (some ⟨g53, 0, none⟩) (xs ++ [on]).length cap53 (oV (xs ++ [on])) := by
     rw [← oV_snoc, List.length_append]; exact ho53
   refine waS rfl (x_nil (e_B (e_S (c_region (wl (r_add rfl rfl rfl om) ?_)))))
   refine wmI rfl (x_nil (e_LS ((nd Gq i).ln.length - (q + 1)) om agA ?_))
   exact ⟨q + 1, _, _, xs ++ [on], by omega, rfl, rfl, sl_lenF (by simp), by rw [hxs, askP_succ hql, hof], hB, hb2, hb4, hb6, hgr, hty, hask, hro, hbz⟩
  have hqe : q = (nd Gq i).ln.length := by omega
  rw [← askQ_start om] at hxs
  refine c_exit (e_Sx (e_LSx (e_Bx (e_S (c_seq ?_)))))
  refine c_seq (c_region (wl (r_fa U28 sz26 dE rfl rfl rfl) (wl (r_ld1 (v := .slice _ _ _) U26 rfl rfl (hb6.cell rfl)) (wl (r_len U26 rfl) (wmI rfl ?_)))))
  refine x_nil (e_S (c_block ?_))
  refine c_loopS [10, 14, 16, 58, 59, 60, 61, 62, 63, 64, 65, 66, 67, 68, 69, 70, 71, 72, 73, 74, 75, 76, 77, 78, 79, 80, 81, 82, 83, 84] (fun m g w' => ∃ (j : Nat) (A10 : Option Addr) (cap10 : Nat) (xs : List Nat), j ≤ Gq.length ∧ m = Gq.length - j ∧ g 58 = .int .i64 j ∧ g 10 = .slice A10 xs.length cap10 ∧ xs = askQ fs Gq i j 0 ∧ Bel w w' ∧ Blk w' b2 25 #[.slice A l.length c, .slice B fs.length d] ∧ Blk w' b4 28 #[.slice none 0 0] ∧ Blk w' b6 28 #[.slice (some ⟨gF, 0, none⟩) Gq.length cF] ∧ GrT w' zlo zhi (some ⟨gF, 0, none⟩) cF Gq (fun x => ((tyO Gq x : Nat) : Int)) ∧ Own w' zhi 3 1 A7 ts.length cap7 (oV ts) ∧ Own w' bA 3 1 A10 xs.length cap10 (oV xs) ∧ bA ≤ w'.heap.size) (Gq.length) ?_ (fun m g13 w16 hI => ?_)
  ·
   exact ⟨0, _, _, xs, Nat.zero_le _, rfl, rfl, rfl, hxs, hB, hb2, hb4, hb6, hgr, hty, hask, hbz⟩
  obtain ⟨j, A10, cap10, xs, hj, hmj, h58, h10, hxs, hB, hb2, hb4, hb6, hgr, hty, hask, hbz⟩ := hI
  refine c_know 58 (.int .i64 j) h58 nu (c_know 10 (.slice A10 xs.length cap10) h10 nu (c_seq (c_region (wl (r_lss rfl rfl) (x_nil ?_)))))
  refine e_S (c_seq ?_)
  refine c_ifd rfl (fun c59 => ?_) (fun c59 => ?_)
  ·
   have hjl : j < Gq.length := by omega
   obtain ⟨LB, lcb, hrgb, hro⟩ := hgr.nd_ hjl
   have hmxb := hro.lks.1
   unfold maxI at hmxb
   refine c_skip (e_S (c_seq (c_block (c_seq (c_region ?_)))))
   refine wl (r_ia (i := j) U26 sz33 rfl rfl hjl rfl) (wl (r_ldS U33 rfl rfl hrgb sz33) ?_)
   refine wl_al (cs := #[.int .i64 0, .slice none 0 0]) ze33 rfl (fun b14 w17 hb14 hs hr => ?_)
   have or_b2_b14 : b2 < b14 := nLL hb2.lt hr
   have or_b4_b14 : b4 < b14 := nLL hb4.lt hr
   have or_b6_b14 : b6 < b14 := nLL hb6.lt hr
   have or_hask_b14 := fun g hg => nLL (hask.lt g hg).2 hr
   have or_hbz_b14 := (nLT hbz hr)
   have lo14 := nLT (Bel.size hB) hr
   replace hB := hB.tr0 hs
   replace hb2 := hb2.tr0 hs
   replace hb4 := hb4.tr0 hs
   replace hb6 := hb6.tr0 hs
   replace hgr := hgr.tr hs (by simp)
   replace hty := hty.tr0 hs
   replace hask := hask.tr0 hs
   replace hbz := nLT hbz (Same.size hs)
   replace hro := hro.tr hs (by simp)
   clear hs
   clear hr
   refine wl_stW hb14 rfl rfl sz33 rfl oneA (fun w18 hq hs => ?_)
   replace hB := hB.tr1 hs lo14
   replace hb2 := hb2.tr1 hs om
   replace hb4 := hb4.tr1 hs om
   replace hb6 := hb6.tr1 hs om
   replace hgr := hgr.tr hs (fun g hg => by rw [List.mem_singleton.1 hg]; omega)
   replace hty := hty.tr1 hs (fun g hg => by first | (have := hub g hg; omega) | (have := List.mem_singleton.1 hg; omega))
   replace hask := hask.tr1 hs (fun g hg => by have := (hask.lt g hg).1; (try have := or_hask_b14 g hg); (try simp only [aL] at hg); (try simp only [List.mem_singleton] at hg); omega)
   replace hbz := nLT hbz (Same.size hs)
   replace hro := hro.tr hs (fun g hg => by rw [List.mem_singleton.1 hg]; exact .inl om)
   clear hs
   replace hb14 := hq
   refine x_nil (e_S (c_seq (c_region (wl (r_fa U33 sz31 dE rfl rfl rfl) (wl (r_ld1 (v := .slice _ _ _) U31 rfl rfl (hb14.cell rfl)) ?_)))))
   refine wl (r_len U31 rfl) (wmI rfl (x_nil (e_S (c_block ?_))))
   refine c_loopS [10, 16, 65, 66, 67, 68, 69, 70, 71, 72, 73, 74, 75, 76, 77, 78, 79, 80, 81, 82, 83] (fun m g w' => ∃ (p : Nat) (A10 : Option Addr) (cap10 : Nat) (xs : List Nat), p ≤ (nd Gq j).ln.length ∧ m = (nd Gq j).ln.length - p ∧ g 65 = .int .i64 p ∧ g 10 = .slice A10 xs.length cap10 ∧ xs = askQ fs Gq i j p ∧ Bel w w' ∧ Blk w' b2 25 #[.slice A l.length c, .slice B fs.length d] ∧ Blk w' b4 28 #[.slice none 0 0] ∧ Blk w' b6 28 #[.slice (some ⟨gF, 0, none⟩) Gq.length cF] ∧ GrT w' zlo zhi (some ⟨gF, 0, none⟩) cF Gq (fun x => ((tyO Gq x : Nat) : Int)) ∧ Own w' zhi 3 1 A7 ts.length cap7 (oV ts) ∧ Own w' bA 3 1 A10 xs.length cap10 (oV xs) ∧ RowO w' zlo zhi (.slice LB (nd Gq j).ln.length lcb) (nd Gq j).ln ∧ bA ≤ w'.heap.size) ((nd Gq j).ln.length) ?_ (fun m g16 w19 hI => ?_)
   ·
    exact ⟨0, _, _, xs, Nat.zero_le _, rfl, rfl, rfl, hxs, hB, hb2, hb4, hb6, hgr, hty, hask, hro, hbz⟩
   obtain ⟨p, A10, cap10, xs, hp, hmp, h65, h10, hxs, hB, hb2, hb4, hb6, hgr, hty, hask, hro, hbz⟩ := hI
   refine c_know 65 (.int .i64 p) h65 nu (c_know 10 (.slice A10 xs.length cap10) h10 nu (c_seq (c_region (wl (r_lss rfl rfl) (x_nil ?_)))))
   refine e_S (c_seq ?_)
   refine c_ifd rfl (fun c66 => ?_) (fun c66 => ?_)
   ·
    have hpl : p < (nd Gq j).ln.length := by omega
    obtain ⟨lb, lof, rfl, hlb, hlr⟩ := hro.lks.at_ (Below.refl _ _ : Bel w19 w19) hpl
    have hxr := hfr _ hjl _ (List.getElem_mem hpl)
    obtain ⟨fi, hfi, hfl⟩ : ∃ t : Nat, ((nd Gq j).ln[p]'hpl).1 = (t : Int) ∧ t < fs.length := ⟨(((nd Gq j).ln[p]'hpl).1).toNat, by omega, by omega⟩
    have hff := hgl.f.at_ fi hfl
    obtain ⟨on, hon, honl⟩ : ∃ t : Nat, (fs[fi]'hfl).of = (t : Int) ∧ t < l.length := ⟨(fs[fi]'hfl).of.toNat, by omega, by omega⟩
    obtain ⟨vn, hvn, hvnl⟩ : ∃ t : Nat, (fs[fi]'hfl).val = (t : Int) ∧ t < l.length := ⟨(fs[fi]'hfl).val.toNat, by omega, by omega⟩
    obtain ⟨fb, fo, rfl, hfb, hfr2⟩ := hF.at_ (Below.refl _ _ : Bel w w) hfl
    rw [hon, hvn] at hfr2
    have hfa : ftAt fs ((nd Gq j).ln[p]'hpl).1 = fs[fi] := by rw [hfi]; simp [ftAt, List.getD, hfl]
    have hof : (ftAt fs ((nd Gq j).ln[p]'hpl).1).of.toNat = on := by rw [hfa, hon]; rfl
    have hvl : (ftAt fs ((nd Gq j).ln[p]'hpl).1).val.toNat = vn := by rw [hfa, hvn]; rfl
    have hxl : xs.length ≤ 3000 := by rw [hxs]; have := askQ_len (fs := fs) hlnn i j p; have := hlnn j; omega
    refine c_skip (e_S (c_seq (c_block (c_seq (c_region ?_)))))
    refine wl (r_ia (i := p) U31 sz30 rfl rfl om rfl) (wl (r_ldS U30 rfl rfl hlr sz30) ?_)
    refine wl_al (cs := #[.int .i64 0, .int .i64 0]) ze30 rfl (fun b16 w20 hb16 hs hr => ?_)
    have or_b2_b16 : b2 < b16 := nLL hb2.lt hr
    have or_b4_b16 : b4 < b16 := nLL hb4.lt hr
    have or_b6_b16 : b6 < b16 := nLL hb6.lt hr
    have or_hask_b16 := fun g hg => nLL (hask.lt g hg).2 hr
    have or_hbz_b16 := (nLT hbz hr)
    have lo16 := nLT (Bel.size hB) hr
    replace hB := hB.tr0 hs
    replace hb2 := hb2.tr0 hs
    replace hb4 := hb4.tr0 hs
    replace hb6 := hb6.tr0 hs
    replace hgr := hgr.tr hs (by simp)
    replace hty := hty.tr0 hs
    replace hask := hask.tr0 hs
    replace hro := hro.tr hs (by simp)
    replace hbz := nLT hbz (Same.size hs)
    clear hs
    clear hr
    refine wl_stW hb16 rfl rfl sz30 rfl oneA (fun w21 hq hs => ?_)
    replace hB := hB.tr1 hs lo16
    replace hb2 := hb2.tr1 hs om
    replace hb4 := hb4.tr1 hs om
    replace hb6 := hb6.tr1 hs om
    replace hgr := hgr.tr hs (fun g hg => by rw [List.mem_singleton.1 hg]; omega)
    replace hty := hty.tr1 hs (fun g hg => by first | (have := hub g hg; omega) | (have := List.mem_singleton.1 hg; omega))
    replace hask := hask.tr1 hs (fun g hg => by have := (hask.lt g hg).1; (try have := or_hask_b16 g hg); (try simp only [aL] at hg); (try simp only [List.mem_singleton] at hg); omega)
    replace hro := hro.tr hs (fun g hg => by rw [List.mem_singleton.1 hg]; exact .inl om)
    replace hbz := nLT hbz (Same.size hs)
    clear hs
    replace hb16 := hq
    refine x_nil (e_S (c_seq (c_region (wl (r_fa U30 sz3_GLoose dE rfl rfl rfl) (wl (r_ld1 (v := .int _ _) U3 rfl rfl (hb16.cell rfl)) ?_)))))
    refine wmI rfl (wl (r_eql rfl rfl) (x_nil (e_S ?_)))
    refine c_ifd rfl (fun c72 => ?_) (fun c72 => ?_)
    ·
     rw [hfi] at hb16
     refine c_region (wmS rfl (wl (r_fa U25 sz23_GLoose dE rfl rfl rfl) (wl (r_ld1 (v := .slice _ _ _) U23 rfl rfl (hb2.cell rfl)) (wl (r_fa U30 sz3_GLoose dE rfl rfl rfl) (wl (r_ld1 (v := .int _ _) U3 rfl rfl (hb16.cell rfl)) ?_)))))
     refine wl (r_ia (i := fi) U23 sz61_GVal rfl rfl om rfl) (wl (r_fa U61 sz3_GLoose dE rfl rfl rfl) (wl (r_ld1 (v := .int _ _) U3 rfl rfl (hB.cell hfb (hfr2 2 _ rfl))) ?_))
     refine wl_bs (cs := #[_]) [(0, .int _ _)] rfl U46 sz3_GLoose ze3_GUnr dE dE kR rfl (fun b81 w22 hb81 hs hr => ?_)
     have or_b2_b81 : b2 < b81 := nLL hb2.lt hr
     have or_b4_b81 : b4 < b81 := nLL hb4.lt hr
     have or_b6_b81 : b6 < b81 := nLL hb6.lt hr
     have or_hask_b81 := fun g hg => nLL (hask.lt g hg).2 hr
     have or_hbz_b81 := (nLT hbz hr)
     have or_b16_b81 : b16 < b81 := nLL hb16.lt hr
     have lo81 := nLT (Bel.size hB) hr
     replace hB := hB.tr0 hs
     replace hb2 := hb2.tr0 hs
     replace hb4 := hb4.tr0 hs
     replace hb6 := hb6.tr0 hs
     replace hgr := hgr.tr hs (by simp)
     replace hty := hty.tr0 hs
     replace hask := hask.tr0 hs
     replace hro := hro.tr hs (by simp)
     replace hbz := nLT hbz (Same.size hs)
     replace hb16 := hb16.tr0 hs
     clear hs
     clear hr
     refine wl_app U46 in3 rfl dE hask hb81 rfl rfl rfl oneA dE om om om (fun g82 cap82 w23 ho82 hs hg => ?_)
     have ne_ho82_b2 : g82 ≠ b2 := fun e => by
      have hl := hb2.lt
      rcases hg with hg | hg
      · have h1 := hask.lt g82 (by rw [hg]; exact List.mem_singleton.2 rfl)
        (try have := or_hask_b2 g82 (by rw [hg]; exact List.mem_singleton.2 rfl)); omega
      · omega
     have ne_ho82_b4 : g82 ≠ b4 := fun e => by
      have hl := hb4.lt
      rcases hg with hg | hg
      · have h1 := hask.lt g82 (by rw [hg]; exact List.mem_singleton.2 rfl)
        (try have := or_hask_b4 g82 (by rw [hg]; exact List.mem_singleton.2 rfl)); omega
      · omega
     have ne_ho82_b6 : g82 ≠ b6 := fun e => by
      have hl := hb6.lt
      rcases hg with hg | hg
      · have h1 := hask.lt g82 (by rw [hg]; exact List.mem_singleton.2 rfl)
        (try have := or_hask_b6 g82 (by rw [hg]; exact List.mem_singleton.2 rfl)); omega
      · omega
     have ne_ho82_b16 : g82 ≠ b16 := fun e => by
      have hl := hb16.lt
      rcases hg with hg | hg
      · have h1 := hask.lt g82 (by rw [hg]; exact List.mem_singleton.2 rfl)
        (try have := or_hask_b16 g82 (by rw [hg]; exact List.mem_singleton.2 rfl)); omega
      · omega
     replace hB := hB.tr hs (fun g hg => nLT hwA (hask.lt g hg).1)
     replace hb2 := hb2.tr hs (fun hx => by have := (hask.lt _ hx).1; (try have := or_hask_b2 _ hx); omega)
     replace hb4 := hb4.tr hs (fun hx => by have := (hask.lt _ hx).1; (try have := or_hask_b4 _ hx); omega)
     replace hb6 := hb6.tr hs (fun hx => by have := (hask.lt _ hx).1; (try have := or_hask_b6 _ hx); omega)
     replace hgr := hgr.tr hs (fun g hg => .inr (by have := (hask.lt _ hg).1; omega))
     replace hty := hty.tr hs (fun g hg hx => by have := (hask.lt _ hx).1; have := hub g hg; omega)
     replace hro := hro.tr hs (fun g hg => .inl (by have := (hask.lt _ hg).1; omega))
     replace hbz := nLT hbz (Same.size hs)
     replace hb16 := hb16.tr hs (fun hx => by have := (hask.lt _ hx).1; (try have := or_hask_b16 _ hx); omega)
     have hask : Own w23 bA 3 1 (some ⟨g82, 0, none⟩) (xs ++ [vn]).length cap82 (oV (xs ++ [vn])) := by
       rw [← oV_snoc, List.length_append]; exact ho82
     refine waS rfl (x_nil (e_B (e_S (c_region (wl (r_add rfl rfl rfl om) ?_)))))
     refine wmI rfl (x_nil (e_LS ((nd Gq j).ln.length - (p + 1)) om agA ?_))
     first
       | exact ⟨p + 1, _, _, xs ++ [vn], by omega, rfl, rfl, sl_lenF (by simp), by rw [hxs, askQ_yes hpl c72, hvl], hB, hb2, hb4, hb6, hgr, hty, hask, hro, hbz⟩
       | exact ⟨p + 1, _, _, xs, by omega, rfl, rfl, rfl, by rw [hxs, askQ_no hpl c72], hB, hb2, hb4, hb6, hgr, hty, hask, hro, hbz⟩
    refine c_skip (e_B (e_S (c_region (wl (r_add rfl rfl rfl om) (wmI rfl ?_)))))
    refine x_nil (e_LS ((nd Gq j).ln.length - (p + 1)) om agA ?_)
    first
      | exact ⟨p + 1, _, _, xs ++ [vn], by omega, rfl, rfl, sl_lenF (by simp), by rw [hxs, askQ_yes hpl c72, hvl], hB, hb2, hb4, hb6, hgr, hty, hask, hro, hbz⟩
      | exact ⟨p + 1, _, _, xs, by omega, rfl, rfl, rfl, by rw [hxs, askQ_no hpl c72], hB, hb2, hb4, hb6, hgr, hty, hask, hro, hbz⟩
   have hpe : p = (nd Gq j).ln.length := by omega
   refine c_exit (e_Sx (e_LSx (e_Bx (e_B (e_S ?_)))))
   refine c_region (wl (r_add rfl rfl rfl om) (wmI rfl (x_nil (e_LS (Gq.length - (j + 1)) om agA ?_))))
   exact ⟨j + 1, _, _, xs, by omega, rfl, rfl, rfl, by rw [hxs, askQ_row (p := p) om], hB, hb2, hb4, hb6, hgr, hty, hask, hbz⟩
  have hje : j = Gq.length := by omega
  subst hje
  rw [askQ_all] at hxs
  have hxa : ∀ a ∈ xs, a < l.length := by rw [hxs]; exact asked_lt hgx hS0 hgl.f hfr hil
  refine c_exit (e_Sx (e_LSx (e_Bx (e_S (c_seq ?_)))))
  refine c_region (waI rfl (x_nil (e_S (c_seq (c_seq ?_)))))
  refine c_region (wl (r_fa U25 sz22_GLoose dE rfl rfl rfl) (wl (r_ld1 (v := .slice _ _ _) U22 rfl rfl (hb2.cell rfl)) (wl (r_len U22 rfl) (wmI rfl (x_nil ?_)))))
  refine e_S (c_block ?_)
  refine c_loopS [17, 18, 19, 21, 88, 89, 90, 91, 92, 93, 94, 95, 96, 97, 98, 99, 100, 101, 102, 103, 104, 105, 106, 107, 108, 109, 110, 111, 112] (fun m g w' => ∃ (k : Nat) (t : Int), k ≤ l.length ∧ m = l.length - k ∧ g 88 = .int .i64 k ∧ g 17 = .int .i64 t ∧ FstK l xs k t ∧ SameQ [] w16 w') (l.length) ?_ (fun m g24 w24 hI => ?_)
  ·
   exact ⟨0, -1, Nat.zero_le _, rfl, rfl, rfl, FstK.start, Same.refl _ _⟩
  obtain ⟨k, t, hk, hmk, h88, h17, hfk, hS⟩ := hI
  replace hB := hB.tr0 hS
  replace hb2 := hb2.tr0 hS
  replace hb4 := hb4.tr0 hS
  replace hb6 := hb6.tr0 hS
  replace hgr := hgr.tr hS (by simp)
  replace hty := hty.tr0 hS
  replace hask := hask.tr0 hS
  replace hbz := nLT hbz (Same.size hS)
  refine c_know 88 (.int .i64 k) h88 nu (c_know 17 (.int .i64 t) h17 nu (c_seq (c_region (wl (r_lss rfl rfl) (x_nil ?_)))))
  refine e_S (c_seq ?_)
  refine c_ifd rfl (fun c89 => ?_) (fun c89 => ?_)
  ·
   have hkl : k < l.length := by omega
   refine c_skip (e_S (c_seq (c_block (c_seq (c_region ?_)))))
   refine wmI rfl (waI rfl (x_nil (e_S (c_seq (c_region ?_)))))
   refine waB rfl (x_nil (e_S (c_seq (c_seq (c_region ?_)))))
   refine wmS rfl (wl (r_len U46 rfl) (wmI rfl (x_nil (e_S (c_block ?_)))))
   refine c_loopS [19, 21, 93, 94, 95, 96, 97, 98, 99, 100, 101, 102, 103, 104, 105] (fun m g w' => ∃ y : Nat, y ≤ xs.length ∧ m = xs.length - y ∧ g 93 = .int .i64 y ∧ g 19 = .bool ((xs.take y).all (fun a => sub l k a)) ∧ SameQ [] w24 w') (xs.length) ?_ (fun m g28 w25 hI => ?_)
   ·
    exact ⟨0, Nat.zero_le _, rfl, rfl, rfl, Same.refl _ _⟩
   obtain ⟨y, hy, hmy, h93, h19, hS2⟩ := hI
   replace hB := hB.tr0 hS2
   replace hb2 := hb2.tr0 hS2
   replace hb4 := hb4.tr0 hS2
   replace hb6 := hb6.tr0 hS2
   replace hgr := hgr.tr hS2 (by simp)
   replace hty := hty.tr0 hS2
   replace hask := hask.tr0 hS2
   replace hbz := nLT hbz (Same.size hS2)
   replace hS := SameQ.trans hS hS2 (by simp)
   refine c_know 93 (.int .i64 y) h93 nu (c_know 19 (.bool ((xs.take y).all (fun a => sub l k a))) h19 nu (c_seq (c_region (wl (r_lss rfl rfl) (x_nil ?_)))))
   refine e_S (c_seq ?_)
   refine c_ifd rfl (fun c94 => ?_) (fun c94 => ?_)
   ·
    have hxmx := hask.max
    have hyl : y < xs.length := by omega
    obtain ⟨qA, rfl⟩ := oV_addr hask om
    refine c_skip (e_S (c_seq (c_block (c_seq (c_region ?_)))))
    refine wl (r_ia (i := y) U46 sz3_GLoose rfl rfl om rfl) (wl (r_ld1 (v := .int _ _) U3 rfl rfl (oV_cell hask hyl)) (waI rfl (x_nil (e_S ?_))))
    refine c_cutS [19, 97, 98, 99, 100, 101, 102, 103, 104] (fun g w' => (g 19 = .bool ((xs.take (y + 1)).all (fun a => sub l k a))) ∧ Same [] w25 w') ?_ (fun g30 w26 hI => ?_)
    ·
     have hZ : SameQ [] w25 w25 := Same.refl _ _
     refine c_region (wmB rfl (wmB rfl ?_))
     refine wl_cases 98 rfl (fun g98 => ?_) (fun g98 => ?_)
     ·
      refine wl_gd 98 rfl rfl (wl (r_fa U25 sz22_GLoose dE rfl rfl rfl) (wl_gd 98 rfl rfl (wl (r_ld1 (v := .slice _ _ _) U22 rfl rfl (hb2.cell rfl)) (wl_gd 98 rfl rfl (wmI rfl ?_)))))
      refine wl_gd 98 rfl rfl (wmI rfl (wl_gd 98 rfl rfl ?_))
      refine wl_cl fn24_GVal (sub_any A c l k (xs[y]'hyl) _ (hT.mono hB) hvt hl60 hkl (hxa _ (List.getElem_mem hyl))) rfl (fun e' w27 hr => ?_)
      obtain ⟨rfl, hs⟩ := hr
      replace hs := Same.of_bel hs
      replace hB := hB.tr0 hs
      replace hb2 := hb2.tr0 hs
      replace hb4 := hb4.tr0 hs
      replace hb6 := hb6.tr0 hs
      replace hgr := hgr.tr hs (by simp)
      replace hty := hty.tr0 hs
      replace hask := hask.tr0 hs
      replace hbz := nLT hbz (Same.size hs)
      replace hS := SameQ.trans hS hs (by simp)
      replace hS2 := SameQ.trans hS2 hs (by simp)
      replace hZ := SameQ.trans hZ hs (by simp)
      clear hs
      refine ⟨_, rfl, ?_⟩
      refine wl (r_pt (v := .bool _) rfl rfl) (waB rfl (x_nil ?_))
      refine e_R ⟨agA, ?_⟩
      refine ⟨?_, hZ⟩
      refine congrArg Value.bool ?_
      first
        | exact (all_succ hyl g98).symm
        | exact (all_fail hyl g98).symm
     refine wlgn 98 rfl rfl rfl (wlgn 98 rfl rfl rfl (wlgn 98 rfl rfl rfl (wlgn 98 rfl rfl rfl (wlgn 98 rfl rfl rfl (wl (r_pf (v := .bool _) rfl rfl) ?_)))))
     refine waB rfl (x_nil ?_)
     refine e_R ⟨agA, ?_⟩
     refine ⟨?_, hZ⟩
     refine congrArg Value.bool ?_
     first
       | exact (all_succ hyl g98).symm
       | exact (all_fail hyl g98).symm
    obtain ⟨h19, hs⟩ := hI
    replace hB := hB.tr0 hs
    replace hb2 := hb2.tr0 hs
    replace hb4 := hb4.tr0 hs
    replace hb6 := hb6.tr0 hs
    replace hgr := hgr.tr hs (by simp)
    replace hty := hty.tr0 hs
    replace hask := hask.tr0 hs
    replace hbz := nLT hbz (Same.size hs)
    replace hS := SameQ.trans hS hs (by simp)
    replace hS2 := SameQ.trans hS2 hs (by simp)
    clear hs
    refine e_know 19 (.bool ((xs.take (y + 1)).all (fun a => sub l k a))) h19 nu (e_B (e_S (c_region (wl (r_add rfl rfl rfl om) (wmI rfl ?_)))))
    refine x_nil (e_LS (xs.length - (y + 1)) om agA ?_)
    exact ⟨y + 1, by omega, rfl, rfl, rfl, hS2⟩
   have hye : y = xs.length := by omega
   subst hye
   refine c_exit (e_Sx (e_LSx (e_Bx (e_S (c_seq ?_)))))
   refine c_cutS [106, 107, 108, 109, 110] (fun g w' => (g 110 = .bool (decide (xs.all (fun a => sub l k a) = true ∧ t < 0))) ∧ Same [] w25 w') ?_ (fun g32 w28 hI => ?_)
   ·
    have hZ : SameQ [] w25 w25 := Same.refl _ _
    refine c_region (wmB rfl (wmB rfl ?_))
    refine wl_cases 107 rfl (fun g107 => ?_) (fun g107 => ?_)
    ·
     refine wl_gd 107 rfl rfl (wmI rfl (wl_gd 107 rfl rfl (wl (r_lss rfl rfl) (wl (r_pt (v := .bool _) rfl rfl) (x_nil ?_)))))
     refine e_R ⟨agA, ?_⟩
     refine ⟨?_, hZ⟩
     refine congrArg Value.bool ?_
     rw [List.take_length] at g107
     first
       | exact decide_eq_decide.2 ⟨fun h => ⟨g107, h⟩, fun h => h.2⟩
       | exact (decide_eq_false (fun h => by rw [h.1] at g107; cases g107)).symm
    refine wlgn 107 rfl rfl rfl (wlgn 107 rfl rfl rfl (wl (r_pf (v := .bool _) rfl rfl) (x_nil ?_)))
    refine e_R ⟨agA, ?_⟩
    refine ⟨?_, hZ⟩
    refine congrArg Value.bool ?_
    rw [List.take_length] at g107
    first
      | exact decide_eq_decide.2 ⟨fun h => ⟨g107, h⟩, fun h => h.2⟩
      | exact (decide_eq_false (fun h => by rw [h.1] at g107; cases g107)).symm
   obtain ⟨h110, hs⟩ := hI
   replace hB := hB.tr0 hs
   replace hb2 := hb2.tr0 hs
   replace hb4 := hb4.tr0 hs
   replace hb6 := hb6.tr0 hs
   replace hgr := hgr.tr hs (by simp)
   replace hty := hty.tr0 hs
   replace hask := hask.tr0 hs
   replace hbz := nLT hbz (Same.size hs)
   replace hS := SameQ.trans hS hs (by simp)
   clear hs
   refine e_know 110 (.bool (decide (xs.all (fun a => sub l k a) = true ∧ t < 0))) h110 nu (e_S ?_)
   refine c_ifd rfl (fun c110 => ?_) (fun c110 => ?_)
   ·
    refine c_region (wmI rfl (waI rfl (x_nil (e_B (e_S ?_)))))
    refine c_region (wl (r_add rfl rfl rfl om) (wmI rfl (x_nil (e_LS (l.length - (k + 1)) om agA ?_))))
    first
      | exact ⟨k + 1, (k : Int), by omega, rfl, rfl, rfl, hfk.yes c110.1 c110.2, hS⟩
      | exact ⟨k + 1, t, by omega, rfl, rfl, rfl, hfk.no c110, hS⟩
   refine c_skip (e_B (e_S (c_region (wl (r_add rfl rfl rfl om) (wmI rfl ?_)))))
   refine x_nil (e_LS (l.length - (k + 1)) om agA ?_)
   first
     | exact ⟨k + 1, (k : Int), by omega, rfl, rfl, rfl, hfk.yes c110.1 c110.2, hS⟩
     | exact ⟨k + 1, t, by omega, rfl, rfl, rfl, hfk.no c110, hS⟩
  have hke : k = l.length := by omega
  subst hke
  refine c_exit (e_Sx (e_LSx (e_Bx (e_S (c_seq ?_)))))
  refine c_seq (c_region (wmI rfl (wl (r_lss rfl rfl) (x_nil (e_S ?_)))))
  refine c_ifd rfl (fun c114 => ?_) (fun c114 => ?_)
  ·
   have hno := hfk.none c114
   refine c_seq (c_region (wl (r_bd (vs := #[]) (cs := #[.slice none 0 0]) (by simp) kR) ?_))
   refine wl_stW hb4 rfl rfl sz28 rfl oneA (fun w29 hq hs => ?_)
   replace hB := hB.tr1 hs lo4
   replace hb2 := hb2.tr1 hs om
   replace hb6 := hb6.tr1 hs om
   replace hbz := nLT hbz (Same.size hs)
   clear hs
   replace hb4 := hq
   refine waB rfl (x_nil (e_S (c_ret (e_Sr (e_Br ?_)))))
   refine e_Sr (e_LSr (e_Br (e_Sr (fin2 (.inl rfl) rfl (rr_cell U28 rfl rfl hb4.range0 sz28) rfl ?_))))
   exact ⟨⟨none, [], 0, false, rfl, fun w2 _ => nodes_nil w2 none, inr_none hgl hD (by rw [← hGq]; exact hil) (by rw [← hGq, ← hxs]; exact hno)⟩, hB⟩
  obtain ⟨n, rfl, hnl, hfs⟩ := hfk.some c114
  refine c_skip (e_S ?_)
  have or_hty_b6 := ownb_neF hty hb6 dE
  have hts2 : ∀ x (hx : x < (ts ++ [n]).length), firstC l (askedL fs Gq x) = some (ts ++ [n])[x] := fun x hx => by
    by_cases e : x < ts.length
    · rw [List.getElem_append_left e]; exact hts x e
    · have e2 : x = i := by simp at hx; omega
      subst e2
      rw [← hxs, hfs]; simp [htl]
  refine c_region (wmS rfl (wmI rfl ?_))
  refine wl_bs (cs := #[_]) [(0, .int _ _)] rfl U46 sz3_GLoose ze3_GUnr dE dE kR rfl (fun b118 w30 hb118 hs hr => ?_)
  have or_b2_b118 : b2 < b118 := nLL hb2.lt hr
  have or_b4_b118 : b4 < b118 := nLL hb4.lt hr
  have or_b6_b118 : b6 < b118 := nLL hb6.lt hr
  have or_hbz_b118 := (nLT hbz hr)
  have lo118 := nLT (Bel.size hB) hr
  replace hB := hB.tr0 hs
  replace hb2 := hb2.tr0 hs
  replace hb4 := hb4.tr0 hs
  replace hb6 := hb6.tr0 hs
  replace hgr := hgr.tr hs (by simp)
  replace hty := hty.tr0 hs
  replace hbz := nLT hbz (Same.size hs)
  clear hs
  clear hr
  refine wl_app U46 in3 rfl dE hty hb118 rfl rfl rfl oneA dE om om om (fun g119 cap119 w31 ho119 hs hg => ?_)
  have ne_ho119_b2 : g119 ≠ b2 := fun e => by
   have hl := hb2.lt
   rcases hg with hg | hg
   · have h1 := hty.lt g119 (by rw [hg]; exact List.mem_singleton.2 rfl)
     (try have := or_hty_b2 g119 (by rw [hg]; exact List.mem_singleton.2 rfl)); omega
   · omega
  have ne_ho119_b4 : g119 ≠ b4 := fun e => by
   have hl := hb4.lt
   rcases hg with hg | hg
   · have h1 := hty.lt g119 (by rw [hg]; exact List.mem_singleton.2 rfl)
     (try have := or_hty_b4 g119 (by rw [hg]; exact List.mem_singleton.2 rfl)); omega
   · omega
  have ne_ho119_b6 : g119 ≠ b6 := fun e => by
   have hl := hb6.lt
   rcases hg with hg | hg
   · have h1 := hty.lt g119 (by rw [hg]; exact List.mem_singleton.2 rfl)
     (try have := or_hty_b6 g119 (by rw [hg]; exact List.mem_singleton.2 rfl)); omega
   · omega
  replace hB := hB.tr hs (fun g hg => nLT hwz (hty.lt g hg).1)
  replace hb2 := hb2.tr hs (fun hx => by have := (hty.lt _ hx).1; (try have := or_hty_b2 _ hx); omega)
  replace hb4 := hb4.tr hs (fun hx => by have := (hty.lt _ hx).1; (try have := or_hty_b4 _ hx); omega)
  replace hb6 := hb6.tr hs (fun hx => by have := (hty.lt _ hx).1; (try have := or_hty_b6 _ hx); omega)
  replace hgr := hgr.tr hs (fun g hg => .inr (by have := (hty.lt _ hg).1; omega))
  replace hbz := nLT hbz (Same.size hs)
  have hty : Own w31 zhi 3 1 (some ⟨g119, 0, none⟩) (ts ++ [n]).length cap119 (oV (ts ++ [n])) := by
    rw [← oV_snoc, List.length_append]; exact ho119
  refine waS rfl (x_nil (e_B (e_S (c_region (wl (r_add rfl rfl rfl om) ?_)))))
  refine wmI rfl (x_nil (e_LS (Gq.length - (i + 1)) om agA ?_))
  exact ⟨i + 1, ts ++ [n], _, _, by omega, rfl, rfl, sl_lenF (by simp), by simp [htl], hts2, hB, hb2, hb4, hb6, hgr, hty, nLT lzA hbz⟩
 have hie : ts.length = Gq.length := by omega
 refine c_exit (e_Sx (e_LSx (e_Bx (e_S (c_seq ?_)))))
 refine c_seq (c_region (wmS rfl (wl (r_len U46 rfl) (wmI rfl (x_nil ?_)))))
 refine e_S (c_block ?_)
 refine c_loopS [22, 23, 123, 124, 125, 126, 127, 128, 129, 130, 131, 132, 133, 134] (fun m g w' => ∃ y : Nat, y ≤ ts.length ∧ m = ts.length - y ∧ g 123 = .int .i64 y ∧ Bel w w' ∧ Blk w' b2 25 #[.slice A l.length c, .slice B fs.length d] ∧ Blk w' b4 28 #[.slice none 0 0] ∧ Blk w' b6 28 #[.slice AF Gq.length cF] ∧ GrT w' zlo zhi AF cF Gq (fun x => if x < y then ((ts.getD x 0 : Nat) : Int) else ((tyO Gq x : Nat) : Int)) ∧ Own w' zhi 3 1 A7 ts.length cap7 (oV ts) ∧ zhi ≤ w'.heap.size) (ts.length) ?_ (fun m g40 w32 hI => ?_)
 ·
  exact ⟨0, Nat.zero_le _, rfl, rfl, hB, hb2, hb4, hb6, hgr.congr (fun x _ => by rw [if_neg om]), hty, hzh⟩
 obtain ⟨y, hy, hmy, h123, hB, hb2, hb4, hb6, hgr, hty, hzh⟩ := hI
 refine c_know 123 (.int .i64 y) h123 nu (c_seq (c_region (wl (r_lss rfl rfl) (x_nil (e_S ?_)))))
 refine c_seq ?_
 refine c_ifd rfl (fun c124 => ?_) (fun c124 => ?_)
 ·
  have hyl : y < ts.length := by omega
  have hyG : y < Gq.length := by omega
  obtain ⟨qT, rfl⟩ := oV_addr hty om
  refine c_skip (e_S (c_seq (c_block (c_seq (c_region ?_)))))
  refine wmI rfl (wl (r_ia (i := y) U46 sz3_GLoose rfl rfl om rfl) (wl (r_ld1 (v := .int _ _) U3 rfl rfl (oV_cell hty hyl)) (waI rfl (waI rfl (x_nil ?_)))))
  refine e_S ?_
  obtain ⟨V, gA, cur, eA, hgA1, hgA2, hbF, hsz, _, _, hrF, hcl⟩ := hgr.open_ hyG
  subst eA
  have hubT := (hty.lt _ (List.mem_singleton.2 rfl)).1
  refine c_region (wl (r_fa U28 sz26 dE rfl rfl rfl) (wl (r_ld1 (v := .slice _ _ _) U26 rfl rfl (hb6.cell rfl)) (wmI rfl (wmI rfl (wl (r_ia (i := y) U26 sz33 rfl rfl om rfl) ?_)))))
  refine wl (r_fa U33 sz3_GLoose dE rfl rfl rfl) ?_
  refine wl_st1 (v := .int _ _) hbF rfl rfl sz3_GLoose (by show 0 + y * 2 + 0 < cur.size; omega) rfl rfl (fun w33 hq hs => ?_)
  replace hB := hB.tr1 hs om
  replace hb2 := hb2.tr1 hs om
  replace hb4 := hb4.tr1 hs om
  replace hb6 := hb6.tr1 hs om
  replace hty := hty.tr1 hs (fun g hg => by first | (have := hub g hg; omega) | (have := List.mem_singleton.1 hg; omega))
  replace hzh := nLT hzh (Same.size hs)
  replace hrF := fun x hx => (hrF x hx).tr hs (fun g hg => by rw [List.mem_singleton.1 hg]; exact .inr ⟨_, _, hbF, by decide⟩)
  clear hs
  replace hbF := hq
  have hgr := (hcl _ _ hbF hrF).congr (T' := fun x => if x < y + 1 then ((ts.getD x 0 : Nat) : Int) else ((tyO Gq x : Nat) : Int)) (fun x _ => by
    by_cases e : x = y
    · subst e; simp [List.getD, hyl]
    · have e1 : (x < y + 1) ↔ (x < y) := by omega
      simp [e, e1])
  refine x_nil (e_B (e_S (c_region (wl (r_add rfl rfl rfl om) (wmI rfl ?_)))))
  refine x_nil (e_LS (ts.length - (y + 1)) om agA ?_)
  exact ⟨y + 1, by omega, rfl, rfl, hB, hb2, hb4, hb6, hgr, hty, hzh⟩
 have hye : y = ts.length := by omega
 refine c_exit (e_Sx (e_LSx (e_Bx (e_S (c_seq ?_)))))
 refine c_region (wl (r_ldS U28 rfl rfl hb6.range0 sz28) ?_)
 refine wl_stW hb4 rfl rfl sz28 rfl oneA (fun w34 hq hs => ?_)
 replace hB := hB.tr1 hs lo4
 replace hb2 := hb2.tr1 hs om
 replace hb6 := hb6.tr1 hs om
 replace hgr := hgr.tr hs (fun g hg => by rw [List.mem_singleton.1 hg]; omega)
 replace hzh := nLT hzh (Same.size hs)
 clear hs
 replace hb4 := hq
 refine waB rfl (x_nil (e_S (c_ret (fin2 (.inl rfl) rfl (rr_cell U28 rfl rfl hb4.range0 sz28) rfl ?_))))
 refine ⟨⟨AF, rtG Gq (fun x => ((ts.getD x 0 : Nat) : Int)), _, true, by rw [rtG_len]; rfl, fun w2 hf => ?_, hGq ▸ inr_some hgl hD (by rw [← hGq]; exact hie) (by rw [← hGq]; exact hts)⟩, hB⟩
 exact (((hgr.congr (fun x hx => by rw [if_pos om])).low (show w.heap.size ≤ zlo by omega)).fr hf).nodes
end Go.Proofs.YtfhmpbmgddaiiaaDoor
namespace Go.Proofs.YtfhmpbmgddaiiaaDoor
open Go.RowKit
section six
variable {P : Program} {Q : Exit → Act → World → Prop} {n : Nat} {f : Fr} {w : World} {ops : Array Oper} {rest : List Oper} {d : Tmp} {ty t e : TypeId} {pos : String} {af : Array Edge} {x y : Operand} {v : Value}
theorem Own.whole {base sz k cap : Nat} {A : Option Addr} {xs : List Value} (h : Own w base e sz A k cap xs) (hk : 0 < k) : ∃ (g : Nat) (cur : Array Value), A = some ⟨g, 0, none⟩ ∧ base ≤ g ∧ Blk w g e cur ∧ cap ≤ 9223372036854775807 ∧ cur.size = cap * sz ∧ cur.toList.take (k * sz) = xs := by
  rcases h.2 with ⟨_, h0⟩ | ⟨g, c, cur, hv, hb, hg, hkc, hm, hs, ht⟩
  · omega
  · cases hv
    exact ⟨g, cur, rfl, hb, hg, by simpa [maxLen] using hm, hs, ht⟩
end six
end Go.Proofs.YtfhmpbmgddaiiaaDoor
