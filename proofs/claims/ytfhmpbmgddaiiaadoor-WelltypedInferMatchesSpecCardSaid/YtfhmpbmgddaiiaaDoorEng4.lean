/- What these functions of the program compute, at every world: glosswright/graph.Unreached, glosswright/glosswrightref3.Unreached. What these functions of the program compute, at every world: glosswright/graph.Within, glosswright/glosswrightref3.InHierarchy. What these functions of the program compute, at every world: glosswright/glosswrightlaw3.pairOf. What these functions of the program compute, at every world: glosswright/graph.From$1. The engine's fourth part: a check of a pointer, a slice that owns its cells opened and closed again, rows of cells told by a list. -/
import Derived.Test.YtfhmpbmgddaiiaaDoorU
import Derived.Test.YtfhmpbmgddaiiaaDoorGLoose
import Derived.Test.YtfhmpbmgddaiiaaDoorDfs
import Derived.Test.YtfhmpbmgddaiiaaDoorEng2
import Derived.Lib.AppendZerosOnto
namespace Go.Proofs.YtfhmpbmgddaiiaaDoor
open Go.RowKit
theorem fn40 : callable Tryd.prog 40 = true := by kernel_rfl
theorem in3 : (Tryd.prog.info? 3).map (fun i => (i.zero, i.size, i.bytes)) = some (some (.int .i64 0), 1, 8) := by kernel_rfl
theorem in4_GUnr : (Tryd.prog.info? 4).map (fun i => (i.zero, i.size, i.bytes)) = some (some (.bool false), 1, 1) := by kernel_rfl
theorem ze3_GUnr : (Tryd.prog.info? 3).map (·.zero) = some (some (.int .i64 0)) := by kernel_rfl
set_option maxHeartbeats 1000000 in
theorem unr_any (G : Option Addr) (cg nt nf : Nat) (gr : List Nd) (w : World) (hG : NodesIn w G gr) (hk : GOk nt nf gr) : Calls Tryd.prog 33 #[.agg #[.slice G gr.length cg]] w fun e w' => e = .returned (.int .i64 (unrI gr)) ∧ Bel w w' := by
 have hn6 := hk.le
 have hn0 := hk.pos
 refine enter Tryd.func33 Tryd.ntmps33 rfl (Nat.le_of_ble_eq_true rfl) ?_
 have hB : Bel w w := Below.refl _ _
 refine c_seq (c_region ?_)
 refine wl_bx (v := .agg #[_]) (cs := #[_]) rfl rfl (fun b1 w1 hb1 hs hr => ?_)
 have lo1 := nLT (Bel.size hB) hr
 replace hB := hB.tr0 hs
 clear hs
 clear hr
 refine waI rfl (x_nil (e_S (c_seq (c_region (wl (r_fa U28 sz26 dE rfl rfl rfl) ?_)))))
 refine wl (r_ld1 (v := .slice _ _ _) U26 rfl rfl (hb1.cell rfl)) (wl (r_len U26 rfl) ?_)
 refine wl_mkR (m := gr.length) U73 in4_GUnr rfl rfl rfl om om (fun b11 w2 hb11 hs hr => ?_)
 have or_b1_b11 : b1 < b11 := nLL hb1.lt hr
 have lo11 := nLT (Bel.size hB) hr
 replace hB := hB.tr0 hs
 replace hb1 := hb1.tr0 hs
 clear hs
 clear hr
 refine waS rfl (x_nil (e_S (c_seq (c_region (wmS rfl ?_)))))
 refine wl (r_ia (i := 0) U73 sz4_GLoose rfl rfl hn0 rfl) ?_
 refine wl_st1 (v := .bool _) hb11 rfl rfl sz4_GLoose (by rw [row_size]; omega) rfl row_set (fun w3 hq hs => ?_)
 replace hB := hB.tr1 hs lo11
 replace hb1 := hb1.tr1 hs om
 clear hs
 replace hb11 := hq
 rw [row_congr (g' := fun x => .bool (setB (fun _ => false) 0 x)) (fun x _ => by by_cases e : x = 0 <;> simp [setB, e])] at hb11
 refine x_nil (e_S (c_seq (c_seq (c_region ?_))))
 refine wl_bs (cs := #[_]) [(0, .int _ _)] rfl U46 sz3_GLoose ze3_GUnr dE dE kR rfl (fun b14 w4 hb14 hs hr => ?_)
 have or_b1_b14 : b1 < b14 := nLL hb1.lt hr
 have or_b11_b14 : b11 < b14 := nLL hb11.lt hr
 have lo14 := nLT (Bel.size hB) hr
 replace hB := hB.tr0 hs
 replace hb1 := hb1.tr0 hs
 replace hb11 := hb11.tr0 hs
 clear hs
 clear hr
 refine waS rfl (x_nil (e_S (c_block ?_)))
 refine c_loopS [4, 5, 7, 15, 16, 17, 18, 19, 20, 21, 22, 23, 24, 25, 26, 27, 28, 29, 30, 31, 32, 33, 34, 35, 36, 37, 38, 39, 40, 41, 42, 43, 44, 45, 46, 47, 48, 49, 50, 51, 52, 53, 54, 55] (fun m g w' => ∃ (st : List Int) (A4 : Option Addr) (cap4 : Nat) (mk : Nat → Bool), m = 2 * lackN gr.length mk + st.length ∧ 2 * lackN gr.length mk + st.length ≤ 200 ∧ g 4 = .slice A4 st.length cap4 ∧ Bel w w' ∧ Blk w' b1 28 #[.slice G gr.length cg] ∧ Blk w' b11 4 (row gr.length (fun x => .bool (mk x))) ∧ Own w' (b11 + 1) 3 1 A4 (st).length cap4 ((st).map (Value.int .i64)) ∧ DS gr mk st gr.length 0) (2 * lackN gr.length (setB (fun _ => false) 0) + 1) ?_ (fun m g4 w5 hI => ?_)
 ·
  exact ⟨[0], _, _, setB (fun _ => false) 0, rfl, by have := lack_le gr.length (setB (fun _ => false) 0); simp only [List.length_cons, List.length_nil]; omega, rfl, hB, hb1, hb11, own_blk hb14 or_b11_b14 rfl dE, DS.start hn0⟩
 obtain ⟨st, A4, cap4, mk, hm, hbd, h4, hB, hb1, hb11, ho, hds⟩ := hI
 refine c_know 4 (.slice A4 st.length cap4) h4 nu (c_seq (c_seq (c_region (wmS rfl (wl (r_len U46 rfl) ?_)))))
 refine wl (r_gtr rfl rfl) (x_nil (e_S ?_))
 refine c_ifd rfl (fun c17 => ?_) (fun c17 => ?_)
 ·
  obtain ⟨st1, z, rfl⟩ := snoc_of (show 0 < st.length by omega)
  obtain ⟨i, rfl, hin, hds1⟩ := hds.pop
  have hlen : (st1 ++ [(i : Int)]).length = st1.length + 1 := by simp
  obtain ⟨q, rfl, hqb, hql, hqc⟩ := ho.cell (by simp)
  have hz : w5.cell? ⟨q, 0 + st1.length * 1, none⟩ = some (.int .i64 (i : Int)) := by
    have := hqc st1.length (.int .i64 (i : Int)) (by simp)
    simpa using this
  obtain ⟨nb, no, LA, lc, rfl, hnb, hnr, hln⟩ := hG.at_ hB hin
  have hmx := hln.1
  unfold maxI at hmx
  refine c_skip (e_S (c_block (c_seq (c_region (wmS rfl ?_)))))
  refine wmS rfl (wl (r_len U46 rfl) (wl (r_sub (c := (st1.length : Int)) rfl rfl (by rw [hlen]; omega) om) (wl (r_ia (i := st1.length) U46 sz3_GLoose rfl rfl (by rw [hlen]; omega) rfl) (wl (r_ld1 (v := .int _ _) U3 rfl rfl hz) (waI rfl ?_)))))
  refine x_nil (e_S (c_seq (c_region (wmS rfl (wmS rfl ?_)))))
  refine wl (r_len U46 rfl) (wl (r_sub (c := (st1.length : Int)) rfl rfl (by rw [hlen]; omega) om) (wl (r_slH (h := st1.length) U46 sz3_GLoose rfl rfl (by have := ho.cap_le; omega)) (waS rfl (x_nil (e_S ?_)))))
  refine c_seq ?_
  replace ho : Own w5 (b11 + 1) 3 1 (some ⟨q, 0, none⟩) st1.length cap4 (st1.map (Value.int .i64)) := by
    have h := ho.take (k' := st1.length) om om
    simpa using h
  refine c_region (wl (r_fa U28 sz26 dE rfl rfl rfl) (wl (r_ld1 (v := .slice _ _ _) U26 rfl rfl (hb1.cell rfl)) (wmI rfl (wl (r_ia (i := i) U26 sz33 rfl rfl hin rfl) (wl (r_fa U33 sz31 dE rfl rfl rfl) ?_)))))
  refine wl (r_ld1 (v := .slice _ _ _) U31 rfl rfl (hnr 1 _ rfl)) (wl (r_len U31 rfl) (wmI rfl (x_nil (e_S (c_block ?_)))))
  refine c_loopS [4, 7, 36, 37, 38, 39, 40, 41, 42, 43, 44, 45, 46, 47, 48, 49, 50, 51, 52, 53, 54, 55] (fun m g w' => ∃ (j : Nat) (st2 : List Int) (A5 : Option Addr) (cap5 : Nat) (mk2 : Nat → Bool), j ≤ (gr[i]'hin).ln.length ∧ m = (gr[i]'hin).ln.length - j ∧ g 36 = .int .i64 j ∧ g 4 = .slice A5 st2.length cap5 ∧ 2 * lackN gr.length mk2 + st2.length ≤ 2 * lackN gr.length mk + st1.length ∧ Bel w w' ∧ Blk w' b1 28 #[.slice (some ⟨nb, no, none⟩) gr.length cg] ∧ Blk w' b11 4 (row gr.length (fun x => .bool (mk2 x))) ∧ Own w' (b11 + 1) 3 1 A5 (st2).length cap5 ((st2).map (Value.int .i64)) ∧ DS gr mk2 st2 i j) ((gr[i]'hin).ln.length) ?_ (fun m g8 w6 hI => ?_)
  ·
   exact ⟨0, st1, _, _, mk, Nat.zero_le _, rfl, rfl, rfl, Nat.le_refl _, hB, hb1, hb11, ho, hds1⟩
  obtain ⟨j, st2, A5, cap5, mk2, hj, hmj, h36, h4, hms, hB, hb1, hb11, ho, hds2⟩ := hI
  refine c_know 36 (.int .i64 j) h36 nu (c_know 4 (.slice A5 st2.length cap5) h4 nu (c_seq (c_region (wl (r_lss rfl rfl) (x_nil ?_)))))
  refine e_S (c_seq ?_)
  refine c_ifd rfl (fun c37 => ?_) (fun c37 => ?_)
  ·
   have hjl : j < (gr[i]'hin).ln.length := by omega
   obtain ⟨lb, lof, rfl, hlb, hlr⟩ := hln.at_ hB hjl
   obtain ⟨t, ht, htl⟩ : ∃ t : Nat, ((gr[i]'hin).ln[j]'hjl).2 = (t : Int) ∧ t < gr.length := by
     have h1 := hk.ln i hin _ (List.getElem_mem hjl)
     exact ⟨(((gr[i]'hin).ln[j]'hjl).2).toNat, by omega, by omega⟩
   refine c_skip (e_S (c_seq (c_block (c_seq (c_region ?_)))))
   refine wl (r_ia (i := j) U31 sz30 rfl rfl om rfl) (wl (r_ldS U30 rfl rfl hlr sz30) ?_)
   refine wl_al (cs := #[.int .i64 0, .int .i64 0]) ze30 rfl (fun b7 w7 hb7 hs hr => ?_)
   have or_b1_b7 : b1 < b7 := nLL hb1.lt hr
   have or_b11_b7 : b11 < b7 := nLL hb11.lt hr
   have or_ho_b7 := fun g hg => nLL (ho.lt g hg).2 hr
   have lo7 := nLT (Bel.size hB) hr
   replace hB := hB.tr0 hs
   replace hb1 := hb1.tr0 hs
   replace hb11 := hb11.tr0 hs
   replace ho := ho.tr0 hs
   clear hs
   clear hr
   refine wl_stW hb7 rfl rfl sz30 rfl oneA (fun w8 hq hs => ?_)
   replace hB := hB.tr1 hs lo7
   replace hb1 := hb1.tr1 hs om
   replace hb11 := hb11.tr1 hs om
   replace ho := ho.tr1 hs (fun g hg => by have := (ho.lt g hg).1; (try have := or_ho_b7 g hg); (try simp only [aL] at hg); (try simp only [List.mem_singleton] at hg); omega)
   clear hs
   replace hb7 := hq
   refine x_nil (e_S (c_seq ?_))
   rw [ht] at hb7
   refine c_region (wmS rfl (wl (r_fa U30 sz3_GLoose dE rfl rfl rfl) (wl (r_ld1 (v := .int _ _) U3 rfl rfl (hb7.cell rfl)) (wl (r_ia (i := t) U73 sz4_GLoose rfl rfl htl rfl) (wl (r_ld1 (v := .bool _) U4 rfl rfl (hb11.cell (row_get htl))) ?_)))))
   refine wl (r_not rfl) (x_nil (e_S ?_))
   refine c_if rfl (fun c45 => ?_) (fun c45 => ?_)
   ·
    have hmt : mk2 t = false := by simpa using c45
    refine c_seq (c_region (wmS rfl (wl (r_fa U30 sz3_GLoose dE rfl rfl rfl) (wl (r_ld1 (v := .int _ _) U3 rfl rfl (hb7.cell rfl)) (wl (r_ia (i := t) U73 sz4_GLoose rfl rfl htl rfl) ?_)))))
    refine wl_st1 (v := .bool _) hb11 rfl rfl sz4_GLoose (by rw [row_size]; omega) rfl row_set (fun w9 hq hs => ?_)
    replace hB := hB.tr1 hs lo11
    replace hb1 := hb1.tr1 hs om
    replace ho := ho.tr1 hs (fun g hg => by have := (ho.lt g hg).1; (try have := or_ho_b11 g hg); (try simp only [aL] at hg); (try simp only [List.mem_singleton] at hg); omega)
    replace hb7 := hb7.tr1 hs om
    clear hs
    replace hb11 := hq
    rw [row_setB] at hb11
    refine x_nil (e_S (c_region (wmS rfl (wl (r_fa U30 sz3_GLoose dE rfl rfl rfl) (wl (r_ld1 (v := .int _ _) U3 rfl rfl (hb7.cell rfl)) ?_)))))
    refine wl_bs (cs := #[_]) [(0, .int _ _)] rfl U46 sz3_GLoose ze3_GUnr dE dE kR rfl (fun b53 w10 hb53 hs hr => ?_)
    have or_b1_b53 : b1 < b53 := nLL hb1.lt hr
    have or_b11_b53 : b11 < b53 := nLL hb11.lt hr
    have or_ho_b53 := fun g hg => nLL (ho.lt g hg).2 hr
    have or_b7_b53 : b7 < b53 := nLL hb7.lt hr
    have lo53 := nLT (Bel.size hB) hr
    replace hB := hB.tr0 hs
    replace hb1 := hb1.tr0 hs
    replace hb11 := hb11.tr0 hs
    replace ho := ho.tr0 hs
    replace hb7 := hb7.tr0 hs
    clear hs
    clear hr
    refine wl_app U46 in3 rfl dE ho hb53 rfl rfl rfl oneA dE om om hb11.lt (fun g54 cap54 w11 ho54 hs hg => ?_)
    have ne_ho54_b1 : g54 ≠ b1 := fun e => by
     have hl := hb1.lt
     rcases hg with hg | hg
     · have h1 := ho.lt g54 (by rw [hg]; exact List.mem_singleton.2 rfl)
       (try have := or_ho_b1 g54 (by rw [hg]; exact List.mem_singleton.2 rfl)); omega
     · omega
    have ne_ho54_b11 : g54 ≠ b11 := fun e => by
     have hl := hb11.lt
     rcases hg with hg | hg
     · have h1 := ho.lt g54 (by rw [hg]; exact List.mem_singleton.2 rfl)
       (try have := or_ho_b11 g54 (by rw [hg]; exact List.mem_singleton.2 rfl)); omega
     · omega
    have ne_ho54_b7 : g54 ≠ b7 := fun e => by
     have hl := hb7.lt
     rcases hg with hg | hg
     · have h1 := ho.lt g54 (by rw [hg]; exact List.mem_singleton.2 rfl)
       (try have := or_ho_b7 g54 (by rw [hg]; exact List.mem_singleton.2 rfl)); omega
     · omega
    replace hB := hB.tr hs (fun g hg => nLT (Nat.le_succ_of_le lo11) (ho.lt g hg).1)
    replace hb1 := hb1.tr hs (fun hx => by have := (ho.lt _ hx).1; (try have := or_ho_b1 _ hx); omega)
    replace hb11 := hb11.tr hs (fun hx => by have := (ho.lt _ hx).1; (try have := or_ho_b11 _ hx); omega)
    replace hb7 := hb7.tr hs (fun hx => by have := (ho.lt _ hx).1; (try have := or_ho_b7 _ hx); omega)
    refine waS rfl (x_nil (e_B (e_S (c_region (wl (r_add rfl rfl rfl om) ?_)))))
    refine wmI rfl (x_nil (e_LS ((gr[i]'hin).ln.length - (j + 1)) om agA ?_))
    first
      | exact ⟨j + 1, st2 ++ [(t : Int)], _, _, setB mk2 t, by omega, rfl, rfl, sl_snoc _ _ _ _, by have := lack_set htl hmt; simp only [List.length_append, List.length_cons, List.length_nil]; omega, hB, hb1, hb11, own_snoc ho54, hds2.new hin hjl ht htl⟩
      | exact ⟨j + 1, st2, _, _, mk2, by omega, rfl, rfl, rfl, hms, hB, hb1, hb11, ho, hds2.old hin hjl (by rw [ht]; exact hmt)⟩
   have hmt : mk2 t = true := by simpa using c45
   refine c_skip (e_B (e_S (c_region (wl (r_add rfl rfl rfl om) (wmI rfl ?_)))))
   refine x_nil (e_LS ((gr[i]'hin).ln.length - (j + 1)) om agA ?_)
   first
     | exact ⟨j + 1, st2 ++ [(t : Int)], _, _, setB mk2 t, by omega, rfl, rfl, sl_snoc _ _ _ _, by have := lack_set htl hmt; simp only [List.length_append, List.length_cons, List.length_nil]; omega, hB, hb1, hb11, own_snoc ho54, hds2.new hin hjl ht htl⟩
     | exact ⟨j + 1, st2, _, _, mk2, by omega, rfl, rfl, rfl, hms, hB, hb1, hb11, ho, hds2.old hin hjl (by rw [ht]; exact hmt)⟩
  have hjx : j = (gr[i]'hin).ln.length := by omega
  refine c_exit (e_Sx (e_LSx (e_Bx (e_B (e_LS (2 * lackN gr.length mk2 + st2.length) om agA ?_)))))
  exact ⟨st2, _, _, mk2, rfl, by omega, rfl, hB, hb1, hb11, ho, hds2.done hin hjx⟩
 have hst : st = [] := List.length_eq_zero_iff.1 om
 subst hst
 have hall := hds.end_
 refine c_exit (e_Sx (e_LSx (e_Bx (e_S (c_seq ?_)))))
 refine c_region (wmS rfl ?_)
 refine wl_cl fn40 (index_any b11 gr.length mk _ hb11 om) rfl (fun e' w12 hr => ?_)
 obtain ⟨⟨r, rfl, hr⟩, hs⟩ := hr
 replace hs := Same.of_bel hs
 replace hB := hB.tr0 hs
 replace hb1 := hb1.tr0 hs
 replace hb11 := hb11.tr0 hs
 replace ho := ho.tr0 hs
 clear hs
 refine ⟨_, rfl, ?_⟩
 refine waI rfl (x_nil (e_S (c_ret (fin1 (.inl rfl) rfl rfl ?_))))
 have hun : r = unrI gr := by
   rcases hr with ⟨h1, h2⟩ | ⟨k, h1, h2, h3, h4⟩
   · rw [h1]; exact hall.yes h2
   · rw [h1]; exact hall.no h2 h3 h4
 exact ⟨ret_int hun.symm, hB⟩
set_option maxHeartbeats 1000000 in
theorem runr_any (G : Option Addr) (cg nt nf : Nat) (gr : List Nd) (w : World) (hG : NodesIn w G gr) (hk : GOk nt nf gr) : Calls Tryd.prog 22 #[.agg #[.slice G gr.length cg]] w fun e w' => e = .returned (.int .i64 (unrI gr)) ∧ Bel w w' := by
 have hn6 := hk.le
 have hn0 := hk.pos
 have hrg := gok_rng hk
 refine enter Tryd.func22 Tryd.ntmps22 rfl (Nat.le_of_ble_eq_true rfl) ?_
 have hB : Bel w w := Below.refl _ _
 refine c_seq (c_region ?_)
 refine wl_bx (v := .agg #[_]) (cs := #[_]) rfl rfl (fun b1 w1 hb1 hs hr => ?_)
 have lo1 := nLT (Bel.size hB) hr
 replace hB := hB.tr0 hs
 clear hs
 clear hr
 refine waI rfl (x_nil (e_S (c_seq (c_region (wl (r_fa U28 sz26 dE rfl rfl rfl) ?_)))))
 refine wl (r_ld1 (v := .slice _ _ _) U26 rfl rfl (hb1.cell rfl)) (wl (r_len U26 rfl) ?_)
 refine wl_mkR (m := gr.length) U73 in4_GUnr rfl rfl rfl om om (fun b11 w2 hb11 hs hr => ?_)
 have or_b1_b11 : b1 < b11 := nLL hb1.lt hr
 have lo11 := nLT (Bel.size hB) hr
 replace hB := hB.tr0 hs
 replace hb1 := hb1.tr0 hs
 clear hs
 clear hr
 refine waS rfl (x_nil (e_S (c_seq (c_region (wmS rfl ?_)))))
 refine wl (r_ia (i := 0) U73 sz4_GLoose rfl rfl hn0 rfl) ?_
 refine wl_st1 (v := .bool _) hb11 rfl rfl sz4_GLoose (by rw [row_size]; omega) rfl row_set (fun w3 hq hs => ?_)
 replace hB := hB.tr1 hs lo11
 replace hb1 := hb1.tr1 hs om
 clear hs
 replace hb11 := hq
 rw [row_congr (g' := fun x => .bool (setB (fun _ => false) 0 x)) (fun x _ => by by_cases e : x = 0 <;> simp [setB, e])] at hb11
 refine x_nil (e_S (c_seq (c_seq (c_region (wl (r_fa U28 sz26 dE rfl rfl rfl) ?_)))))
 refine wl (r_ld1 (v := .slice _ _ _) U26 rfl rfl (hb1.cell rfl)) (wl (r_len U26 rfl) (wmI rfl (x_nil (e_S (c_block ?_)))))
 refine c_loopS [4, 5, 7, 17, 18, 19, 20, 21, 22, 23, 24, 25, 26, 27, 28, 29, 30, 31, 32, 33, 34, 35, 36, 37, 38, 39, 40, 41, 42, 43, 44] (fun m g w' => ∃ (p : Nat) (mk : Nat → Bool), p ≤ gr.length ∧ m = gr.length - p ∧ g 17 = .int .i64 p ∧ Bel w w' ∧ Blk w' b1 28 #[.slice G gr.length cg] ∧ Blk w' b11 4 (row gr.length (fun x => .bool (mk x))) ∧ PS gr mk p) (gr.length) ?_ (fun m g4 w4 hI => ?_)
 ·
  exact ⟨0, setB (fun _ => false) 0, Nat.zero_le _, rfl, rfl, hB, hb1, hb11, PS.start hn0⟩
 obtain ⟨p, mk, hp, hm, h17, hB, hb1, hb11, hps⟩ := hI
 refine c_know 17 (.int .i64 p) h17 nu (c_seq (c_region (wl (r_lss rfl rfl) (x_nil (e_S ?_)))))
 refine c_seq ?_
 refine c_ifd rfl (fun c18 => ?_) (fun c18 => ?_)
 ·
  refine c_skip (e_S (c_seq (c_block (c_seq (c_region ?_)))))
  refine wl (r_fa U28 sz26 dE rfl rfl rfl) (wl (r_ld1 (v := .slice _ _ _) U26 rfl rfl (hb1.cell rfl)) (wl (r_len U26 rfl) (wmI rfl (x_nil (e_S ?_)))))
  refine c_block ?_
  refine c_loopS [4, 5, 7, 22, 23, 24, 25, 26, 27, 28, 29, 30, 31, 32, 33, 34, 35, 36, 37, 38, 39, 40, 41, 42, 43] (fun m g w' => ∃ (i : Nat) (mk2 : Nat → Bool), i ≤ gr.length ∧ m = gr.length - i ∧ g 22 = .int .i64 i ∧ Bel w w' ∧ Blk w' b1 28 #[.slice G gr.length cg] ∧ Blk w' b11 4 (row gr.length (fun x => .bool (mk2 x))) ∧ PP gr mk mk2 i 0) (gr.length) ?_ (fun m g6 w5 hI => ?_)
  ·
   exact ⟨0, mk, Nat.zero_le _, rfl, rfl, hB, hb1, hb11, PP.start hps⟩
  obtain ⟨i, mk2, hi, hmi, h22, hB, hb1, hb11, hpp⟩ := hI
  refine c_know 22 (.int .i64 i) h22 nu (c_seq (c_region (wl (r_lss rfl rfl) (x_nil (e_S ?_)))))
  refine c_seq ?_
  refine c_ifd rfl (fun c23 => ?_) (fun c23 => ?_)
  ·
   have hin : i < gr.length := by omega
   obtain ⟨nb, no, LA, lc, rfl, hnb, hnr, hln⟩ := hG.at_ hB hin
   have hmx := hln.1
   unfold maxI at hmx
   refine c_skip (e_S (c_seq (c_block (c_seq (c_region ?_)))))
   refine wmI rfl (wl (r_ia (i := i) U26 sz33 rfl rfl om rfl) (wl (r_ldS U33 rfl rfl hnr sz33) ?_))
   refine wl_al (cs := #[.int .i64 0, .slice none 0 0]) ze33 rfl (fun b5 w6 hb5 hs hr => ?_)
   have or_b1_b5 : b1 < b5 := nLL hb1.lt hr
   have or_b11_b5 : b11 < b5 := nLL hb11.lt hr
   have lo5 := nLT (Bel.size hB) hr
   replace hB := hB.tr0 hs
   replace hb1 := hb1.tr0 hs
   replace hb11 := hb11.tr0 hs
   clear hs
   clear hr
   refine waI rfl ?_
   refine wl_stW hb5 rfl rfl sz33 rfl oneA (fun w7 hq hs => ?_)
   replace hB := hB.tr1 hs lo5
   replace hb1 := hb1.tr1 hs om
   replace hb11 := hb11.tr1 hs om
   clear hs
   replace hb5 := hq
   refine x_nil (e_S (c_seq (c_region (wl (r_fa U33 sz31 dE rfl rfl rfl) (wl (r_ld1 (v := .slice _ _ _) U31 rfl rfl (hb5.cell rfl)) ?_)))))
   refine wl (r_len U31 rfl) (wmI rfl (x_nil (e_S (c_block ?_))))
   refine c_loopS [7, 30, 31, 32, 33, 34, 35, 36, 37, 38, 39, 40, 41, 42] (fun m g w' => ∃ (j : Nat) (mk3 : Nat → Bool), j ≤ (gr[i]'hin).ln.length ∧ m = (gr[i]'hin).ln.length - j ∧ g 30 = .int .i64 j ∧ Bel w w' ∧ Blk w' b1 28 #[.slice (some ⟨nb, no, none⟩) gr.length cg] ∧ Blk w' b11 4 (row gr.length (fun x => .bool (mk3 x))) ∧ Blk w' b5 33 #[.int .i64 (gr[i]'hin).ty, .slice LA (gr[i]'hin).ln.length lc] ∧ PP gr mk mk3 i j) ((gr[i]'hin).ln.length) ?_ (fun m g9 w8 hI => ?_)
   ·
    exact ⟨0, mk2, Nat.zero_le _, rfl, rfl, hB, hb1, hb11, hb5, hpp⟩
   obtain ⟨j, mk3, hj, hmj, h30, hB, hb1, hb11, hb5, hpp3⟩ := hI
   refine c_know 30 (.int .i64 j) h30 nu (c_seq (c_region (wl (r_lss rfl rfl) (x_nil (e_S ?_)))))
   refine c_seq ?_
   refine c_ifd rfl (fun c31 => ?_) (fun c31 => ?_)
   ·
    have hjl : j < (gr[i]'hin).ln.length := by omega
    obtain ⟨lb, lof, rfl, hlb, hlr⟩ := hln.at_ hB hjl
    obtain ⟨t, ht, htl⟩ : ∃ t : Nat, ((gr[i]'hin).ln[j]'hjl).2 = (t : Int) ∧ t < gr.length := by
      have h1 := hk.ln i hin _ (List.getElem_mem hjl)
      exact ⟨(((gr[i]'hin).ln[j]'hjl).2).toNat, by omega, by omega⟩
    refine c_skip (e_S (c_seq (c_block (c_seq (c_region ?_)))))
    refine wl (r_ia (i := j) U31 sz30 rfl rfl om rfl) (wl (r_ldS U30 rfl rfl hlr sz30) ?_)
    refine wl_al (cs := #[.int .i64 0, .int .i64 0]) ze30 rfl (fun b7 w9 hb7 hs hr => ?_)
    have or_b1_b7 : b1 < b7 := nLL hb1.lt hr
    have or_b11_b7 : b11 < b7 := nLL hb11.lt hr
    have or_b5_b7 : b5 < b7 := nLL hb5.lt hr
    have lo7 := nLT (Bel.size hB) hr
    replace hB := hB.tr0 hs
    replace hb1 := hb1.tr0 hs
    replace hb11 := hb11.tr0 hs
    replace hb5 := hb5.tr0 hs
    clear hs
    clear hr
    refine wl_stW hb7 rfl rfl sz30 rfl oneA (fun w10 hq hs => ?_)
    replace hB := hB.tr1 hs lo7
    replace hb1 := hb1.tr1 hs om
    replace hb11 := hb11.tr1 hs om
    replace hb5 := hb5.tr1 hs om
    clear hs
    replace hb7 := hq
    refine x_nil (e_S (c_seq (c_region (wmS rfl (wmI rfl ?_)))))
    refine wl (r_ia (i := i) U73 sz4_GLoose rfl rfl om rfl) (wl (r_ld1 (v := .bool _) U4 rfl rfl (hb11.cell (row_get hin))) (x_nil (e_S ?_)))
    refine c_if rfl (fun c37 => ?_) (fun c37 => ?_)
    ·
     rw [ht] at hb7
     refine c_region (wmS rfl (wl (r_fa U30 sz3_GLoose dE rfl rfl rfl) (wl (r_ld1 (v := .int _ _) U3 rfl rfl (hb7.cell rfl)) (wl (r_ia (i := t) U73 sz4_GLoose rfl rfl htl rfl) ?_))))
     refine wl_st1 (v := .bool _) hb11 rfl rfl sz4_GLoose (by rw [row_size]; omega) rfl row_set (fun w11 hq hs => ?_)
     replace hB := hB.tr1 hs lo11
     replace hb1 := hb1.tr1 hs om
     replace hb5 := hb5.tr1 hs om
     replace hb7 := hb7.tr1 hs om
     clear hs
     replace hb11 := hq
     rw [row_setB] at hb11
     refine x_nil (e_B (e_S (c_region (wl (r_add rfl rfl rfl om) (wmI rfl ?_)))))
     refine x_nil (e_LS ((gr[i]'hin).ln.length - (j + 1)) om agA ?_)
     first
       | exact ⟨j + 1, setB mk3 t, by omega, rfl, rfl, hB, hb1, hb11, hb5, hpp3.mark hin hjl ht c37⟩
       | exact ⟨j + 1, mk3, by omega, rfl, rfl, hB, hb1, hb11, hb5, hpp3.skip c37⟩
    refine c_skip (e_B (e_S (c_region (wl (r_add rfl rfl rfl om) (wmI rfl ?_)))))
    refine x_nil (e_LS ((gr[i]'hin).ln.length - (j + 1)) om agA ?_)
    first
      | exact ⟨j + 1, setB mk3 t, by omega, rfl, rfl, hB, hb1, hb11, hb5, hpp3.mark hin hjl ht c37⟩
      | exact ⟨j + 1, mk3, by omega, rfl, rfl, hB, hb1, hb11, hb5, hpp3.skip c37⟩
   have hjx : j = (gr[i]'hin).ln.length := by omega
   refine c_exit (e_Sx (e_LSx (e_Bx (e_B (e_S ?_)))))
   refine c_region (wl (r_add rfl rfl rfl om) (wmI rfl (x_nil (e_LS (gr.length - (i + 1)) om agA ?_))))
   exact ⟨i + 1, mk3, by omega, rfl, rfl, hB, hb1, hb11, hpp3.next hin hjx⟩
  have hie : i = gr.length := by omega
  rw [hie] at hpp
  refine c_exit (e_Sx (e_LSx (e_Bx (e_B (e_S ?_)))))
  refine c_region (wl (r_add rfl rfl rfl om) (wmI rfl (x_nil (e_LS (gr.length - (p + 1)) om agA ?_))))
  exact ⟨p + 1, mk2, by omega, rfl, rfl, hB, hb1, hb11, PP.end_ hrg hps hpp⟩
 have hpe : p = gr.length := by omega
 rw [hpe] at hps
 have hall := hps.end_
 refine c_exit (e_Sx (e_LSx (e_Bx (e_S (c_seq ?_)))))
 refine c_region (wmS rfl ?_)
 refine wl_cl fn40 (index_any b11 gr.length mk _ hb11 om) rfl (fun e' w12 hr => ?_)
 obtain ⟨⟨r, rfl, hr⟩, hs⟩ := hr
 replace hs := Same.of_bel hs
 replace hB := hB.tr0 hs
 replace hb1 := hb1.tr0 hs
 replace hb11 := hb11.tr0 hs
 clear hs
 refine ⟨_, rfl, ?_⟩
 refine waI rfl (x_nil (e_S (c_ret (fin1 (.inl rfl) rfl rfl ?_))))
 have hun : r = unrI gr := by
   rcases hr with ⟨h1, h2⟩ | ⟨k, h1, h2, h3, h4⟩
   · rw [h1]; exact hall.yes h2
   · rw [h1]; exact hall.no h2 h3 h4
 exact ⟨ret_int hun.symm, hB⟩
end Go.Proofs.YtfhmpbmgddaiiaaDoor
namespace Go.Proofs.YtfhmpbmgddaiiaaDoor
open Go.RowKit
theorem fn21 : callable Tryd.prog 21 = true := by kernel_rfl
theorem fn22 : callable Tryd.prog 22 = true := by kernel_rfl
theorem fn24_GVal : callable Tryd.prog 24 = true := by kernel_rfl
theorem fn32 : callable Tryd.prog 32 = true := by kernel_rfl
theorem fn33 : callable Tryd.prog 33 = true := by kernel_rfl
theorem sz25 : (Tryd.prog.info? 25).map (·.size) = some 2 := by kernel_rfl
theorem sz28 : (Tryd.prog.info? 28).map (·.size) = some 1 := by kernel_rfl
theorem sz54_GVal : (Tryd.prog.info? 54).map (·.size) = some 2 := by kernel_rfl
theorem sz61_GVal : (Tryd.prog.info? 61).map (·.size) = some 3 := by kernel_rfl
theorem ze61_GVal : (Tryd.prog.info? 61).map (·.zero) = some (some (.agg #[.string ⟨#[]⟩, .int .i64 0, .int .i64 0])) := by kernel_rfl
end Go.Proofs.YtfhmpbmgddaiiaaDoor
namespace Go.Proofs.YtfhmpbmgddaiiaaDoor
open Go.RowKit
theorem ints_of_blk {w : World} {b t : Nat} (xs : List Int) (h : Blk w b t (xs.map (Value.int .i64)).toArray) (hl : xs.length ≤ maxI) : IntsIn w (some ⟨b, 0, none⟩) xs :=
  ⟨hl, fun _ => ⟨b, 0, rfl, h.lt, fun k hk => h.cell (by simp [hk])⟩⟩
theorem feats_of_blk {w : World} {b t : Nat} (fs : List Ft) (h : Blk w b t (fs.flatMap (fun f => [Value.string f.name, .int .i64 f.of, .int .i64 f.val])).toArray) (hl : fs.length ≤ maxI) : FeatsIn w (some ⟨b, 0, none⟩) fs := by
  refine ⟨hl, fun _ => ⟨b, 0, rfl, h.lt, fun k hk => ?_⟩⟩
  have key : ∀ (l : List Ft) (k : Nat) (hk : k < l.length) (j : Nat) (v : Value), [Value.string (l[k]).name, .int .i64 (l[k]).of, .int .i64 (l[k]).val][j]? = some v → (l.flatMap (fun f => [Value.string f.name, .int .i64 f.of, .int .i64 f.val]))[k * 3 + j]? = some v := by
    intro l
    induction l with
    | nil => intro k hk; simp at hk
    | cons a r ih =>
      intro k hk j v hj
      match k, hk with
      | 0, _ =>
        have hj3 : j < 3 := (List.getElem?_eq_some_iff.1 hj).1
        rw [List.flatMap_cons, List.getElem?_append_left (by simpa using hj3)]
        simpa using hj
      | k + 1, hk =>
        rw [List.flatMap_cons, List.getElem?_append_right (by simp; omega)]
        have := ih k (by simpa using hk) j v hj
        have e : (k + 1) * 3 + j - [Value.string a.name, .int .i64 a.of, .int .i64 a.val].length = k * 3 + j := by simp; omega
        rw [e]; exact this
  intro j v hj
  have := key fs k hk j v hj
  exact h.cell (by simpa using this)
inductive TyVs (w : World) : List Ty → List Value → Prop
  | nil : TyVs w [] []
  | cons {t : Ty} {l : List Ty} {vs : List Value} {A : Option Addr} {c : Nat} (h : IntsIn w A t.par) (r : TyVs w l vs) : TyVs w (t :: l) (.string t.name :: .slice A t.par.length c :: vs)
theorem TyVs.get {w : World} {l : List Ty} {vs : List Value} (h : TyVs w l vs) : ∀ k (hk : k < l.length), ∃ A c, vs[k * 2]? = some (.string (l[k]).name) ∧ vs[k * 2 + 1]? = some (.slice A (l[k]).par.length c) ∧ IntsIn w A (l[k]).par := by
  induction h with
  | nil => intro k hk; simp at hk
  | cons h r ih =>
    intro k hk
    match k, hk with
    | 0, _ => exact ⟨_, _, rfl, rfl, h⟩
    | k + 1, hk =>
      obtain ⟨A, c, h1, h2, h3⟩ := ih k (by simpa using hk)
      refine ⟨A, c, ?_, ?_, h3⟩
      · rw [show (k + 1) * 2 = k * 2 + 1 + 1 from by omega]; simpa using h1
      · rw [show (k + 1) * 2 + 1 = k * 2 + 1 + 1 + 1 from by omega]; simpa using h2
theorem types_of_blk {w : World} {b t : Nat} {l : List Ty} {vs : List Value} (h : Blk w b t vs.toArray) (hv : TyVs w l vs) (hl : l.length ≤ maxI) : TypesIn w (some ⟨b, 0, none⟩) l :=
  ⟨hl, fun _ => ⟨b, 0, rfl, h.lt, fun k hk => by
    obtain ⟨A, c, h1, h2, h3⟩ := hv.get k hk
    refine ⟨A, c, h.range (fun j v hj => ?_), h3⟩
    match j, hj with
    | 0, hj => cases hj; simpa using h1
    | 1, hj => cases hj; simpa using h2
    | _ + 2, hj => cases hj⟩⟩
theorem ints_nil (w : World) (A : Option Addr) : IntsIn w A [] := ⟨Nat.zero_le _, fun h => absurd rfl h⟩
def pairT : List Ty := [⟨⟨#[116, 111, 112]⟩, []⟩, ⟨⟨#[97]⟩, [0]⟩, ⟨⟨#[98]⟩, [0]⟩, ⟨⟨#[99]⟩, [1]⟩]
def pairF : List Ft := [⟨⟨#[102]⟩, 1, 0⟩, ⟨⟨#[103]⟩, 1, 0⟩]
theorem pair_fault : hierFault pairT pairF = (0, 0) := by decide +kernel
theorem nodes_nil (w : World) (A : Option Addr) : NodesIn w A [] := ⟨Nat.zero_le _, fun h => absurd rfl h⟩
theorem sz63_GLaw : (Tryd.prog.info? 63).map (·.size) = some 2 := by kernel_rfl
theorem ze25 : (Tryd.prog.info? 25).map (·.zero) = some (some (.agg #[.slice none 0 0, .slice none 0 0])) := by kernel_rfl
theorem ze63_GLaw : (Tryd.prog.info? 63).map (·.zero) = some (some (.agg #[.string ⟨#[]⟩, .slice none 0 0])) := by kernel_rfl
theorem pair_any (w : World) : Calls Tryd.prog 6 #[] w fun e w' => (∃ A B, e = .returned (.agg #[.slice A 4 4, .slice B 2 2]) ∧ TypesIn w' A pairT ∧ FeatsIn w' B pairF) ∧ Bel w w' := by
 refine enter Tryd.func6 Tryd.ntmps6 rfl (Nat.le_of_ble_eq_true rfl) ?_
 have hB : Bel w w := Below.refl _ _
 refine c_seq (c_region ?_)
 refine wl_al (cs := #[.slice none 0 0, .slice none 0 0]) ze25 rfl (fun b0 w1 hb0 hs hr => ?_)
 have lo0 := nLT (Bel.size hB) hr
 replace hB := hB.tr0 hs
 clear hs
 clear hr
 refine x_nil (e_S (c_seq (c_region (wl (r_bd1 (v0 := .string _) (fun v0 => #[v0, .slice none 0 0]) rfl kR) ?_))))
 refine wl_bs (cs := #[_]) [(0, .int _ _)] rfl U46 sz3_GLoose ze3_GUnr dE dE kR rfl (fun b2 w2 hb2 hs hr => ?_)
 have or_b0_b2 : b0 < b2 := nLL hb0.lt hr
 have lo2 := nLT (Bel.size hB) hr
 replace hB := hB.tr0 hs
 replace hb0 := hb0.tr0 hs
 clear hs
 clear hr
 refine wl (r_bd2 (v0 := .string _) (v1 := .slice _ _ _) (fun v0 v1 => #[v0, v1]) rfl rfl kR) ?_
 refine wl_bs (cs := #[_]) [(0, .int _ _)] rfl U46 sz3_GLoose ze3_GUnr dE dE kR rfl (fun b4 w3 hb4 hs hr => ?_)
 have or_b0_b4 : b0 < b4 := nLL hb0.lt hr
 have or_b2_b4 : b2 < b4 := nLL hb2.lt hr
 have lo4 := nLT (Bel.size hB) hr
 replace hB := hB.tr0 hs
 replace hb0 := hb0.tr0 hs
 replace hb2 := hb2.tr0 hs
 clear hs
 clear hr
 refine wl (r_bd2 (v0 := .string _) (v1 := .slice _ _ _) (fun v0 v1 => #[v0, v1]) rfl rfl kR) ?_
 refine wl_bs (cs := #[_]) [(0, .int _ _)] rfl U46 sz3_GLoose ze3_GUnr dE dE kR rfl (fun b6 w4 hb6 hs hr => ?_)
 have or_b0_b6 : b0 < b6 := nLL hb0.lt hr
 have or_b2_b6 : b2 < b6 := nLL hb2.lt hr
 have or_b4_b6 : b4 < b6 := nLL hb4.lt hr
 have lo6 := nLT (Bel.size hB) hr
 replace hB := hB.tr0 hs
 replace hb0 := hb0.tr0 hs
 replace hb2 := hb2.tr0 hs
 replace hb4 := hb4.tr0 hs
 clear hs
 clear hr
 refine wl (r_bd2 (v0 := .string _) (v1 := .slice _ _ _) (fun v0 v1 => #[v0, v1]) rfl rfl kR) ?_
 refine wl_bs (cs := #[_, _, _, _, _, _, _, _]) [(0, .agg _), (1, .agg _), (2, .agg _), (3, .agg _)] rfl U22 sz63_GLaw ze63_GLaw dE dE kR rfl (fun b8 w5 hb8 hs hr => ?_)
 have or_b0_b8 : b0 < b8 := nLL hb0.lt hr
 have or_b2_b8 : b2 < b8 := nLL hb2.lt hr
 have or_b4_b8 : b4 < b8 := nLL hb4.lt hr
 have or_b6_b8 : b6 < b8 := nLL hb6.lt hr
 have lo8 := nLT (Bel.size hB) hr
 replace hB := hB.tr0 hs
 replace hb0 := hb0.tr0 hs
 replace hb2 := hb2.tr0 hs
 replace hb4 := hb4.tr0 hs
 replace hb6 := hb6.tr0 hs
 clear hs
 clear hr
 refine wl (r_bd3 (v0 := .string _) (v1 := .int _ _) (v2 := .int _ _) (fun v0 v1 v2 => #[v0, v1, v2]) rfl rfl rfl kR) (wl (r_bd3 (v0 := .string _) (v1 := .int _ _) (v2 := .int _ _) (fun v0 v1 v2 => #[v0, v1, v2]) rfl rfl rfl kR) ?_)
 refine wl_bs (cs := #[_, _, _, _, _, _]) [(0, .agg _), (1, .agg _)] rfl U23 sz61_GVal ze61_GVal dE dE kR rfl (fun b11 w6 hb11 hs hr => ?_)
 have or_b0_b11 : b0 < b11 := nLL hb0.lt hr
 have or_b2_b11 : b2 < b11 := nLL hb2.lt hr
 have or_b4_b11 : b4 < b11 := nLL hb4.lt hr
 have or_b6_b11 : b6 < b11 := nLL hb6.lt hr
 have or_b8_b11 : b8 < b11 := nLL hb8.lt hr
 have lo11 := nLT (Bel.size hB) hr
 replace hB := hB.tr0 hs
 replace hb0 := hb0.tr0 hs
 replace hb2 := hb2.tr0 hs
 replace hb4 := hb4.tr0 hs
 replace hb6 := hb6.tr0 hs
 replace hb8 := hb8.tr0 hs
 clear hs
 clear hr
 refine wl (r_bd2 (v0 := .slice _ _ _) (v1 := .slice _ _ _) (fun v0 v1 => #[v0, v1]) rfl rfl kR) ?_
 refine wl_stW hb0 rfl rfl sz25 rfl oneA (fun w7 hq hs => ?_)
 replace hB := hB.tr1 hs lo0
 replace hb2 := hb2.tr1 hs om
 replace hb4 := hb4.tr1 hs om
 replace hb6 := hb6.tr1 hs om
 replace hb8 := hb8.tr1 hs om
 replace hb11 := hb11.tr1 hs om
 clear hs
 replace hb0 := hq
 refine x_nil (e_S (c_ret (fin1 (.inl rfl) rfl (rr_cell U25 rfl rfl hb0.range0 sz25) ?_)))
 exact ⟨⟨_, _, rfl, types_of_blk (l := pairT) hb8 (.cons (ints_nil _ _) (.cons (ints_of_blk [0] hb2 dE) (.cons (ints_of_blk [0] hb4 dE) (.cons (ints_of_blk [1] hb6 dE) .nil)))) dE, feats_of_blk pairF hb11 dE⟩, hB⟩
end Go.Proofs.YtfhmpbmgddaiiaaDoor
namespace Go.Proofs.YtfhmpbmgddaiiaaDoor
open Go.RowKit
theorem fn35 : callable Tryd.prog 35 = true := by kernel_rfl
theorem sz46_GVisit : (Tryd.prog.info? 46).map (·.size) = some 1 := by kernel_rfl
set_option maxHeartbeats 2000000 in
theorem visit_step {w0 : World} {G : Option Addr} {cg nf bP bQ bG bV bn base : Nat} {gr : List Nd} (hG : NodesIn w0 G gr) (hk : GOk2 nf gr) (hlo : w0.heap.size ≤ base) (_l0P : w0.heap.size ≤ bP) (l0Q : w0.heap.size ≤ bQ) (_l0G : w0.heap.size ≤ bG) (_l0V : w0.heap.size ≤ bV) (l0n : w0.heap.size ≤ bn) (lP : bP < base) (lQ : bQ < base) (lG : bG < base) (lV : bV < base) (ln : bn < base) (nPQ : bP ≠ bQ) (nPn : bP ≠ bn) (nQn : bQ ≠ bn) (nGQ : bG ≠ bQ) (nGn : bG ≠ bn) (nVQ : bV ≠ bQ) (nVn : bV ≠ bn) {o : List Nat} {A : Option Addr} {cap : Nat} {w : World} (hB : Bel w0 w) (hbs : base ≤ w.heap.size) (hok : OOk gr.length o) (hbP : Blk w bP 46 #[.slice (some ⟨bn, 0, none⟩) gr.length gr.length]) (hbQ : Blk w bQ 46 #[.slice A (o).length cap]) (hbG : Blk w bG 28 #[.slice G gr.length cg]) (hbV : Blk w bV 78 #[.func (.func 35) #[] #[.pointer (some ⟨bP, 0, none⟩), .pointer (some ⟨bQ, 0, none⟩), .pointer (some ⟨bG, 0, none⟩), .pointer (some ⟨bV, 0, none⟩)]]) (hbn : Blk w bn 3 (row gr.length (fun x => .int .i64 (numO o x)))) (ho : Own w base 3 1 A (o).length cap (oV (o))) {i : Nat} (hin : i < gr.length) (IH : ∀ (t : Nat) (o2 : List Nat) (A2 : Option Addr) (cap2 : Nat) (w2 : World), lackN gr.length (memB o2) < lackN gr.length (memB o) → t < gr.length → Bel w0 w2 → base ≤ w2.heap.size → OOk gr.length o2 → Blk w2 bP 46 #[.slice (some ⟨bn, 0, none⟩) gr.length gr.length] → Blk w2 bQ 46 #[.slice A2 (o2).length cap2] → Blk w2 bG 28 #[.slice G gr.length cg] → Blk w2 bV 78 #[.func (.func 35) #[] #[.pointer (some ⟨bP, 0, none⟩), .pointer (some ⟨bQ, 0, none⟩), .pointer (some ⟨bG, 0, none⟩), .pointer (some ⟨bV, 0, none⟩)]] → Blk w2 bn 3 (row gr.length (fun x => .int .i64 (numO o2 x))) → Own w2 base 3 1 A2 (o2).length cap2 (oV (o2)) → Calls Tryd.prog 35 #[.int .i64 (t : Nat), .pointer (some ⟨bP, 0, none⟩), .pointer (some ⟨bQ, 0, none⟩), .pointer (some ⟨bG, 0, none⟩), .pointer (some ⟨bV, 0, none⟩)] w2 fun e w' => e = .returned (.tuple #[]) ∧ ∃ o' A' cap', DL gr [t] o2 o' ∧ Blk w' bQ 46 #[.slice A' o'.length cap'] ∧ Own w' base 3 1 A' o'.length cap' (oV o') ∧ Blk w' bn 3 (row gr.length (fun x => .int .i64 (numO o' x))) ∧ Chg base [bQ, bn] w2 w') : Calls Tryd.prog 35 #[.int .i64 (i : Nat), .pointer (some ⟨bP, 0, none⟩), .pointer (some ⟨bQ, 0, none⟩), .pointer (some ⟨bG, 0, none⟩), .pointer (some ⟨bV, 0, none⟩)] w fun e w' => e = .returned (.tuple #[]) ∧ ∃ o' A' cap', DL gr [i] o o' ∧ Blk w' bQ 46 #[.slice A' o'.length cap'] ∧ Own w' base 3 1 A' o'.length cap' (oV o') ∧ Blk w' bn 3 (row gr.length (fun x => .int .i64 (numO o' x))) ∧ Chg base [bQ, bn] w w' := by
 have hCS : Chg base [bQ, bn] w w ∧ base ≤ w.heap.size := ⟨Chg.refl _ _ _, hbs⟩
 have hn6 := hk.le
 have hrg := succ_rng2 hk
 have hol := hok.cnt
 refine enter Tryd.func35 Tryd.ntmps35 rfl (Nat.le_of_ble_eq_true rfl) (c_seq (c_seq (c_region (wl (r_ld1 (v := .slice _ _ _) U46 rfl rfl (hbP.cell rfl)) (wmI rfl ?_)))))
 refine wl (r_ia (i := i) U46 sz3_GLoose rfl rfl hin rfl) (wl (r_ld1 (v := .int _ _) U3 rfl rfl (hbn.cell (row_get hin))) (wl (r_geq rfl rfl) (x_nil (e_S ?_))))
 refine c_ifd rfl (fun c12 => ?_) (fun c12 => ?_)
 ·
  refine c_ret (e_Sr (fin0 (.inl rfl) rfl  ?_))
  exact ⟨rfl, o, A, cap, .old (numO_pos c12) .nil, hbQ, ho, hbn, hCS.1⟩
 have hni := numO_neg c12
 have hok2 := hok.snoc hin hni
 have hol2 := hok2.cnt
 refine c_skip (e_S (c_seq (c_region (wl (r_ld1 (v := .slice _ _ _) U46 rfl rfl (hbP.cell rfl)) (wmI rfl ?_)))))
 refine wl (r_ld1 (v := .slice _ _ _) U46 rfl rfl (hbQ.cell rfl)) (wl (r_len U46 rfl) (wl (r_ia (i := i) U46 sz3_GLoose rfl rfl hin rfl) ?_))
 refine wl_st1 (v := .int _ _) hbn rfl rfl sz3_GLoose (by rw [row_size]; omega) rfl row_set (fun w1 hq hs => ?_)
 replace hB := hB.tr1 hs l0n
 replace hbP := hbP.tr1 hs om
 replace hbQ := hbQ.tr1 hs om
 replace hbG := hbG.tr1 hs om
 replace hbV := hbV.tr1 hs om
 replace ho := ho.tr1 hs (fun g hg => by have := (ho.lt g hg).1; (try have := or_ho_bn g hg); (try simp only [aL] at hg); (try simp only [List.mem_singleton] at hg); omega)
 replace hCS := And.intro (hCS.1.st hs hCS.2 (fun g hg => by have h1 := List.mem_singleton.1 hg; first | (left; rw [h1]; simp; done) | (right; omega))) (nLT hCS.2 (Same.size hs))
 clear hs
 replace hbn := hq
 rw [row_num hni] at hbn
 refine x_nil (e_S (c_seq (c_region (wl (r_ld1 (v := .slice _ _ _) U46 rfl rfl (hbQ.cell rfl)) (wmI rfl ?_)))))
 refine wl_bs (cs := #[_]) [(0, .int _ _)] rfl U46 sz3_GLoose ze3_GUnr dE dE kR rfl (fun b20 w2 hb20 hs hr => ?_)
 have or_bP_b20 : bP < b20 := nLL hbP.lt hr
 have or_bQ_b20 : bQ < b20 := nLL hbQ.lt hr
 have or_bG_b20 : bG < b20 := nLL hbG.lt hr
 have or_bV_b20 : bV < b20 := nLL hbV.lt hr
 have or_bn_b20 : bn < b20 := nLL hbn.lt hr
 have or_ho_b20 := fun g hg => nLL (ho.lt g hg).2 hr
 have or_hCS_b20 := (nLT hCS.2 hr)
 have lo20 := nLT (Bel.size hB) hr
 replace hB := hB.tr0 hs
 replace hbP := hbP.tr0 hs
 replace hbQ := hbQ.tr0 hs
 replace hbG := hbG.tr0 hs
 replace hbV := hbV.tr0 hs
 replace hbn := hbn.tr0 hs
 replace ho := ho.tr0 hs
 replace hCS := And.intro (hCS.1.st hs hCS.2 (by simp)) (nLT hCS.2 (Same.size hs))
 clear hs
 clear hr
 refine wl_app U46 in3 rfl dE ho hb20 rfl rfl rfl oneA dE om om hCS.2 (fun g21 cap21 w3 ho21 hs hg => ?_)
 have ne_ho21_bP : g21 ≠ bP := fun e => by
  have hl := hbP.lt
  rcases hg with hg | hg
  · have h1 := ho.lt g21 (by rw [hg]; exact List.mem_singleton.2 rfl)
    (try have := or_ho_bP g21 (by rw [hg]; exact List.mem_singleton.2 rfl)); omega
  · omega
 have ne_ho21_bQ : g21 ≠ bQ := fun e => by
  have hl := hbQ.lt
  rcases hg with hg | hg
  · have h1 := ho.lt g21 (by rw [hg]; exact List.mem_singleton.2 rfl)
    (try have := or_ho_bQ g21 (by rw [hg]; exact List.mem_singleton.2 rfl)); omega
  · omega
 have ne_ho21_bG : g21 ≠ bG := fun e => by
  have hl := hbG.lt
  rcases hg with hg | hg
  · have h1 := ho.lt g21 (by rw [hg]; exact List.mem_singleton.2 rfl)
    (try have := or_ho_bG g21 (by rw [hg]; exact List.mem_singleton.2 rfl)); omega
  · omega
 have ne_ho21_bV : g21 ≠ bV := fun e => by
  have hl := hbV.lt
  rcases hg with hg | hg
  · have h1 := ho.lt g21 (by rw [hg]; exact List.mem_singleton.2 rfl)
    (try have := or_ho_bV g21 (by rw [hg]; exact List.mem_singleton.2 rfl)); omega
  · omega
 have ne_ho21_bn : g21 ≠ bn := fun e => by
  have hl := hbn.lt
  rcases hg with hg | hg
  · have h1 := ho.lt g21 (by rw [hg]; exact List.mem_singleton.2 rfl)
    (try have := or_ho_bn g21 (by rw [hg]; exact List.mem_singleton.2 rfl)); omega
  · omega
 replace hB := hB.tr hs (fun g hg => nLT hlo (ho.lt g hg).1)
 replace hbP := hbP.tr hs (fun hx => by have := (ho.lt _ hx).1; (try have := or_ho_bP _ hx); omega)
 replace hbQ := hbQ.tr hs (fun hx => by have := (ho.lt _ hx).1; (try have := or_ho_bQ _ hx); omega)
 replace hbG := hbG.tr hs (fun hx => by have := (ho.lt _ hx).1; (try have := or_ho_bG _ hx); omega)
 replace hbV := hbV.tr hs (fun hx => by have := (ho.lt _ hx).1; (try have := or_ho_bV _ hx); omega)
 replace hbn := hbn.tr hs (fun hx => by have := (ho.lt _ hx).1; (try have := or_ho_bn _ hx); omega)
 replace hCS := And.intro (hCS.1.st hs hCS.2 (fun g hg => .inr ((ho).lt g hg).1)) (nLT hCS.2 (Same.size hs))
 refine wl_st1 (v := .slice _ _ _) hbQ rfl rfl sz46_GVisit (by first | decide | simp) rfl rfl (fun w4 hq hs => ?_)
 replace hB := hB.tr1 hs l0Q
 replace hbP := hbP.tr1 hs om
 replace hbG := hbG.tr1 hs om
 replace hbV := hbV.tr1 hs om
 replace hbn := hbn.tr1 hs om
 replace hCS := And.intro (hCS.1.st hs hCS.2 (fun g hg => by have h1 := List.mem_singleton.1 hg; first | (left; rw [h1]; simp; done) | (right; omega))) (nLT hCS.2 (Same.size hs))
 replace ho21 := ho21.tr1 hs (fun g hg => by have := (ho21.lt g hg).1; (try have := or_ho21_bQ g hg); (try simp only [aL] at hg); (try simp only [List.mem_singleton] at hg); omega)
 clear hs
 replace hbQ := hq
 replace hbQ : Blk w4 bQ 46 #[.slice (some ⟨g21, 0, none⟩) (o ++ [i]).length cap21] := by rw [← sl_oV]; exact hbQ
 replace ho21 := own_oV ho21
 refine x_nil (e_S (c_seq ?_))
 obtain ⟨nb, no, LA, lc, rfl, hnb, hnr, hln⟩ := hG.at_ hB hin
 have hmx := hln.1
 unfold maxI at hmx
 refine c_region (wl (r_fa U28 sz26 dE rfl rfl rfl) (wl (r_ld1 (v := .slice _ _ _) U26 rfl rfl (hbG.cell rfl)) (wmI rfl (wl (r_ia (i := i) U26 sz33 rfl rfl hin rfl) (wl (r_fa U33 sz31 dE rfl rfl rfl) ?_)))))
 refine wl (r_ld1 (v := .slice _ _ _) U31 rfl rfl (hnr 1 _ rfl)) (wl (r_len U31 rfl) (wmI rfl (x_nil (e_S (c_block ?_)))))
 refine c_loopS [7, 29, 30, 31, 32, 33, 34, 35, 36, 37] (fun m g w' => ∃ (j : Nat) (o2 : List Nat) (A2 : Option Addr) (cap2 : Nat), j ≤ (gr[i]'hin).ln.length ∧ m = (gr[i]'hin).ln.length - j ∧ g 29 = .int .i64 j ∧ DL gr ((succN gr i).take j) (o ++ [i]) o2 ∧ Bel w0 w' ∧ Blk w' bP 46 #[.slice (some ⟨bn, 0, none⟩) gr.length gr.length] ∧ Blk w' bQ 46 #[.slice A2 (o2).length cap2] ∧ Blk w' bG 28 #[.slice (some ⟨nb, no, none⟩) gr.length cg] ∧ Blk w' bV 78 #[.func (.func 35) #[] #[.pointer (some ⟨bP, 0, none⟩), .pointer (some ⟨bQ, 0, none⟩), .pointer (some ⟨bG, 0, none⟩), .pointer (some ⟨bV, 0, none⟩)]] ∧ Blk w' bn 3 (row gr.length (fun x => .int .i64 (numO o2 x))) ∧ Own w' base 3 1 A2 (o2).length cap2 (oV (o2)) ∧ (Chg base [bQ, bn] w w' ∧ base ≤ w'.heap.size)) ((gr[i]'hin).ln.length) ?_ (fun m g4 w5 hI => ?_)
 ·
  exact ⟨0, _, _, _, Nat.zero_le _, rfl, rfl, .nil, hB, hbP, hbQ, hbG, hbV, hbn, ho21, hCS⟩
 obtain ⟨j, o2, A2, cap2, hj, hm, h29, hD, hB, hbP, hbQ, hbG, hbV, hbn, ho, hCS⟩ := hI
 refine c_know 29 (.int .i64 j) h29 nu (c_seq (c_region (wl (r_lss rfl rfl) (x_nil (e_S ?_)))))
 refine c_seq ?_
 refine c_ifd rfl (fun c30 => ?_) (fun c30 => ?_)
 ·
  have hjl : j < (gr[i]'hin).ln.length := by omega
  obtain ⟨lb, lof, rfl, hlb, hlr⟩ := hln.at_ hB hjl
  obtain ⟨t, ht, htl⟩ : ∃ t : Nat, ((gr[i]'hin).ln[j]'hjl).2 = (t : Int) ∧ t < gr.length := by
    have h1 := hk.ln i hin _ (List.getElem_mem hjl)
    exact ⟨(((gr[i]'hin).ln[j]'hjl).2).toNat, by omega, by omega⟩
  obtain ⟨hok3, s3, hs3⟩ := hD.ok hrg (fun x hx => hrg i hin x (List.mem_of_mem_take hx)) hok2
  have hlk : lackN gr.length (memB o2) < lackN gr.length (memB o) := by
    rw [hs3]; exact Nat.lt_of_le_of_lt (lack_more _ _ _) (lack_snoc hin hni)
  refine c_skip (e_S (c_seq (c_block (c_seq (c_region ?_)))))
  refine wl (r_ia (i := j) U31 sz30 rfl rfl om rfl) (wl (r_ldS U30 rfl rfl hlr sz30) ?_)
  refine wl_al (cs := #[.int .i64 0, .int .i64 0]) ze30 rfl (fun b7 w6 hb7 hs hr => ?_)
  have or_bP_b7 : bP < b7 := nLL hbP.lt hr
  have or_bQ_b7 : bQ < b7 := nLL hbQ.lt hr
  have or_bG_b7 : bG < b7 := nLL hbG.lt hr
  have or_bV_b7 : bV < b7 := nLL hbV.lt hr
  have or_bn_b7 : bn < b7 := nLL hbn.lt hr
  have or_hCS_b7 := (nLT hCS.2 hr)
  have or_ho_b7 := fun g hg => nLL (ho.lt g hg).2 hr
  have lo7 := nLT (Bel.size hB) hr
  replace hB := hB.tr0 hs
  replace hbP := hbP.tr0 hs
  replace hbQ := hbQ.tr0 hs
  replace hbG := hbG.tr0 hs
  replace hbV := hbV.tr0 hs
  replace hbn := hbn.tr0 hs
  replace hCS := And.intro (hCS.1.st hs hCS.2 (by simp)) (nLT hCS.2 (Same.size hs))
  replace ho := ho.tr0 hs
  clear hs
  clear hr
  refine wl_stW hb7 rfl rfl sz30 rfl oneA (fun w7 hq hs => ?_)
  replace hB := hB.tr1 hs lo7
  replace hbP := hbP.tr1 hs om
  replace hbQ := hbQ.tr1 hs om
  replace hbG := hbG.tr1 hs om
  replace hbV := hbV.tr1 hs om
  replace hbn := hbn.tr1 hs om
  replace hCS := And.intro (hCS.1.st hs hCS.2 (fun g hg => by have h1 := List.mem_singleton.1 hg; first | (left; rw [h1]; simp; done) | (right; omega))) (nLT hCS.2 (Same.size hs))
  replace ho := ho.tr1 hs (fun g hg => by have := (ho.lt g hg).1; (try have := or_ho_b7 g hg); (try simp only [aL] at hg); (try simp only [List.mem_singleton] at hg); omega)
  clear hs
  replace hb7 := hq
  refine x_nil (e_S ?_)
  rw [ht] at hb7
  refine c_region (wl (r_ld1 (v := .func _ _ _) Tryd.underlying78 rfl rfl (hbV.cell rfl)) (wl (r_fa U30 sz3_GLoose dE rfl rfl rfl) (wl (r_ld1 (v := .int _ _) U3 rfl rfl (hb7.cell rfl)) ?_)))
  refine wl_clv rfl fn35 (IH t o2 A2 cap2 _ hlk htl hB hCS.2 hok3 hbP hbQ hbG hbV hbn ho) rfl rfl (fun e' w8 hr => ?_)
  obtain ⟨rfl, o3, A3, cap3, hD3, hbQ3, ho3, hbn3, hC3⟩ := hr
  replace hB := hB.chg hC3 hlo (by simp [l0Q, l0n])
  replace hbP := hbP.chg hC3 lP (by simp [nPQ, nPn])
  replace hbG := hbG.chg hC3 lG (by simp [nGQ, nGn])
  replace hbV := hbV.chg hC3 lV (by simp [nVQ, nVn])
  replace hbQ := hbQ3
  replace hbn := hbn3
  replace ho := ho3
  replace hCS := And.intro (hCS.1.trans hC3) (nLT hCS.2 hC3.size)
  refine ⟨_, rfl, ?_⟩
  refine x_nil (e_B (e_S (c_region (wl (r_add rfl rfl rfl om) (wmI rfl ?_)))))
  refine x_nil (e_LS ((gr[i]'hin).ln.length - (j + 1)) om agA ?_)
  exact ⟨j + 1, o3, A3, cap3, by omega, rfl, rfl, by rw [take_succN hin hjl ht]; exact hD.append hD3, hB, hbP, hbQ, hbG, hbV, hbn, ho, hCS⟩
 have hjx : j = (gr[i]'hin).ln.length := by omega
 have hfin : DL gr (succN gr i) (o ++ [i]) o2 := by
   have e : (succN gr i).take j = succN gr i := List.take_of_length_le (by simp [succN, nd_eq hin, hjx])
   rw [e] at hD; exact hD
 refine c_exit (e_Sx (e_LSx (e_Bx (fin0 (.inr rfl) rfl  ?_))))
 exact ⟨rfl, o2, A2, cap2, .new hni hfin .nil, hbQ, ho, hbn, hCS.1⟩
theorem visit_any {w0 : World} {G : Option Addr} {cg nf bP bQ bG bV bn base : Nat} {gr : List Nd} (hG : NodesIn w0 G gr) (hk : GOk2 nf gr) (hlo : w0.heap.size ≤ base) (_l0P : w0.heap.size ≤ bP) (l0Q : w0.heap.size ≤ bQ) (_l0G : w0.heap.size ≤ bG) (_l0V : w0.heap.size ≤ bV) (l0n : w0.heap.size ≤ bn) (lP : bP < base) (lQ : bQ < base) (lG : bG < base) (lV : bV < base) (ln : bn < base) (nPQ : bP ≠ bQ) (nPn : bP ≠ bn) (nQn : bQ ≠ bn) (nGQ : bG ≠ bQ) (nGn : bG ≠ bn) (nVQ : bV ≠ bQ) (nVn : bV ≠ bn) : ∀ (m : Nat) (o : List Nat) (A : Option Addr) (cap : Nat) (w : World) (i : Nat), lackN gr.length (memB o) ≤ m → i < gr.length → Bel w0 w → base ≤ w.heap.size → OOk gr.length o → Blk w bP 46 #[.slice (some ⟨bn, 0, none⟩) gr.length gr.length] → Blk w bQ 46 #[.slice A (o).length cap] → Blk w bG 28 #[.slice G gr.length cg] → Blk w bV 78 #[.func (.func 35) #[] #[.pointer (some ⟨bP, 0, none⟩), .pointer (some ⟨bQ, 0, none⟩), .pointer (some ⟨bG, 0, none⟩), .pointer (some ⟨bV, 0, none⟩)]] → Blk w bn 3 (row gr.length (fun x => .int .i64 (numO o x))) → Own w base 3 1 A (o).length cap (oV (o)) → Calls Tryd.prog 35 #[.int .i64 (i : Nat), .pointer (some ⟨bP, 0, none⟩), .pointer (some ⟨bQ, 0, none⟩), .pointer (some ⟨bG, 0, none⟩), .pointer (some ⟨bV, 0, none⟩)] w fun e w' => e = .returned (.tuple #[]) ∧ ∃ o' A' cap', DL gr [i] o o' ∧ Blk w' bQ 46 #[.slice A' o'.length cap'] ∧ Own w' base 3 1 A' o'.length cap' (oV o') ∧ Blk w' bn 3 (row gr.length (fun x => .int .i64 (numO o' x))) ∧ Chg base [bQ, bn] w w' := by
  intro m
  induction m with
  | zero => intro o A cap w i hm hin hB hbs hok h1 h2 h3 h4 h5 h6; exact visit_step hG hk hlo _l0P l0Q _l0G _l0V l0n lP lQ lG lV ln nPQ nPn nQn nGQ nGn nVQ nVn hB hbs hok h1 h2 h3 h4 h5 h6 hin (fun t o2 A2 cap2 w2 hl => by omega)
  | succ m ih => intro o A cap w i hm hin hB hbs hok h1 h2 h3 h4 h5 h6; exact visit_step hG hk hlo _l0P l0Q _l0G _l0V l0n lP lQ lG lV ln nPQ nPn nQn nGQ nGn nVQ nVn hB hbs hok h1 h2 h3 h4 h5 h6 hin (fun t o2 A2 cap2 w2 hl => ih o2 A2 cap2 w2 t om)
end Go.Proofs.YtfhmpbmgddaiiaaDoor
namespace Go.Proofs.YtfhmpbmgddaiiaaDoor
open Go.RowKit
section eng4
variable {P : Program} {Q : Exit → Act → World → Prop} {n : Nat} {f : Fr} {w w' : World} {ops : Array Oper} {rest : List Oper} {d : Tmp} {ty t e : TypeId} {pos : String} {af : Array Edge} {x y : Operand}
variable {base sz k cap : Nat} {A : Option Addr} {xs : List Value}
theorem Own.open_ (h : Own w base e sz A k cap xs) (hk : 0 < k) : ∃ (g : Nat) (cur : Array Value), A = some ⟨g, 0, none⟩ ∧ base ≤ g ∧ Blk w g e cur ∧ k * sz ≤ cur.size ∧ (∀ j, j < k * sz → cur[j]? = xs[j]?) ∧ ∀ w1 o v, Blk w1 g e (cur.setIfInBounds o v) → Own w1 base e sz (some ⟨g, 0, none⟩) k cap (xs.set o v) := by
  rcases h.2 with ⟨_, hn⟩ | ⟨g, c, cur, hv, hb, hg, hkc, hm, hs, ht⟩
  · omega
  · cases hv
    have hle : k * sz ≤ cap * sz := Nat.mul_le_mul_right sz hkc
    refine ⟨g, cur, rfl, hb, hg, by omega, fun j hj => ?_, fun w1 o v hw => ⟨by rw [List.length_set]; exact h.1, .inr ⟨g, cap, _, rfl, hb, hw, hkc, hm, by rw [Array.size_setIfInBounds]; exact hs, ?_⟩⟩⟩
    · rw [← ht, List.getElem?_take_of_lt hj]; simp
    · rw [Array.toList_setIfInBounds, List.take_set, ht]
def rowL (n : Nat) (g : Nat → Value) : List Value := (List.range n).map g
end eng4
end Go.Proofs.YtfhmpbmgddaiiaaDoor
