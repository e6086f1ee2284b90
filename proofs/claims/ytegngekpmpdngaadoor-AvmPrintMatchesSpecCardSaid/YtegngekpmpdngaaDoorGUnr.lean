/- What these functions of the program compute, at every world: glosswright/graph.Unreached, glosswright/glosswrightref3.Unreached. -/
import Derived.Test.YtegngekpmpdngaaDoorU
import Derived.Test.YtegngekpmpdngaaDoorGLoose
namespace Go.Proofs.YtegngekpmpdngaaDoor
open Go.RowKit
theorem fn99 : callable Tryd.prog 99 = true := by kernel_rfl
theorem in3 : (Tryd.prog.info? 3).map (fun i => (i.zero, i.size, i.bytes)) = some (some (.int .i64 0), 1, 8) := by kernel_rfl
theorem in4_GUnr : (Tryd.prog.info? 4).map (fun i => (i.zero, i.size, i.bytes)) = some (some (.bool false), 1, 1) := by kernel_rfl
theorem ze3_GUnr : (Tryd.prog.info? 3).map (·.zero) = some (some (.int .i64 0)) := by kernel_rfl
set_option maxHeartbeats 1000000 in
theorem unr_any (G : Option Addr) (cg nt nf : Nat) (gr : List Nd) (w : World) (hG : NodesIn w G gr) (hk : GOk nt nf gr) : Calls Tryd.prog 98 #[.agg #[.slice G gr.length cg]] w fun e w' => e = .returned (.int .i64 (unrI gr)) ∧ Bel w w' := by
 have hn6 := hk.le
 have hn0 := hk.pos
 refine enter Tryd.func98 Tryd.ntmps98 rfl (Nat.le_of_ble_eq_true rfl) ?_
 have hB : Bel w w := Below.refl _ _
 refine c_seq (c_region ?_)
 refine wl_bx (v := .agg #[_]) (cs := #[_]) rfl rfl (fun b1 w1 hb1 hs hr => ?_)
 have lo1 := nLT (Bel.size hB) hr
 replace hB := hB.tr0 hs
 clear hs
 clear hr
 refine waI rfl (x_nil (e_S (c_seq (c_region (wl (r_fa U28 sz26 dE rfl rfl rfl) ?_)))))
 refine wl (r_ld1 (v := .slice _ _ _) U26 rfl rfl (hb1.cell rfl)) (wl (r_len U26 rfl) ?_)
 refine wl_mkR (m := gr.length) U82 in4_GUnr rfl rfl rfl om om (fun b11 w2 hb11 hs hr => ?_)
 have or_b1_b11 : b1 < b11 := nLL hb1.lt hr
 have lo11 := nLT (Bel.size hB) hr
 replace hB := hB.tr0 hs
 replace hb1 := hb1.tr0 hs
 clear hs
 clear hr
 refine waS rfl (x_nil (e_S (c_seq (c_region (wmS rfl ?_)))))
 refine wl (r_ia (i := 0) U82 sz4_GLoose rfl rfl hn0 rfl) ?_
 refine wl_st1 (v := .bool _) hb11 rfl rfl sz4_GLoose (by rw [row_size]; omega) rfl row_set (fun w3 hq hs => ?_)
 replace hB := hB.tr1 hs lo11
 replace hb1 := hb1.tr1 hs om
 clear hs
 replace hb11 := hq
 rw [row_congr (g' := fun x => .bool (setB (fun _ => false) 0 x)) (fun x _ => by by_cases e : x = 0 <;> simp [setB, e])] at hb11
 refine x_nil (e_S (c_seq (c_seq (c_region ?_))))
 refine wl_bs (cs := #[_]) [(0, .int _ _)] rfl U43 sz3_GLoose ze3_GUnr dE dE kR rfl (fun b14 w4 hb14 hs hr => ?_)
 have or_b1_b14 : b1 < b14 := nLL hb1.lt hr
 have or_b11_b14 : b11 < b14 := nLL hb11.lt hr
 have lo14 := nLT (Bel.size hB) hr
 replace hB := hB.tr0 hs
 replace hb1 := hb1.tr0 hs
 replace hb11 := hb11.tr0 hs
 clear hs
 clear hr
 refine waS rfl (x_nil (e_S (c_block ?_)))
 refine c_loopS [4, 5, 7, 15, 16, 17, 18, 19, 20, 21, 22, 23, 24, 25, 26, 27, 28, 29, 30, 31, 32, 33, 34, 35, 36, 37, 38, 39, 40, 41, 42, 43, 44, 45, 46, 47, 48, 49, 50, 51, 52, 53, 54, 55] (fun m g w' => ∃ (st : List Int) (A4 : Option Addr) (cap4 : Nat) (mk : Nat → Bool), m = 2 * lackN gr.length mk + st.length ∧ 2 * lackN gr.length mk + st.length ≤ 200 ∧ g 4 = .slice A4 st.length cap4 ∧ Bel w w' ∧ Blk w' b1 28 #[.slice G gr.length cg] ∧ Blk w' b11 4 (row gr.length (fun x => .bool (mk x))) ∧ Own w' (b11 + 1) 3 1 A4 (st).length cap4 ((st).map (Value.int .i64)) ∧ DS gr mk st gr.length 0) (2 * lackN gr.length (setB (fun _ => false) 0) + 1) ?_ (fun m g4 w5 hI => ?_)
 ·
  exact ⟨[0], _, _, setB (fun _ => false) 0, rfl, by have := lack_le gr.length (setB (fun _ => false) 0); simp only [List.length_cons, List.length_nil]; omega, rfl, hB, hb1, hb11, own_blk hb14 or_b11_b14 rfl dE, DS.start hn0⟩
 obtain ⟨st, A4, cap4, mk, hm, hbd, h4, hB, hb1, hb11, ho, hds⟩ := hI
 refine c_know 4 (.slice A4 st.length cap4) h4 nu (c_seq (c_seq (c_region (wmS rfl (wl (r_len U43 rfl) ?_)))))
 refine wl (r_gtr rfl rfl) (x_nil (e_S ?_))
 refine c_ifd rfl (fun c17 => ?_) (fun c17 => ?_)
 ·
  obtain ⟨st1, z, rfl⟩ := snoc_of (show 0 < st.length by omega)
  obtain ⟨i, rfl, hin, hds1⟩ := hds.pop
  have hlen : (st1 ++ [(i : Int)]).length = st1.length + 1 := by simp
  obtain ⟨q, rfl, hqb, hql, hqc⟩ := ho.cell (by simp)
  have hz : w5.cell? ⟨q, 0 + st1.length * 1, none⟩ = some (.int .i64 (i : Int)) := by
    have := hqc st1.length (.int .i64 (i : Int)) (by simp)
    simpa using this
  obtain ⟨nb, no, LA, lc, rfl, hnb, hnr, hln⟩ := hG.at_ hB hin
  have hmx := hln.1
  unfold maxI at hmx
  refine c_skip (e_S (c_block (c_seq (c_region (wmS rfl ?_)))))
  refine wmS rfl (wl (r_len U43 rfl) (wl (r_sub (c := (st1.length : Int)) rfl rfl (by rw [hlen]; omega) om) (wl (r_ia (i := st1.length) U43 sz3_GLoose rfl rfl (by rw [hlen]; omega) rfl) (wl (r_ld1 (v := .int _ _) U3 rfl rfl hz) (waI rfl ?_)))))
  refine x_nil (e_S (c_seq (c_region (wmS rfl (wmS rfl ?_)))))
  refine wl (r_len U43 rfl) (wl (r_sub (c := (st1.length : Int)) rfl rfl (by rw [hlen]; omega) om) (wl (r_slH (h := st1.length) U43 sz3_GLoose rfl rfl (by have := ho.cap_le; omega)) (waS rfl (x_nil (e_S ?_)))))
  refine c_seq ?_
  replace ho : Own w5 (b11 + 1) 3 1 (some ⟨q, 0, none⟩) st1.length cap4 (st1.map (Value.int .i64)) := by
    have h := ho.take (k' := st1.length) om om
    simpa using h
  refine c_region (wl (r_fa U28 sz26 dE rfl rfl rfl) (wl (r_ld1 (v := .slice _ _ _) U26 rfl rfl (hb1.cell rfl)) (wmI rfl (wl (r_ia (i := i) U26 sz33 rfl rfl hin rfl) (wl (r_fa U33 sz31 dE rfl rfl rfl) ?_)))))
  refine wl (r_ld1 (v := .slice _ _ _) U31 rfl rfl (hnr 1 _ rfl)) (wl (r_len U31 rfl) (wmI rfl (x_nil (e_S (c_block ?_)))))
  refine c_loopS [4, 7, 36, 37, 38, 39, 40, 41, 42, 43, 44, 45, 46, 47, 48, 49, 50, 51, 52, 53, 54, 55] (fun m g w' => ∃ (j : Nat) (st2 : List Int) (A5 : Option Addr) (cap5 : Nat) (mk2 : Nat → Bool), j ≤ (gr[i]'hin).ln.length ∧ m = (gr[i]'hin).ln.length - j ∧ g 36 = .int .i64 j ∧ g 4 = .slice A5 st2.length cap5 ∧ 2 * lackN gr.length mk2 + st2.length ≤ 2 * lackN gr.length mk + st1.length ∧ Bel w w' ∧ Blk w' b1 28 #[.slice (some ⟨nb, no, none⟩) gr.length cg] ∧ Blk w' b11 4 (row gr.length (fun x => .bool (mk2 x))) ∧ Own w' (b11 + 1) 3 1 A5 (st2).length cap5 ((st2).map (Value.int .i64)) ∧ DS gr mk2 st2 i j) ((gr[i]'hin).ln.length) ?_ (fun m g8 w6 hI => ?_)
  ·
   exact ⟨0, st1, _, _, mk, Nat.zero_le _, rfl, rfl, rfl, Nat.le_refl _, hB, hb1, hb11, ho, hds1⟩
  obtain ⟨j, st2, A5, cap5, mk2, hj, hmj, h36, h4, hms, hB, hb1, hb11, ho, hds2⟩ := hI
  refine c_know 36 (.int .i64 j) h36 nu (c_know 4 (.slice A5 st2.length cap5) h4 nu (c_seq (c_region (wl (r_lss rfl rfl) (x_nil ?_)))))
  refine e_S (c_seq ?_)
  refine c_ifd rfl (fun c37 => ?_) (fun c37 => ?_)
  ·
   have hjl : j < (gr[i]'hin).ln.length := by omega
   obtain ⟨lb, lof, rfl, hlb, hlr⟩ := hln.at_ hB hjl
   obtain ⟨t, ht, htl⟩ : ∃ t : Nat, ((gr[i]'hin).ln[j]'hjl).2 = (t : Int) ∧ t < gr.length := by
     have h1 := hk.ln i hin _ (List.getElem_mem hjl)
     exact ⟨(((gr[i]'hin).ln[j]'hjl).2).toNat, by omega, by omega⟩
   refine c_skip (e_S (c_seq (c_block (c_seq (c_region ?_)))))
   refine wl (r_ia (i := j) U31 sz30 rfl rfl om rfl) (wl (r_ldS U30 rfl rfl hlr sz30) ?_)
   refine wl_al (cs := #[.int .i64 0, .int .i64 0]) ze30 rfl (fun b7 w7 hb7 hs hr => ?_)
   have or_b1_b7 : b1 < b7 := nLL hb1.lt hr
   have or_b11_b7 : b11 < b7 := nLL hb11.lt hr
   have or_ho_b7 := fun g hg => nLL (ho.lt g hg).2 hr
   have lo7 := nLT (Bel.size hB) hr
   replace hB := hB.tr0 hs
   replace hb1 := hb1.tr0 hs
   replace hb11 := hb11.tr0 hs
   replace ho := ho.tr0 hs
   clear hs
   clear hr
   refine wl_stW hb7 rfl rfl sz30 rfl oneA (fun w8 hq hs => ?_)
   replace hB := hB.tr1 hs lo7
   replace hb1 := hb1.tr1 hs om
   replace hb11 := hb11.tr1 hs om
   replace ho := ho.tr1 hs (fun g hg => by have := (ho.lt g hg).1; (try have := or_ho_b7 g hg); (try simp only [aL] at hg); (try simp only [List.mem_singleton] at hg); omega)
   clear hs
   replace hb7 := hq
   refine x_nil (e_S (c_seq ?_))
   rw [ht] at hb7
   refine c_region (wmS rfl (wl (r_fa U30 sz3_GLoose dE rfl rfl rfl) (wl (r_ld1 (v := .int _ _) U3 rfl rfl (hb7.cell rfl)) (wl (r_ia (i := t) U82 sz4_GLoose rfl rfl htl rfl) (wl (r_ld1 (v := .bool _) U4 rfl rfl (hb11.cell (row_get htl))) ?_)))))
   refine wl (r_not rfl) (x_nil (e_S ?_))
   refine c_if rfl (fun c45 => ?_) (fun c45 => ?_)
   ·
    have hmt : mk2 t = false := by simpa using c45
    refine c_seq (c_region (wmS rfl (wl (r_fa U30 sz3_GLoose dE rfl rfl rfl) (wl (r_ld1 (v := .int _ _) U3 rfl rfl (hb7.cell rfl)) (wl (r_ia (i := t) U82 sz4_GLoose rfl rfl htl rfl) ?_)))))
    refine wl_st1 (v := .bool _) hb11 rfl rfl sz4_GLoose (by rw [row_size]; omega) rfl row_set (fun w9 hq hs => ?_)
    replace hB := hB.tr1 hs lo11
    replace hb1 := hb1.tr1 hs om
    replace ho := ho.tr1 hs (fun g hg => by have := (ho.lt g hg).1; (try have := or_ho_b11 g hg); (try simp only [aL] at hg); (try simp only [List.mem_singleton] at hg); omega)
    replace hb7 := hb7.tr1 hs om
    clear hs
    replace hb11 := hq
    rw [row_setB] at hb11
    refine x_nil (e_S (c_region (wmS rfl (wl (r_fa U30 sz3_GLoose dE rfl rfl rfl) (wl (r_ld1 (v := .int _ _) U3 rfl rfl (hb7.cell rfl)) ?_)))))
    refine wl_bs (cs := #[_]) [(0, .int _ _)] rfl U43 sz3_GLoose ze3_GUnr dE dE kR rfl (fun b53 w10 hb53 hs hr => ?_)
    have or_b1_b53 : b1 < b53 := nLL hb1.lt hr
    have or_b11_b53 : b11 < b53 := nLL hb11.lt hr
    have or_ho_b53 := fun g hg => nLL (ho.lt g hg).2 hr
    have or_b7_b53 : b7 < b53 := nLL hb7.lt hr
    have lo53 := nLT (Bel.size hB) hr
    replace hB := hB.tr0 hs
    replace hb1 := hb1.tr0 hs
    replace hb11 := hb11.tr0 hs
    replace ho := ho.tr0 hs
    replace hb7 := hb7.tr0 hs
    clear hs
    clear hr
    refine wl_app U43 in3 rfl dE ho hb53 rfl rfl rfl oneA dE om om hb11.lt (fun g54 cap54 w11 ho54 hs hg => ?_)
    have ne_ho54_b1 : g54 ≠ b1 := fun e => by
     have hl := hb1.lt
     rcases hg with hg | hg
     · have h1 := ho.lt g54 (by rw [hg]; exact List.mem_singleton.2 rfl)
       (try have := or_ho_b1 g54 (by rw [hg]; exact List.mem_singleton.2 rfl)); omega
     · omega
    have ne_ho54_b11 : g54 ≠ b11 := fun e => by
     have hl := hb11.lt
     rcases hg with hg | hg
     · have h1 := ho.lt g54 (by rw [hg]; exact List.mem_singleton.2 rfl)
       (try have := or_ho_b11 g54 (by rw [hg]; exact List.mem_singleton.2 rfl)); omega
     · omega
    have ne_ho54_b7 : g54 ≠ b7 := fun e => by
     have hl := hb7.lt
     rcases hg with hg | hg
     · have h1 := ho.lt g54 (by rw [hg]; exact List.mem_singleton.2 rfl)
       (try have := or_ho_b7 g54 (by rw [hg]; exact List.mem_singleton.2 rfl)); omega
     · omega
    replace hB := hB.tr hs (fun g hg => nLT (Nat.le_succ_of_le lo11) (ho.lt g hg).1)
    replace hb1 := hb1.tr hs (fun hx => by have := (ho.lt _ hx).1; (try have := or_ho_b1 _ hx); omega)
    replace hb11 := hb11.tr hs (fun hx => by have := (ho.lt _ hx).1; (try have := or_ho_b11 _ hx); omega)
    replace hb7 := hb7.tr hs (fun hx => by have := (ho.lt _ hx).1; (try have := or_ho_b7 _ hx); omega)
    refine waS rfl (x_nil (e_B (e_S (c_region (wl (r_add rfl rfl rfl om) ?_)))))
    refine wmI rfl (x_nil (e_LS ((gr[i]'hin).ln.length - (j + 1)) om agA ?_))
    first
      | exact ⟨j + 1, st2 ++ [(t : Int)], _, _, setB mk2 t, by omega, rfl, rfl, sl_snoc _ _ _ _, by have := lack_set htl hmt; simp only [List.length_append, List.length_cons, List.length_nil]; omega, hB, hb1, hb11, own_snoc ho54, hds2.new hin hjl ht htl⟩
      | exact ⟨j + 1, st2, _, _, mk2, by omega, rfl, rfl, rfl, hms, hB, hb1, hb11, ho, hds2.old hin hjl (by rw [ht]; exact hmt)⟩
   have hmt : mk2 t = true := by simpa using c45
   refine c_skip (e_B (e_S (c_region (wl (r_add rfl rfl rfl om) (wmI rfl ?_)))))
   refine x_nil (e_LS ((gr[i]'hin).ln.length - (j + 1)) om agA ?_)
   first
     | exact ⟨j + 1, st2 ++ [(t : Int)], _, _, setB mk2 t, by omega, rfl, rfl, sl_snoc _ _ _ _, by have := lack_set htl hmt; simp only [List.length_append, List.length_cons, List.length_nil]; omega, hB, hb1, hb11, own_snoc ho54, hds2.new hin hjl ht htl⟩
     | exact ⟨j + 1, st2, _, _, mk2, by omega, rfl, rfl, rfl, hms, hB, hb1, hb11, ho, hds2.old hin hjl (by rw [ht]; exact hmt)⟩
  have hjx : j = (gr[i]'hin).ln.length := by omega
  refine c_exit (e_Sx (e_LSx (e_Bx (e_B (e_LS (2 * lackN gr.length mk2 + st2.length) om agA ?_)))))
  exact ⟨st2, _, _, mk2, rfl, by omega, rfl, hB, hb1, hb11, ho, hds2.done hin hjx⟩
 have hst : st = [] := List.length_eq_zero_iff.1 om
 subst hst
 have hall := hds.end_
 refine c_exit (e_Sx (e_LSx (e_Bx (e_S (c_seq ?_)))))
 refine c_region (wmS rfl ?_)
 refine wl_cl fn99 (index_any b11 gr.length mk _ hb11 om) rfl (fun e' w12 hr => ?_)
 obtain ⟨⟨r, rfl, hr⟩, hs⟩ := hr
 replace hs := Same.of_bel hs
 replace hB := hB.tr0 hs
 replace hb1 := hb1.tr0 hs
 replace hb11 := hb11.tr0 hs
 replace ho := ho.tr0 hs
 clear hs
 refine ⟨_, rfl, ?_⟩
 refine waI rfl (x_nil (e_S (c_ret (fin1 (.inl rfl) rfl rfl ?_))))
 have hun : r = unrI gr := by
   rcases hr with ⟨h1, h2⟩ | ⟨k, h1, h2, h3, h4⟩
   · rw [h1]; exact hall.yes h2
   · rw [h1]; exact hall.no h2 h3 h4
 exact ⟨ret_int hun.symm, hB⟩
set_option maxHeartbeats 1000000 in
theorem runr_any (G : Option Addr) (cg nt nf : Nat) (gr : List Nd) (w : World) (hG : NodesIn w G gr) (hk : GOk nt nf gr) : Calls Tryd.prog 73 #[.agg #[.slice G gr.length cg]] w fun e w' => e = .returned (.int .i64 (unrI gr)) ∧ Bel w w' := by
 have hn6 := hk.le
 have hn0 := hk.pos
 have hrg := gok_rng hk
 refine enter Tryd.func73 Tryd.ntmps73 rfl (Nat.le_of_ble_eq_true rfl) ?_
 have hB : Bel w w := Below.refl _ _
 refine c_seq (c_region ?_)
 refine wl_bx (v := .agg #[_]) (cs := #[_]) rfl rfl (fun b1 w1 hb1 hs hr => ?_)
 have lo1 := nLT (Bel.size hB) hr
 replace hB := hB.tr0 hs
 clear hs
 clear hr
 refine waI rfl (x_nil (e_S (c_seq (c_region (wl (r_fa U28 sz26 dE rfl rfl rfl) ?_)))))
 refine wl (r_ld1 (v := .slice _ _ _) U26 rfl rfl (hb1.cell rfl)) (wl (r_len U26 rfl) ?_)
 refine wl_mkR (m := gr.length) U82 in4_GUnr rfl rfl rfl om om (fun b11 w2 hb11 hs hr => ?_)
 have or_b1_b11 : b1 < b11 := nLL hb1.lt hr
 have lo11 := nLT (Bel.size hB) hr
 replace hB := hB.tr0 hs
 replace hb1 := hb1.tr0 hs
 clear hs
 clear hr
 refine waS rfl (x_nil (e_S (c_seq (c_region (wmS rfl ?_)))))
 refine wl (r_ia (i := 0) U82 sz4_GLoose rfl rfl hn0 rfl) ?_
 refine wl_st1 (v := .bool _) hb11 rfl rfl sz4_GLoose (by rw [row_size]; omega) rfl row_set (fun w3 hq hs => ?_)
 replace hB := hB.tr1 hs lo11
 replace hb1 := hb1.tr1 hs om
 clear hs
 replace hb11 := hq
 rw [row_congr (g' := fun x => .bool (setB (fun _ => false) 0 x)) (fun x _ => by by_cases e : x = 0 <;> simp [setB, e])] at hb11
 refine x_nil (e_S (c_seq (c_seq (c_region (wl (r_fa U28 sz26 dE rfl rfl rfl) ?_)))))
 refine wl (r_ld1 (v := .slice _ _ _) U26 rfl rfl (hb1.cell rfl)) (wl (r_len U26 rfl) (wmI rfl (x_nil (e_S (c_block ?_)))))
 refine c_loopS [4, 5, 7, 17, 18, 19, 20, 21, 22, 23, 24, 25, 26, 27, 28, 29, 30, 31, 32, 33, 34, 35, 36, 37, 38, 39, 40, 41, 42, 43, 44] (fun m g w' => ∃ (p : Nat) (mk : Nat → Bool), p ≤ gr.length ∧ m = gr.length - p ∧ g 17 = .int .i64 p ∧ Bel w w' ∧ Blk w' b1 28 #[.slice G gr.length cg] ∧ Blk w' b11 4 (row gr.length (fun x => .bool (mk x))) ∧ PS gr mk p) (gr.length) ?_ (fun m g4 w4 hI => ?_)
 ·
  exact ⟨0, setB (fun _ => false) 0, Nat.zero_le _, rfl, rfl, hB, hb1, hb11, PS.start hn0⟩
 obtain ⟨p, mk, hp, hm, h17, hB, hb1, hb11, hps⟩ := hI
 refine c_know 17 (.int .i64 p) h17 nu (c_seq (c_region (wl (r_lss rfl rfl) (x_nil (e_S ?_)))))
 refine c_seq ?_
 refine c_ifd rfl (fun c18 => ?_) (fun c18 => ?_)
 ·
  refine c_skip (e_S (c_seq (c_block (c_seq (c_region ?_)))))
  refine wl (r_fa U28 sz26 dE rfl rfl rfl) (wl (r_ld1 (v := .slice _ _ _) U26 rfl rfl (hb1.cell rfl)) (wl (r_len U26 rfl) (wmI rfl (x_nil (e_S ?_)))))
  refine c_block ?_
  refine c_loopS [4, 5, 7, 22, 23, 24, 25, 26, 27, 28, 29, 30, 31, 32, 33, 34, 35, 36, 37, 38, 39, 40, 41, 42, 43] (fun m g w' => ∃ (i : Nat) (mk2 : Nat → Bool), i ≤ gr.length ∧ m = gr.length - i ∧ g 22 = .int .i64 i ∧ Bel w w' ∧ Blk w' b1 28 #[.slice G gr.length cg] ∧ Blk w' b11 4 (row gr.length (fun x => .bool (mk2 x))) ∧ PP gr mk mk2 i 0) (gr.length) ?_ (fun m g6 w5 hI => ?_)
  ·
   exact ⟨0, mk, Nat.zero_le _, rfl, rfl, hB, hb1, hb11, PP.start hps⟩
  obtain ⟨i, mk2, hi, hmi, h22, hB, hb1, hb11, hpp⟩ := hI
  refine c_know 22 (.int .i64 i) h22 nu (c_seq (c_region (wl (r_lss rfl rfl) (x_nil (e_S ?_)))))
  refine c_seq ?_
  refine c_ifd rfl (fun c23 => ?_) (fun c23 => ?_)
  ·
   have hin : i < gr.length := by omega
   obtain ⟨nb, no, LA, lc, rfl, hnb, hnr, hln⟩ := hG.at_ hB hin
   have hmx := hln.1
   unfold maxI at hmx
   refine c_skip (e_S (c_seq (c_block (c_seq (c_region ?_)))))
   refine wmI rfl (wl (r_ia (i := i) U26 sz33 rfl rfl om rfl) (wl (r_ldS U33 rfl rfl hnr sz33) ?_))
   refine wl_al (cs := #[.int .i64 0, .slice none 0 0]) ze33 rfl (fun b5 w6 hb5 hs hr => ?_)
   have or_b1_b5 : b1 < b5 := nLL hb1.lt hr
   have or_b11_b5 : b11 < b5 := nLL hb11.lt hr
   have lo5 := nLT (Bel.size hB) hr
   replace hB := hB.tr0 hs
   replace hb1 := hb1.tr0 hs
   replace hb11 := hb11.tr0 hs
   clear hs
   clear hr
   refine waI rfl ?_
   refine wl_stW hb5 rfl rfl sz33 rfl oneA (fun w7 hq hs => ?_)
   replace hB := hB.tr1 hs lo5
   replace hb1 := hb1.tr1 hs om
   replace hb11 := hb11.tr1 hs om
   clear hs
   replace hb5 := hq
   refine x_nil (e_S (c_seq (c_region (wl (r_fa U33 sz31 dE rfl rfl rfl) (wl (r_ld1 (v := .slice _ _ _) U31 rfl rfl (hb5.cell rfl)) ?_)))))
   refine wl (r_len U31 rfl) (wmI rfl (x_nil (e_S (c_block ?_))))
   refine c_loopS [7, 30, 31, 32, 33, 34, 35, 36, 37, 38, 39, 40, 41, 42] (fun m g w' => ∃ (j : Nat) (mk3 : Nat → Bool), j ≤ (gr[i]'hin).ln.length ∧ m = (gr[i]'hin).ln.length - j ∧ g 30 = .int .i64 j ∧ Bel w w' ∧ Blk w' b1 28 #[.slice (some ⟨nb, no, none⟩) gr.length cg] ∧ Blk w' b11 4 (row gr.length (fun x => .bool (mk3 x))) ∧ Blk w' b5 33 #[.int .i64 (gr[i]'hin).ty, .slice LA (gr[i]'hin).ln.length lc] ∧ PP gr mk mk3 i j) ((gr[i]'hin).ln.length) ?_ (fun m g9 w8 hI => ?_)
   ·
    exact ⟨0, mk2, Nat.zero_le _, rfl, rfl, hB, hb1, hb11, hb5, hpp⟩
   obtain ⟨j, mk3, hj, hmj, h30, hB, hb1, hb11, hb5, hpp3⟩ := hI
   refine c_know 30 (.int .i64 j) h30 nu (c_seq (c_region (wl (r_lss rfl rfl) (x_nil (e_S ?_)))))
   refine c_seq ?_
   refine c_ifd rfl (fun c31 => ?_) (fun c31 => ?_)
   ·
    have hjl : j < (gr[i]'hin).ln.length := by omega
    obtain ⟨lb, lof, rfl, hlb, hlr⟩ := hln.at_ hB hjl
    obtain ⟨t, ht, htl⟩ : ∃ t : Nat, ((gr[i]'hin).ln[j]'hjl).2 = (t : Int) ∧ t < gr.length := by
      have h1 := hk.ln i hin _ (List.getElem_mem hjl)
      exact ⟨(((gr[i]'hin).ln[j]'hjl).2).toNat, by omega, by omega⟩
    refine c_skip (e_S (c_seq (c_block (c_seq (c_region ?_)))))
    refine wl (r_ia (i := j) U31 sz30 rfl rfl om rfl) (wl (r_ldS U30 rfl rfl hlr sz30) ?_)
    refine wl_al (cs := #[.int .i64 0, .int .i64 0]) ze30 rfl (fun b7 w9 hb7 hs hr => ?_)
    have or_b1_b7 : b1 < b7 := nLL hb1.lt hr
    have or_b11_b7 : b11 < b7 := nLL hb11.lt hr
    have or_b5_b7 : b5 < b7 := nLL hb5.lt hr
    have lo7 := nLT (Bel.size hB) hr
    replace hB := hB.tr0 hs
    replace hb1 := hb1.tr0 hs
    replace hb11 := hb11.tr0 hs
    replace hb5 := hb5.tr0 hs
    clear hs
    clear hr
    refine wl_stW hb7 rfl rfl sz30 rfl oneA (fun w10 hq hs => ?_)
    replace hB := hB.tr1 hs lo7
    replace hb1 := hb1.tr1 hs om
    replace hb11 := hb11.tr1 hs om
    replace hb5 := hb5.tr1 hs om
    clear hs
    replace hb7 := hq
    refine x_nil (e_S (c_seq (c_region (wmS rfl (wmI rfl ?_)))))
    refine wl (r_ia (i := i) U82 sz4_GLoose rfl rfl om rfl) (wl (r_ld1 (v := .bool _) U4 rfl rfl (hb11.cell (row_get hin))) (x_nil (e_S ?_)))
    refine c_if rfl (fun c37 => ?_) (fun c37 => ?_)
    ·
     rw [ht] at hb7
     refine c_region (wmS rfl (wl (r_fa U30 sz3_GLoose dE rfl rfl rfl) (wl (r_ld1 (v := .int _ _) U3 rfl rfl (hb7.cell rfl)) (wl (r_ia (i := t) U82 sz4_GLoose rfl rfl htl rfl) ?_))))
     refine wl_st1 (v := .bool _) hb11 rfl rfl sz4_GLoose (by rw [row_size]; omega) rfl row_set (fun w11 hq hs => ?_)
     replace hB := hB.tr1 hs lo11
     replace hb1 := hb1.tr1 hs om
     replace hb5 := hb5.tr1 hs om
     replace hb7 := hb7.tr1 hs om
     clear hs
     replace hb11 := hq
     rw [row_setB] at hb11
     refine x_nil (e_B (e_S (c_region (wl (r_add rfl rfl rfl om) (wmI rfl ?_)))))
     refine x_nil (e_LS ((gr[i]'hin).ln.length - (j + 1)) om agA ?_)
     first
       | exact ⟨j + 1, setB mk3 t, by omega, rfl, rfl, hB, hb1, hb11, hb5, hpp3.mark hin hjl ht c37⟩
       | exact ⟨j + 1, mk3, by omega, rfl, rfl, hB, hb1, hb11, hb5, hpp3.skip c37⟩
    refine c_skip (e_B (e_S (c_region (wl (r_add rfl rfl rfl om) (wmI rfl ?_)))))
    refine x_nil (e_LS ((gr[i]'hin).ln.length - (j + 1)) om agA ?_)
    first
      | exact ⟨j + 1, setB mk3 t, by omega, rfl, rfl, hB, hb1, hb11, hb5, hpp3.mark hin hjl ht c37⟩
      | exact ⟨j + 1, mk3, by omega, rfl, rfl, hB, hb1, hb11, hb5, hpp3.skip c37⟩
   have hjx : j = (gr[i]'hin).ln.length := by omega
   refine c_exit (e_Sx (e_LSx (e_Bx (e_B (e_S ?_)))))
   refine c_region (wl (r_add rfl rfl rfl om) (wmI rfl (x_nil (e_LS (gr.length - (i + 1)) om agA ?_))))
   exact ⟨i + 1, mk3, by omega, rfl, rfl, hB, hb1, hb11, hpp3.next hin hjx⟩
  have hie : i = gr.length := by omega
  rw [hie] at hpp
  refine c_exit (e_Sx (e_LSx (e_Bx (e_B (e_S ?_)))))
  refine c_region (wl (r_add rfl rfl rfl om) (wmI rfl (x_nil (e_LS (gr.length - (p + 1)) om agA ?_))))
  exact ⟨p + 1, mk2, by omega, rfl, rfl, hB, hb1, hb11, PP.end_ hrg hps hpp⟩
 have hpe : p = gr.length := by omega
 rw [hpe] at hps
 have hall := hps.end_
 refine c_exit (e_Sx (e_LSx (e_Bx (e_S (c_seq ?_)))))
 refine c_region (wmS rfl ?_)
 refine wl_cl fn99 (index_any b11 gr.length mk _ hb11 om) rfl (fun e' w12 hr => ?_)
 obtain ⟨⟨r, rfl, hr⟩, hs⟩ := hr
 replace hs := Same.of_bel hs
 replace hB := hB.tr0 hs
 replace hb1 := hb1.tr0 hs
 replace hb11 := hb11.tr0 hs
 clear hs
 refine ⟨_, rfl, ?_⟩
 refine waI rfl (x_nil (e_S (c_ret (fin1 (.inl rfl) rfl rfl ?_))))
 have hun : r = unrI gr := by
   rcases hr with ⟨h1, h2⟩ | ⟨k, h1, h2, h3, h4⟩
   · rw [h1]; exact hall.yes h2
   · rw [h1]; exact hall.no h2 h3 h4
 exact ⟨ret_int hun.symm, hB⟩
end Go.Proofs.YtegngekpmpdngaaDoor
