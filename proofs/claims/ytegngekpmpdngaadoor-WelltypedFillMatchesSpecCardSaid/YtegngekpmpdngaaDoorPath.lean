/- What these functions of the program compute, at every world: glosswright/glosswrightref3.From. What these functions of the program compute, at every world: glosswright/glosswrightref3.Canon. What these functions of the program compute, at every world: . Targets of links, walks along paths, what At answers. No program in sight. -/
import Derived.Test.YtegngekpmpdngaaDoorU
import Derived.Test.YtegngekpmpdngaaDoorGVis2
import Derived.Test.YtegngekpmpdngaaDoorGro
namespace Go.Proofs.YtegngekpmpdngaaDoor
open Go.RowKit
set_option maxHeartbeats 4000000 in
theorem rfrom3_any (G : Option Addr) (cg nf : Nat) (gr : List Nd) (r : Nat) (w : World) (hG : NodesIn w G gr) (hk : GOk2 nf gr) (hnf : nf ≤ 1000) (hr : r < gr.length) : Calls Tryd.prog 88 #[.agg #[.slice G gr.length cg], .int .i64 r] w fun e w' => (∃ o A c, DL gr [r] [] o ∧ OOk gr.length o ∧ e = .returned (.agg #[.slice A o.length c]) ∧ GrT w' w.heap.size w'.heap.size A c (canG gr o) (fun x => (nd (canG gr o) x).ty)) ∧ Bel w w' := by
 have hn6 := hk.le
 have hrg := succ_rng2 hk
 refine enter Tryd.func88 Tryd.ntmps88 rfl (Nat.le_of_ble_eq_true rfl) ?_
 have hB : Bel w w := Below.refl _ _
 refine c_seq (c_region ?_)
 refine wl_bx (v := .agg #[_]) (cs := #[_]) rfl rfl (fun b2 w1 hb2 hs hr => ?_)
 have lo2 := nLT (Bel.size hB) hr
 replace hB := hB.tr0 hs
 clear hs
 clear hr
 refine wl_al (cs := #[.slice none 0 0]) ze28 rfl (fun b4 w2 hb4 hs hr => ?_)
 have or_b2_b4 : b2 < b4 := nLL hb2.lt hr
 have lo4 := nLT (Bel.size hB) hr
 replace hB := hB.tr0 hs
 replace hb2 := hb2.tr0 hs
 clear hs
 clear hr
 refine x_nil (e_S (c_seq (c_region (wl (r_fa U28 sz26 dE rfl rfl rfl) (wl (r_ld1 (v := .slice _ _ _) U26 rfl rfl (hb2.cell rfl)) ?_)))))
 refine wl (r_len U26 rfl) ?_
 refine wl_mkR (m := gr.length) U43 in3 rfl rfl rfl om om (fun b17 w3 hb17 hs hr => ?_)
 have or_b2_b17 : b2 < b17 := nLL hb2.lt hr
 have or_b4_b17 : b4 < b17 := nLL hb4.lt hr
 have lo17 := nLT (Bel.size hB) hr
 replace hB := hB.tr0 hs
 replace hb2 := hb2.tr0 hs
 replace hb4 := hb4.tr0 hs
 clear hs
 clear hr
 refine waS rfl (x_nil (e_S (c_seq (c_seq (c_region ?_)))))
 refine wmS rfl (wl (r_len U43 rfl) (wmI rfl (x_nil (e_S (c_block ?_)))))
 refine c_loopS [6, 20, 21, 22, 23, 24, 25, 26] (fun m g w' => ∃ k : Nat, k ≤ gr.length ∧ m = gr.length - k ∧ g 20 = .int .i64 k ∧ Bel w w' ∧ Blk w' b2 28 #[.slice G gr.length cg] ∧ Blk w' b4 28 #[.slice none 0 0] ∧ Blk w' b17 3 (row gr.length (fun x => .int .i64 (if x < k then -1 else 0)))) (gr.length) ?_ (fun m g3 w4 hI => ?_)
 ·
  refine ⟨0, Nat.zero_le _, rfl, rfl, hB, hb2, hb4, ?_⟩
  rw [row_congr (g' := fun _ => .int .i64 0) (fun x _ => by simp)]; exact hb17
 obtain ⟨k, hkk, hm, h20, hB, hb2, hb4, hb17⟩ := hI
 refine c_know 20 (.int .i64 k) h20 nu (c_seq (c_region (wl (r_lss rfl rfl) (x_nil (e_S ?_)))))
 refine c_seq ?_
 refine c_ifd rfl (fun c21 => ?_) (fun c21 => ?_)
 ·
  have hlt : k < gr.length := by omega
  refine c_skip (e_S (c_seq (c_block (c_seq (c_region ?_)))))
  refine wmI rfl (waI rfl (x_nil (e_S (c_region (wmS rfl ?_)))))
  refine wmI rfl (wl (r_ia (i := k) U43 sz3_GLoose rfl rfl om rfl) ?_)
  refine wl_st1 (v := .int _ _) hb17 rfl rfl sz3_GLoose (by rw [row_size]; omega) rfl row_set (fun w5 hq hs => ?_)
  replace hB := hB.tr1 hs lo17
  replace hb2 := hb2.tr1 hs om
  replace hb4 := hb4.tr1 hs om
  clear hs
  replace hb17 := hq
  rw [row_congr (g' := fun x => .int .i64 (if x < k + 1 then -1 else 0)) (fun x _ => by
    by_cases e : x = k
    · subst e; simp
    · have e1 : (x < k + 1) ↔ (x < k) := by omega
      simp [e, e1])] at hb17
  refine x_nil (e_B (e_S (c_region (wl (r_add rfl rfl rfl om) (wmI rfl ?_)))))
  refine x_nil (e_LS (gr.length - (k + 1)) om agA ?_)
  exact ⟨k + 1, by omega, rfl, rfl, hB, hb2, hb4, hb17⟩
 have hke : k = gr.length := by omega
 rw [hke, row_congr (g' := fun x => .int .i64 (numO [] x)) (fun x hx => by simp [hx, numO_nil])] at hb17
 refine c_exit (e_Sx (e_LSx (e_Bx (e_S (c_seq ?_)))))
 refine c_region (waS rfl (x_nil (e_S (c_seq (c_region ?_)))))
 refine wl (r_ldS U28 rfl rfl hb2.range0 sz28) (wmI rfl (wmS rfl (wmS rfl ?_)))
 have ne2 : b2 ≠ b17 := by omega
 have ne4 : b4 ≠ b17 := by omega
 refine wl_cl fn105 (visit2_any (w0 := w) (G := G) (cg := cg) (bn := b17) hG hk lo17 gr.length [] none 0 _ r (lack_le _ _) hr hB (OOk.nil _) hb17 (OrdF.nil _ _ _)) rfl (fun e' w6 hr => ?_)
 obtain ⟨o, AO, capO, hD, rfl, hb17n, hO, hS3⟩ := hr
 replace hB := hB.tr hS3 (by simpa using lo17)
 replace hb2 := hb2.tr hS3 (by simpa using ne2)
 replace hb4 := hb4.tr hS3 (by simpa using ne4)
 replace hb17 := hb17n
 obtain ⟨hok, _, _⟩ := hD.ok hrg (fun i hi => by rw [List.mem_singleton.1 hi]; exact hr) (OOk.nil _)
 have hol := hok.cnt
 obtain ⟨bd, hbde⟩ : ∃ b, b = w6.heap.size := ⟨_, rfl⟩
 rw [← hbde] at hO
 have hbd : bd ≤ w6.heap.size := Nat.le_of_eq hbde
 refine ⟨_, rfl, ?_⟩
 refine waS rfl (x_nil (e_S (c_seq (c_region ?_))))
 refine wl_al (cs := #[.slice none 0 0]) ze28 rfl (fun b8 w7 hb8 hs hr => ?_)
 have or_b2_b8 : b2 < b8 := nLL hb2.lt hr
 have or_b4_b8 : b4 < b8 := nLL hb4.lt hr
 have or_b17_b8 : b17 < b8 := nLL hb17.lt hr
 have or_hbd_b8 := (nLT hbd hr)
 have lo8 := nLT (Bel.size hB) hr
 replace hB := hB.tr0 hs
 replace hb2 := hb2.tr0 hs
 replace hb4 := hb4.tr0 hs
 replace hb17 := hb17.tr0 hs
 replace hO := hO.tr hs (by simp)
 replace hbd := nLT hbd (Same.size hs)
 clear hs
 clear hr
 refine x_nil (e_S (c_seq (c_seq ?_)))
 replace hO := hO.up or_hbd_b8
 have hlo8 : w.heap.size ≤ b8 + 1 := Nat.le_succ_of_le lo8
 refine c_region (wmS rfl (wl (r_len U43 rfl) (wmI rfl (x_nil (e_S ?_)))))
 refine c_block ?_
 refine c_loopS [10, 11, 13, 34, 35, 36, 37, 38, 39, 40, 41, 42, 43, 44, 45, 46, 47, 48, 49, 50, 51, 52, 53, 54, 55, 56, 57, 58, 59, 60, 61, 62, 63, 64, 65, 66, 67, 68, 69, 70, 71, 72, 73, 74, 75, 76] (fun m g w' => ∃ (k : Nat) (AN : Option Addr) (capN : Nat) (V : Nat → Value), k ≤ o.length ∧ m = o.length - k ∧ g 34 = .int .i64 k ∧ Bel w w' ∧ Blk w' b2 28 #[.slice G gr.length cg] ∧ Blk w' b4 28 #[.slice none 0 0] ∧ Blk w' b17 3 (row gr.length (fun x => .int .i64 (numO o x))) ∧ Blk w' b8 28 #[.slice AN k capN] ∧ OrdF w' b17 b8 AO o ∧ Own w' (b8 + 1) 33 2 AN k capN (ndV (fun x => .int .i64 (nd gr (o.getD x 0)).ty) V k) ∧ (∀ x, x < k → RowO w' w.heap.size w'.heap.size (V x) ((nd gr (o.getD x 0)).ln.map (canL o)))) (o.length) ?_ (fun m g11 w8 hI => ?_)
 ·
  exact ⟨0, none, 0, fun _ => .slice none 0 0, Nat.zero_le _, rfl, rfl, hB, hb2, hb4, hb17, hb8, hO, Own.nil _ _ _ _, fun x hx => by omega⟩
 obtain ⟨k, AN, capN, V, hkk, hm, h34, hB, hb2, hb4, hb17, hb8, hO, hoN, hrows⟩ := hI
 obtain ⟨bs, hbsz⟩ : ∃ b, b = w8.heap.size := ⟨_, rfl⟩
 rw [← hbsz] at hrows
 have hbz : bs ≤ w8.heap.size := Nat.le_of_eq hbsz
 have lu8 : b8 < bs := by rw [hbsz]; exact hb8.lt
 have luN : ∀ g ∈ aL AN, g < bs := fun g hg => by rw [hbsz]; exact (hoN.lt g hg).2
 refine c_know 34 (.int .i64 k) h34 nu (c_seq (c_region (wl (r_lss rfl rfl) (x_nil (e_S ?_)))))
 refine c_seq ?_
 refine c_ifd rfl (fun c35 => ?_) (fun c35 => ?_)
 ·
  have hlt : k < o.length := by omega
  obtain ⟨i, hoi, hin⟩ : ∃ i : Nat, o[k]'hlt = i ∧ i < gr.length := ⟨_, rfl, hok.lt _ (List.getElem_mem hlt)⟩
  have hgd : o.getD k 0 = i := by simp [List.getD, hlt, hoi]
  have hnd := nd_eq hin
  obtain ⟨q, rfl, hqn, hqd, hql, hqc⟩ : ∃ q, AO = some ⟨q, 0, none⟩ ∧ q ≠ b17 ∧ q < b8 ∧ q < w8.heap.size ∧ ∀ k (hk : k < o.length), w8.cell? ⟨q, 0 + k, none⟩ = some (.int .i64 (o[k] : Nat)) := by
    rcases hO with h | ⟨_, h⟩
    · rw [h.1] at hlt; simp at hlt
    · exact h
  have hz : w8.cell? ⟨q, 0 + k * 1, none⟩ = some (.int .i64 (i : Int)) := by
    have := hqc k hlt
    rw [hoi] at this
    simpa using this
  obtain ⟨nb, no, LA, lc, rfl, hnb, hnr, hln⟩ := hG.at_ (Below.refl _ _ : Bel w w) hin
  have hmx := hln.1
  unfold maxI at hmx
  have hfw := hk.few i hin
  refine c_skip (e_S (c_seq (c_block (c_seq (c_region ?_)))))
  refine wl (r_ia (i := k) U43 sz3_GLoose rfl rfl om rfl) (wl (r_ld1 (v := .int _ _) U3 rfl rfl hz) (waI rfl (x_nil (e_S (c_seq ?_)))))
  refine c_region (wl (r_fa U28 sz26 dE rfl rfl rfl) (wl (r_ld1 (v := .slice _ _ _) U26 rfl rfl (hb2.cell rfl)) (wmI rfl (wl (r_ia (i := i) U26 sz33 rfl rfl hin rfl) (wl (r_fa U33 sz3_GLoose dE rfl rfl rfl) ?_)))))
  refine wl (r_ld1 (v := .int _ _) U3 rfl rfl (hB.cell hnb (hnr 0 _ rfl))) (wl (r_bd1 (v0 := .int _ _) (fun v0 => #[v0, .slice none 0 0]) rfl kR) ?_)
  refine wl_al (cs := #[.int .i64 0, .slice none 0 0]) ze33 rfl (fun b11 w9 hb11 hs hr => ?_)
  have or_b2_b11 : b2 < b11 := nLL hb2.lt hr
  have or_b4_b11 : b4 < b11 := nLL hb4.lt hr
  have or_b17_b11 : b17 < b11 := nLL hb17.lt hr
  have or_b8_b11 : b8 < b11 := nLL hb8.lt hr
  have or_hoN_b11 := fun g hg => nLL (hoN.lt g hg).2 hr
  have or_hbz_b11 := (nLT hbz hr)
  have lo11 := nLT (Bel.size hB) hr
  replace hB := hB.tr0 hs
  replace hb2 := hb2.tr0 hs
  replace hb4 := hb4.tr0 hs
  replace hb17 := hb17.tr0 hs
  replace hO := hO.tr hs (by simp)
  replace hb8 := hb8.tr0 hs
  replace hoN := hoN.tr0 hs
  replace hrows := fun x hx => (hrows x hx).tr hs (by simp)
  replace hbz := nLT hbz (Same.size hs)
  clear hs
  clear hr
  refine wl_stW hb11 rfl rfl sz33 rfl oneA (fun w10 hq hs => ?_)
  replace hB := hB.tr1 hs lo11
  replace hb2 := hb2.tr1 hs om
  replace hb4 := hb4.tr1 hs om
  replace hb17 := hb17.tr1 hs om
  replace hO := hO.tr hs (fun g hg => by have h1 := List.mem_singleton.1 hg; omega)
  replace hb8 := hb8.tr1 hs om
  replace hoN := hoN.tr1 hs (fun g hg => by have := (hoN.lt g hg).1; (try have := or_hoN_b11 g hg); (try simp only [aL] at hg); (try simp only [List.mem_singleton] at hg); omega)
  replace hrows := fun x hx => (hrows x hx).tr hs (fun g hg => by rw [List.mem_singleton.1 hg]; first | exact .inr ⟨_, _, hb11, by decide⟩ | exact .inl om)
  replace hbz := nLT hbz (Same.size hs)
  clear hs
  replace hb11 := hq
  refine x_nil (e_S (c_seq (c_seq ?_)))
  have lb11 : bs ≤ b11 := or_hbz_b11
  have hlb5 : w.heap.size ≤ b11 + 1 := Nat.le_succ_of_le lo11
  refine c_region (wl (r_fa U28 sz26 dE rfl rfl rfl) (wl (r_ld1 (v := .slice _ _ _) U26 rfl rfl (hb2.cell rfl)) (wmI rfl (wl (r_ia (i := i) U26 sz33 rfl rfl hin rfl) (wl (r_fa U33 sz31 dE rfl rfl rfl) ?_)))))
  refine wl (r_ld1 (v := .slice _ _ _) U31 rfl rfl (hB.cell hnb (hnr 1 _ rfl))) (wl (r_len U31 rfl) (wmI rfl (x_nil (e_S (c_block ?_)))))
  refine c_loopS [13, 52, 53, 54, 55, 56, 57, 58, 59, 60, 61, 62, 63, 64, 65, 66, 67, 68, 69] (fun m g w' => ∃ (j : Nat) (A5 : Option Addr) (cap5 : Nat), j ≤ (gr[i]'hin).ln.length ∧ m = (gr[i]'hin).ln.length - j ∧ g 52 = .int .i64 j ∧ Bel w w' ∧ Blk w' b2 28 #[.slice (some ⟨nb, no, none⟩) gr.length cg] ∧ Blk w' b4 28 #[.slice none 0 0] ∧ Blk w' b17 3 (row gr.length (fun x => .int .i64 (numO o x))) ∧ Blk w' b8 28 #[.slice AN k capN] ∧ Blk w' b11 33 #[.int .i64 (gr[i]'hin).ty, .slice A5 j cap5] ∧ OrdF w' b17 b8 (some ⟨q, 0, none⟩) o ∧ Own w' (b8 + 1) 33 2 AN k capN (ndV (fun x => .int .i64 (nd gr (o.getD x 0)).ty) V k) ∧ (∀ x, x < k → RowO w' w.heap.size bs (V x) ((nd gr (o.getD x 0)).ln.map (canL o))) ∧ bs ≤ w'.heap.size ∧ Own w' (b11 + 1) 30 2 A5 j cap5 (lnV (((gr[i]'hin).ln.take j).map (canL o)))) ((gr[i]'hin).ln.length) ?_ (fun m g15 w11 hI => ?_)
  ·
   exact ⟨0, none, 0, Nat.zero_le _, rfl, rfl, hB, hb2, hb4, hb17, hb8, hb11, hO, hoN, hrows, hbz, Own.nil _ _ _ _⟩
  obtain ⟨j, A5, cap5, hj, hmj, h52, hB, hb2, hb4, hb17, hb8, hb11, hO, hoN, hrows, hbz, ho5⟩ := hI
  refine c_know 52 (.int .i64 j) h52 nu (c_seq (c_region (wl (r_lss rfl rfl) (x_nil (e_S ?_)))))
  refine c_seq ?_
  refine c_ifd rfl (fun c53 => ?_) (fun c53 => ?_)
  ·
   have hjl : j < (gr[i]'hin).ln.length := by omega
   obtain ⟨lb, lof, rfl, hlb, hlr⟩ := hln.at_ hB hjl
   obtain ⟨t, ht, htl⟩ : ∃ t : Nat, ((gr[i]'hin).ln[j]'hjl).2 = (t : Int) ∧ t < gr.length := by
     have h1 := hk.ln i hin _ (List.getElem_mem hjl)
     exact ⟨(((gr[i]'hin).ln[j]'hjl).2).toNat, by omega, by omega⟩
   refine c_skip (e_S (c_seq (c_block (c_seq (c_region ?_)))))
   refine wl (r_ia (i := j) U31 sz30 rfl rfl om rfl) (wl (r_ldS U30 rfl rfl hlr sz30) ?_)
   refine wl_al (cs := #[.int .i64 0, .int .i64 0]) ze30 rfl (fun b13 w12 hb13 hs hr => ?_)
   have or_b2_b13 : b2 < b13 := nLL hb2.lt hr
   have or_b4_b13 : b4 < b13 := nLL hb4.lt hr
   have or_b17_b13 : b17 < b13 := nLL hb17.lt hr
   have or_b8_b13 : b8 < b13 := nLL hb8.lt hr
   have or_hbz_b13 := (nLT hbz hr)
   have or_b11_b13 : b11 < b13 := nLL hb11.lt hr
   have or_hoN_b13 := fun g hg => nLL (hoN.lt g hg).2 hr
   have or_ho5_b13 := fun g hg => nLL (ho5.lt g hg).2 hr
   have lo13 := nLT (Bel.size hB) hr
   replace hB := hB.tr0 hs
   replace hb2 := hb2.tr0 hs
   replace hb4 := hb4.tr0 hs
   replace hb17 := hb17.tr0 hs
   replace hO := hO.tr hs (by simp)
   replace hb8 := hb8.tr0 hs
   replace hrows := fun x hx => (hrows x hx).tr hs (by simp)
   replace hbz := nLT hbz (Same.size hs)
   replace hb11 := hb11.tr0 hs
   replace hoN := hoN.tr0 hs
   replace ho5 := ho5.tr0 hs
   clear hs
   clear hr
   refine wl_stW hb13 rfl rfl sz30 rfl oneA (fun w13 hq hs => ?_)
   replace hB := hB.tr1 hs lo13
   replace hb2 := hb2.tr1 hs om
   replace hb4 := hb4.tr1 hs om
   replace hb17 := hb17.tr1 hs om
   replace hO := hO.tr hs (fun g hg => by have h1 := List.mem_singleton.1 hg; omega)
   replace hb8 := hb8.tr1 hs om
   replace hrows := fun x hx => (hrows x hx).tr hs (fun g hg => by rw [List.mem_singleton.1 hg]; first | exact .inr ⟨_, _, hb13, by decide⟩ | exact .inl om)
   replace hbz := nLT hbz (Same.size hs)
   replace hb11 := hb11.tr1 hs om
   replace hoN := hoN.tr1 hs (fun g hg => by have := (hoN.lt g hg).1; (try have := or_hoN_b13 g hg); (try simp only [aL] at hg); (try simp only [List.mem_singleton] at hg); omega)
   replace ho5 := ho5.tr1 hs (fun g hg => by have := (ho5.lt g hg).1; (try have := or_ho5_b13 g hg); (try simp only [aL] at hg); (try simp only [List.mem_singleton] at hg); omega)
   clear hs
   replace hb13 := hq
   refine x_nil (e_S ?_)
   rw [ht] at hb13
   have zo := fun g hg => (ho5.lt g hg).2
   have hsz := Bel.size hB
   refine c_monoSO 13 [56, 57, 58, 59, 60, 61, 62, 63, 64, 65, 66, 67, 68] (aL A5) 11 (fun ix v wv => match ix with | 0 => v = .pointer (some ⟨b11, 1, none⟩) | 1 => v = .slice A5 j cap5 | 2 => v = .pointer (some ⟨b13, 0, none⟩) | 3 => v = .int .i64 ((gr[i]'hin).ln[j]'hjl).1 | 4 => v = .slice (some ⟨b17, 0, none⟩) gr.length gr.length | 5 => v = .pointer (some ⟨b13, 1, none⟩) | 6 => v = .int .i64 (t : Nat) | 7 => v = .pointer (some ⟨b17, 0 + t * 1, none⟩) | 8 => v = .int .i64 (numO o t) | 9 => v = .agg #[.int .i64 ((gr[i]'hin).ln[j]'hjl).1, .int .i64 (numO o t)] | 10 => ∃ b, v = .slice (some ⟨b, 0, none⟩) 1 1 ∧ w13.heap.size ≤ b ∧ Blk wv b 30 #[.int .i64 ((gr[i]'hin).ln[j]'hjl).1, .int .i64 (numO o t)] | 11 => ∃ g cap, v = .slice (some ⟨g, 0, none⟩) (j + 1) cap ∧ Own wv (b11 + 1) 30 2 (some ⟨g, 0, none⟩) (j + 1) cap (lnV (((gr[i]'hin).ln.take j).map (canL o)) ++ [.int .i64 ((gr[i]'hin).ln[j]'hjl).1, .int .i64 (numO o t)]) | 12 => v = .pointer (some ⟨b11, 1, none⟩) | _ => True) (fun _ => True) kR kR ?_ (fun _ _ _ _ => trivial) ?_ ?_ dE ?_
   ·
    intro ix v wv wv2 h hs
    match ix, h with
    | 0, h => exact h
    | 1, h => exact h
    | 2, h => exact h
    | 3, h => exact h
    | 4, h => exact h
    | 5, h => exact h
    | 6, h => exact h
    | 7, h => exact h
    | 8, h => exact h
    | 9, h => exact h
    | 10, h =>
     obtain ⟨b66, e66, lo66, hb66⟩ := (show ∃ b, v = .slice (some ⟨b, 0, none⟩) 1 1 ∧ w13.heap.size ≤ b ∧ Blk wv b 30 #[.int .i64 ((gr[i]'hin).ln[j]'hjl).1, .int .i64 (numO o t)] from h)
     exact ⟨b66, e66, lo66, hb66.tr0 hs⟩
    | 11, h =>
     obtain ⟨g67, cap67, e67, ho67⟩ := (show ∃ g cap, v = .slice (some ⟨g, 0, none⟩) (j + 1) cap ∧ Own wv (b11 + 1) 30 2 (some ⟨g, 0, none⟩) (j + 1) cap (lnV (((gr[i]'hin).ln.take j).map (canL o)) ++ [.int .i64 ((gr[i]'hin).ln[j]'hjl).1, .int .i64 (numO o t)]) from h)
     exact ⟨g67, cap67, e67, ho67.tr0 hs⟩
    | 12, h => exact h
    | _ + 13, h => exact trivial
   ·
    intro ix o hix hne hoq gg wx hs hd
    match ix, hix, hne, hoq with
    | 0, _, _, hoq =>
     obtain rfl := sI hoq
     have hs0 := hs
     replace hb11 := hb11.tr hs (fun hx => by have := (ho5.lt _ hx).1; (try have := or_ho5_b11 _ hx); omega)
     refine os_rv (r_fa U33 sz31 dE rfl rfl rfl) ⟨Same.refl _ _, ?_⟩
     exact rfl
    | 1, _, _, hoq =>
     obtain rfl := sI hoq
     have hs0 := hs
     replace hb11 := hb11.tr hs (fun hx => by have := (ho5.lt _ hx).1; (try have := or_ho5_b11 _ hx); omega)
     have d0 : gg 56 = .pointer (some ⟨b11, 1, none⟩) := hd 0 (dep_of kR)
     have e56 := d0
     refine os_know 56 (.pointer (some ⟨b11, 1, none⟩)) e56 nu ?_
     refine os_rv (r_ld1 (v := .slice _ _ _) U31 rfl rfl (hb11.cell rfl)) ⟨Same.refl _ _, ?_⟩
     exact rfl
    | 2, _, _, hoq =>
     obtain rfl := sI hoq
     have hs0 := hs
     replace hb13 := hb13.tr hs (fun hx => by have := (ho5.lt _ hx).1; (try have := or_ho5_b13 _ hx); omega)
     refine os_rv (r_fa U30 sz3_GLoose dE rfl rfl rfl) ⟨Same.refl _ _, ?_⟩
     exact rfl
    | 3, _, _, hoq =>
     obtain rfl := sI hoq
     have hs0 := hs
     replace hb13 := hb13.tr hs (fun hx => by have := (ho5.lt _ hx).1; (try have := or_ho5_b13 _ hx); omega)
     have d2 : gg 58 = .pointer (some ⟨b13, 0, none⟩) := hd 2 (dep_of kR)
     have e58 := d2
     refine os_know 58 (.pointer (some ⟨b13, 0, none⟩)) e58 nu ?_
     refine os_rv (r_ld1 (v := .int _ _) U3 rfl rfl (hb13.cell rfl)) ⟨Same.refl _ _, ?_⟩
     exact rfl
    | 4, _, _, hoq =>
     obtain rfl := sI hoq
     have hs0 := hs
     replace hb17 := hb17.tr hs (fun hx => by have := (ho5.lt _ hx).1; (try have := or_ho5_b17 _ hx); omega)
     refine os_rv (r_mv (v := .slice _ _ _) rfl) ⟨Same.refl _ _, ?_⟩
     exact rfl
    | 5, _, _, hoq =>
     obtain rfl := sI hoq
     have hs0 := hs
     replace hb13 := hb13.tr hs (fun hx => by have := (ho5.lt _ hx).1; (try have := or_ho5_b13 _ hx); omega)
     refine os_rv (r_fa U30 sz3_GLoose dE rfl rfl rfl) ⟨Same.refl _ _, ?_⟩
     exact rfl
    | 6, _, _, hoq =>
     obtain rfl := sI hoq
     have hs0 := hs
     replace hb13 := hb13.tr hs (fun hx => by have := (ho5.lt _ hx).1; (try have := or_ho5_b13 _ hx); omega)
     have d5 : gg 61 = .pointer (some ⟨b13, 1, none⟩) := hd 5 (dep_of kR)
     have e61 := d5
     refine os_know 61 (.pointer (some ⟨b13, 1, none⟩)) e61 nu ?_
     refine os_rv (r_ld1 (v := .int _ _) U3 rfl rfl (hb13.cell rfl)) ⟨Same.refl _ _, ?_⟩
     exact rfl
    | 7, _, _, hoq =>
     obtain rfl := sI hoq
     have hs0 := hs
     have d4 : gg 60 = .slice (some ⟨b17, 0, none⟩) gr.length gr.length := hd 4 (dep_of kR)
     have e60 := d4
     have d6 : gg 62 = .int .i64 (t : Nat) := hd 6 (dep_of kR)
     have e62 := d6
     refine os_know 60 (.slice (some ⟨b17, 0, none⟩) gr.length gr.length) e60 nu (os_know 62 (.int .i64 (t : Nat)) e62 nu ?_)
     refine os_rv (r_ia (i := t) U43 sz3_GLoose rfl rfl htl rfl) ⟨Same.refl _ _, ?_⟩
     exact rfl
    | 8, _, _, hoq =>
     obtain rfl := sI hoq
     have hs0 := hs
     replace hb17 := hb17.tr hs (fun hx => by have := (ho5.lt _ hx).1; (try have := or_ho5_b17 _ hx); omega)
     have d7 : gg 63 = .pointer (some ⟨b17, 0 + t * 1, none⟩) := hd 7 (dep_of kR)
     have e63 := d7
     refine os_know 63 (.pointer (some ⟨b17, 0 + t * 1, none⟩)) e63 nu ?_
     refine os_rv (r_ld1 (v := .int _ _) U3 rfl rfl (hb17.cell (row_get htl))) ⟨Same.refl _ _, ?_⟩
     exact rfl
    | 9, _, _, hoq =>
     obtain rfl := sI hoq
     have hs0 := hs
     have d3 : gg 59 = .int .i64 ((gr[i]'hin).ln[j]'hjl).1 := hd 3 (dep_of kR)
     have e59 := d3
     have d8 : gg 64 = .int .i64 (numO o t) := hd 8 (dep_of kR)
     have e64 := d8
     refine os_know 59 (.int .i64 ((gr[i]'hin).ln[j]'hjl).1) e59 nu (os_know 64 (.int .i64 (numO o t)) e64 nu ?_)
     refine os_rv (r_bd2 (v0 := .int _ _) (v1 := .int _ _) (fun v0 v1 => #[v0, v1]) rfl rfl kR) ⟨Same.refl _ _, ?_⟩
     exact rfl
    | 10, _, _, hoq =>
     obtain rfl := sI hoq
     have hs0 := hs
     have d9 : gg 65 = .agg #[.int .i64 ((gr[i]'hin).ln[j]'hjl).1, .int .i64 (numO o t)] := hd 9 (dep_of kR)
     have e65 := d9
     refine os_know 65 (.agg #[.int .i64 ((gr[i]'hin).ln[j]'hjl).1, .int .i64 (numO o t)]) e65 nu ?_
     refine os_wl (fun ops Q K => ?_)
     refine wl_bs (cs := #[_, _]) [(0, .agg _)] rfl U31 sz30 ze30 dE dE kR rfl (fun b66 w14 hb66 hs hr => ?_)
     exact K _ _ ⟨hs, ⟨_, rfl, nLT hs0.size hr, hb66⟩⟩
    | 11, _, hne, _ => exact absurd rfl hne
    | 12, _, _, hoq =>
     obtain rfl := sI hoq
     have hs0 := hs
     replace hb11 := hb11.tr hs (fun hx => by have := (ho5.lt _ hx).1; (try have := or_ho5_b11 _ hx); omega)
     refine os_rv (r_fa U33 sz31 dE rfl rfl rfl) ⟨Same.refl _ _, ?_⟩
     exact rfl
    | _ + 13, hix, _, _ => exact absurd hix om
   ·
    intro o hoq gg wx hs hd
    obtain rfl := sI hoq
    have hs0 := hs
    replace hB := hB.tr0 hs
    replace hb2 := hb2.tr0 hs
    replace hb4 := hb4.tr0 hs
    replace hb17 := hb17.tr0 hs
    replace hO := hO.tr hs (by simp)
    replace hb8 := hb8.tr0 hs
    replace hrows := fun x hx => (hrows x hx).tr hs (by simp)
    replace hbz := nLT hbz (Same.size hs)
    replace hb11 := hb11.tr0 hs
    replace hoN := hoN.tr0 hs
    replace ho5 := ho5.tr0 hs
    replace hb13 := hb13.tr0 hs
    clear hs
    have d1 : gg 57 = .slice A5 j cap5 := hd 1 (dep_of kR)
    have e57 := d1
    have d10 : ∃ b, gg 66 = .slice (some ⟨b, 0, none⟩) 1 1 ∧ w13.heap.size ≤ b ∧ Blk wx b 30 #[.int .i64 ((gr[i]'hin).ln[j]'hjl).1, .int .i64 (numO o t)] := hd 10 (dep_of kR)
    obtain ⟨b66, e66, lo66, hb66⟩ := d10
    refine os_know 57 (.slice A5 j cap5) e57 nu (os_know 66 (.slice (some ⟨b66, 0, none⟩) 1 1) e66 nu ?_)
    refine os_wl (fun ops Q K => ?_)
    refine wl_app U31 in30 rfl dE ho5 hb66 rfl rfl rfl oneA dE om om hb11.lt (fun g67 cap67 w2 ho67 hs2 hg67 => ?_)
    refine K _ _ ⟨hs2, ⟨_, _, rfl, ho67⟩, trivial, fun kx v hne h => ?_⟩
    match kx, hne, h with
    | 0, _, h => exact h
    | 1, _, h => exact h
    | 2, _, h => exact h
    | 3, _, h => exact h
    | 4, _, h => exact h
    | 5, _, h => exact h
    | 6, _, h => exact h
    | 7, _, h => exact h
    | 8, _, h => exact h
    | 9, _, h => exact h
    | 10, _, h =>
     obtain ⟨b66, e66, lo66, hb66⟩ := (show ∃ b, v = .slice (some ⟨b, 0, none⟩) 1 1 ∧ w13.heap.size ≤ b ∧ Blk wx b 30 #[.int .i64 ((gr[i]'hin).ln[j]'hjl).1, .int .i64 (numO o t)] from h)
     exact ⟨b66, e66, lo66, hb66.tr hs2 (fun hx => by have := zo _ hx; omega)⟩
    | 11, hne, _ => exact absurd rfl hne
    | 12, _, h => exact h
    | _ + 13, _, _ => exact trivial
   intro gg w15 hs _ hR
   have hs0 := hs
   replace hB := hB.tr hs (fun g hg => nLT hlb5 (ho5.lt g hg).1)
   replace hb2 := hb2.tr hs (fun hx => by have := (ho5.lt _ hx).1; (try have := or_ho5_b2 _ hx); omega)
   replace hb4 := hb4.tr hs (fun hx => by have := (ho5.lt _ hx).1; (try have := or_ho5_b4 _ hx); omega)
   replace hb17 := hb17.tr hs (fun hx => by have := (ho5.lt _ hx).1; (try have := or_ho5_b17 _ hx); omega)
   replace hO := hO.tr hs (fun g hg => .inr (by have := ((ho5).lt g hg).1; omega))
   replace hb8 := hb8.tr hs (fun hx => by have := (ho5.lt _ hx).1; (try have := or_ho5_b8 _ hx); omega)
   replace hrows := fun x hx => (hrows x hx).tr hs (fun g hg => by first | exact .inl (by have := ((ho5).lt g hg).1; omega) | (obtain ⟨cs, h⟩ := (ho5).typ g hg; exact .inr ⟨_, _, h, by decide⟩))
   replace hbz := nLT hbz (Same.size hs)
   replace hb11 := hb11.tr hs (fun hx => by have := (ho5.lt _ hx).1; (try have := or_ho5_b11 _ hx); omega)
   replace hoN := hoN.tr hs (fun g hg hx => by have := (ho5.lt _ hx).1; (try have := luN g hg); omega)
   replace hb13 := hb13.tr hs (fun hx => by have := (ho5.lt _ hx).1; (try have := or_ho5_b13 _ hx); omega)
   have d11 : ∃ g cap, gg 67 = .slice (some ⟨g, 0, none⟩) (j + 1) cap ∧ Own w15 (b11 + 1) 30 2 (some ⟨g, 0, none⟩) (j + 1) cap (lnV (((gr[i]'hin).ln.take j).map (canL o)) ++ [.int .i64 ((gr[i]'hin).ln[j]'hjl).1, .int .i64 (numO o t)]) := hR 11 dE
   obtain ⟨g67, cap67, e67, ho67⟩ := d11
   have d12 : gg 68 = .pointer (some ⟨b11, 1, none⟩) := hR 12 dE
   have e68 := d12
   replace ho67 : Own w15 (b11 + 1) 30 2 (some ⟨g67, 0, none⟩) (j + 1) cap67 (lnV (((gr[i]'hin).ln.take (j + 1)).map (canL o))) := by
     rw [List.take_succ_eq_append_getElem hjl, List.map_append, List.map_cons, List.map_nil, ← lnV_snoc]
     have e : canL o ((gr[i]'hin).ln[j]'hjl) = (((gr[i]'hin).ln[j]'hjl).1, numO o t) := by simp [canL, ht]
     rw [e]; exact ho67
   have ho5 := ho67
   refine wl_know 67 (.slice (some ⟨g67, 0, none⟩) (j + 1) cap67) e67 nu (wl_know 68 (.pointer (some ⟨b11, 1, none⟩)) e68 nu ?_)
   refine wl_st1 (v := .slice _ _ _) hb11 rfl rfl sz31 (by first | decide | simp) rfl rfl (fun w16 hq hs => ?_)
   replace hB := hB.tr1 hs lo11
   replace hb2 := hb2.tr1 hs om
   replace hb4 := hb4.tr1 hs om
   replace hb17 := hb17.tr1 hs om
   replace hO := hO.tr hs (fun g hg => by have h1 := List.mem_singleton.1 hg; omega)
   replace hb8 := hb8.tr1 hs om
   replace hrows := fun x hx => (hrows x hx).tr hs (fun g hg => by rw [List.mem_singleton.1 hg]; first | exact .inr ⟨_, _, hb11, by decide⟩ | exact .inl om)
   replace hbz := nLT hbz (Same.size hs)
   replace hoN := hoN.tr1 hs (fun g hg => by have := (hoN.lt g hg).1; (try have := or_hoN_b11 g hg); (try simp only [aL] at hg); (try simp only [List.mem_singleton] at hg); omega)
   replace hb13 := hb13.tr1 hs om
   replace ho5 := ho5.tr1 hs (fun g hg => by have := (ho5.lt g hg).1; (try have := or_ho5_b11 g hg); (try simp only [aL] at hg); (try simp only [List.mem_singleton] at hg); omega)
   clear hs
   replace hb11 := hq
   refine x_nil (e_B (e_S (c_region (wl (r_add rfl rfl rfl om) (wmI rfl ?_)))))
   refine x_nil (e_LS ((gr[i]'hin).ln.length - (j + 1)) om agA ?_)
   exact ⟨j + 1, _, _, by omega, rfl, rfl, hB, hb2, hb4, hb17, hb8, hb11, hO, hoN, hrows, hbz, ho5⟩
  have hjx : j = (gr[i]'hin).ln.length := by omega
  subst hjx
  refine c_exit (e_Sx (e_LSx (e_Bx (e_S ?_))))
  have hrow5 := RowO.of (lo := w.heap.size) (xs := (gr[i]'hin).ln.map (canL o)) hlb5 (by
    rw [List.take_length] at ho5
    rw [List.length_map]; exact ho5)
  rw [List.length_map] at hrow5
  obtain ⟨s5, hs5⟩ : ∃ b, b = w11.heap.size := ⟨_, rfl⟩
  rw [← hs5] at hrow5
  have hz5 : s5 ≤ w11.heap.size := Nat.le_of_eq hs5
  refine c_region (wl (r_fa U28 sz26 dE rfl rfl rfl) (wl (r_ld1 (v := .slice _ _ _) U26 rfl rfl (hb8.cell rfl)) (wl (r_ldS U33 rfl rfl hb11.range0 sz33) ?_)))
  refine wl_bs (cs := #[_, _]) [(0, .agg _)] rfl U26 sz33 ze33 dE dE kR rfl (fun b73 w17 hb73 hs hr => ?_)
  have or_b2_b73 : b2 < b73 := nLL hb2.lt hr
  have or_b4_b73 : b4 < b73 := nLL hb4.lt hr
  have or_b17_b73 : b17 < b73 := nLL hb17.lt hr
  have or_b8_b73 : b8 < b73 := nLL hb8.lt hr
  have or_hbz_b73 := (nLT hbz hr)
  have or_b11_b73 : b11 < b73 := nLL hb11.lt hr
  have or_hoN_b73 := fun g hg => nLL (hoN.lt g hg).2 hr
  have or_ho5_b73 := fun g hg => nLL (ho5.lt g hg).2 hr
  have or_hz5_b73 := (nLT hz5 hr)
  have lo73 := nLT (Bel.size hB) hr
  replace hB := hB.tr0 hs
  replace hb2 := hb2.tr0 hs
  replace hb4 := hb4.tr0 hs
  replace hb17 := hb17.tr0 hs
  replace hO := hO.tr hs (by simp)
  replace hb8 := hb8.tr0 hs
  replace hrows := fun x hx => (hrows x hx).tr hs (by simp)
  replace hbz := nLT hbz (Same.size hs)
  replace hb11 := hb11.tr0 hs
  replace hoN := hoN.tr0 hs
  replace ho5 := ho5.tr0 hs
  replace hrow5 := hrow5.tr hs (by simp)
  replace hz5 := nLT hz5 (Same.size hs)
  clear hs
  clear hr
  refine wl_app U26 in33 rfl dE hoN hb73 rfl rfl rfl oneA dE om om hb8.lt (fun g74 cap74 w18 ho74 hs hg => ?_)
  have ne_ho74_b2 : g74 ≠ b2 := fun e => by
   have hl := hb2.lt
   rcases hg with hg | hg
   · have h1 := hoN.lt g74 (by rw [hg]; exact List.mem_singleton.2 rfl)
     (try have := or_hoN_b2 g74 (by rw [hg]; exact List.mem_singleton.2 rfl)); omega
   · omega
  have ne_ho74_b4 : g74 ≠ b4 := fun e => by
   have hl := hb4.lt
   rcases hg with hg | hg
   · have h1 := hoN.lt g74 (by rw [hg]; exact List.mem_singleton.2 rfl)
     (try have := or_hoN_b4 g74 (by rw [hg]; exact List.mem_singleton.2 rfl)); omega
   · omega
  have ne_ho74_b17 : g74 ≠ b17 := fun e => by
   have hl := hb17.lt
   rcases hg with hg | hg
   · have h1 := hoN.lt g74 (by rw [hg]; exact List.mem_singleton.2 rfl)
     (try have := or_hoN_b17 g74 (by rw [hg]; exact List.mem_singleton.2 rfl)); omega
   · omega
  have ne_ho74_b8 : g74 ≠ b8 := fun e => by
   have hl := hb8.lt
   rcases hg with hg | hg
   · have h1 := hoN.lt g74 (by rw [hg]; exact List.mem_singleton.2 rfl)
     (try have := or_hoN_b8 g74 (by rw [hg]; exact List.mem_singleton.2 rfl)); omega
   · omega
  have ne_ho74_b11 : g74 ≠ b11 := fun e => by
   have hl := hb11.lt
   rcases hg with hg | hg
   · have h1 := hoN.lt g74 (by rw [hg]; exact List.mem_singleton.2 rfl)
     (try have := or_hoN_b11 g74 (by rw [hg]; exact List.mem_singleton.2 rfl)); omega
   · omega
  replace hB := hB.tr hs (fun g hg => nLT hlo8 (hoN.lt g hg).1)
  replace hb2 := hb2.tr hs (fun hx => by have := (hoN.lt _ hx).1; (try have := or_hoN_b2 _ hx); omega)
  replace hb4 := hb4.tr hs (fun hx => by have := (hoN.lt _ hx).1; (try have := or_hoN_b4 _ hx); omega)
  replace hb17 := hb17.tr hs (fun hx => by have := (hoN.lt _ hx).1; (try have := or_hoN_b17 _ hx); omega)
  replace hO := hO.tr hs (fun g hg => .inr (by have := ((hoN).lt g hg).1; omega))
  replace hb8 := hb8.tr hs (fun hx => by have := (hoN.lt _ hx).1; (try have := or_hoN_b8 _ hx); omega)
  replace hrows := fun x hx => (hrows x hx).tr hs (fun g hg => by first | exact .inl (by have := ((hoN).lt g hg).1; omega) | (obtain ⟨cs, h⟩ := (hoN).typ g hg; exact .inr ⟨_, _, h, by decide⟩))
  replace hbz := nLT hbz (Same.size hs)
  replace hb11 := hb11.tr hs (fun hx => by have := (hoN.lt _ hx).1; (try have := or_hoN_b11 _ hx); omega)
  replace hrow5 := hrow5.tr hs (fun g hg => by first | exact .inl (by have := ((hoN).lt g hg).1; omega) | (obtain ⟨cs, h⟩ := (hoN).typ g hg; exact .inr ⟨_, _, h, by decide⟩))
  replace hz5 := nLT hz5 (Same.size hs)
  have hoN2 : Own w18 (b8 + 1) 33 2 (some ⟨g74, 0, none⟩) (k + 1) cap74 (ndV (fun x => .int .i64 (nd gr (o.getD x 0)).ty) (fun x => if x = k then .slice A5 (gr[i]'hin).ln.length cap5 else V x) (k + 1)) := by
    rw [ndV_snoc, ndV_congr (f' := (fun x => .int .i64 (nd gr (o.getD x 0)).ty)) (h' := V) (fun x _ => rfl) (fun x hx => by rw [if_neg (show ¬ x = k from by omega)])]
    simp only [if_true]
    rw [hgd, hnd]; exact ho74
  refine wl (r_fa U28 sz26 dE rfl rfl rfl) ?_
  refine wl_st1 (v := .slice _ _ _) hb8 rfl rfl sz26 (by first | decide | simp) rfl rfl (fun w19 hq hs => ?_)
  replace hB := hB.tr1 hs lo8
  replace hb2 := hb2.tr1 hs om
  replace hb4 := hb4.tr1 hs om
  replace hb17 := hb17.tr1 hs om
  replace hO := hO.tr hs (fun g hg => by have h1 := List.mem_singleton.1 hg; omega)
  replace hrows := fun x hx => (hrows x hx).tr hs (fun g hg => by rw [List.mem_singleton.1 hg]; first | exact .inr ⟨_, _, hb8, by decide⟩ | exact .inl om)
  replace hbz := nLT hbz (Same.size hs)
  replace hb11 := hb11.tr1 hs om
  replace hrow5 := hrow5.tr hs (fun g hg => by rw [List.mem_singleton.1 hg]; first | exact .inr ⟨_, _, hb8, by decide⟩ | exact .inl om)
  replace hz5 := nLT hz5 (Same.size hs)
  replace ho74 := ho74.tr1 hs (fun g hg => by have := (ho74.lt g hg).1; (try have := or_ho74_b8 g hg); (try simp only [aL] at hg); (try simp only [List.mem_singleton] at hg); omega)
  replace hoN2 := hoN2.tr1 hs (fun g hg => by have := (hoN2.lt g hg).1; (try have := or_hoN2_b8 g hg); (try simp only [aL] at hg); (try simp only [List.mem_singleton] at hg); omega)
  clear hs
  replace hb8 := hq
  refine x_nil (e_B (e_S (c_region (wl (r_add rfl rfl rfl om) (wmI rfl ?_)))))
  refine x_nil (e_LS (o.length - (k + 1)) om agA ?_)
  exact ⟨k + 1, _, _, fun x => if x = k then .slice A5 (gr[i]'hin).ln.length cap5 else V x, by omega, rfl, rfl, hB, hb2, hb4, hb17, hb8, hO, hoN2, fun x hx => by
    by_cases e : x = k
    · subst e
      simp only [if_true]
      rw [hgd, hnd]; exact hrow5.up hz5
    · simp only [if_neg e]
      exact (hrows x om).up hbz⟩
 have hke : k = o.length := by omega
 subst hke
 refine c_exit (e_Sx (e_LSx (e_Bx (e_S (c_seq ?_)))))
 refine c_region (wl (r_ldS U28 rfl rfl hb8.range0 sz28) ?_)
 refine wl_stW hb4 rfl rfl sz28 rfl oneA (fun w20 hq hs => ?_)
 replace hB := hB.tr1 hs lo4
 replace hb2 := hb2.tr1 hs om
 replace hb17 := hb17.tr1 hs om
 replace hb8 := hb8.tr1 hs om
 replace hoN := hoN.tr1 hs (fun g hg => by have := (hoN.lt g hg).1; (try have := or_hoN_b4 g hg); (try simp only [aL] at hg); (try simp only [List.mem_singleton] at hg); omega)
 replace hrows := fun x hx => (hrows x hx).tr hs (fun g hg => by rw [List.mem_singleton.1 hg]; first | exact .inr ⟨_, _, hb4, by decide⟩ | exact .inl om)
 replace hbz := nLT hbz (Same.size hs)
 clear hs
 replace hb4 := hq
 refine x_nil (e_S (c_ret (fin1 (.inl rfl) rfl (rr_cell U28 rfl rfl hb4.range0 sz28) ?_)))
 have hcl : (canG gr o).length = o.length := by simp [canG]
 refine ⟨⟨o, _, _, hD, hok, rfl, GrT.mk hoN hcl hlo8 (fun x hx => ?_) (fun g hg => (hoN.lt g hg).2) hbz (fun x hx => ?_)⟩, hB⟩
 · rw [nd_canG hx]
 · rw [nd_canG hx]
   exact hrows x hx
theorem rfrom2_any (G : Option Addr) (cg nf : Nat) (gr : List Nd) (r : Nat) (w : World) (hG : NodesIn w G gr) (hk : GOk2 nf gr) (hnf : nf ≤ 1000) (hr : r < gr.length) : Calls Tryd.prog 88 #[.agg #[.slice G gr.length cg], .int .i64 r] w fun e w' => (∃ o A c, DL gr [r] [] o ∧ OOk gr.length o ∧ e = .returned (.agg #[.slice A o.length c]) ∧ (∀ w2, FrSame w.heap.size w' w2 → NodesIn w2 A (canG gr o))) ∧ Bel w w' := (rfrom3_any G cg nf gr r w hG hk hnf hr).mono fun e w' h => by
  obtain ⟨⟨o, A, c, h1, h2, h3, h4⟩, hs⟩ := h
  exact ⟨⟨o, A, c, h1, h2, h3, fun w2 hf => by have := (h4.fr hf).nodes; rwa [rtG_self] at this⟩, hs⟩
end Go.Proofs.YtegngekpmpdngaaDoor
namespace Go.Proofs.YtegngekpmpdngaaDoor
open Go.RowKit
theorem fn88 : callable Tryd.prog 88 = true := by kernel_rfl
theorem rcanon_any (G : Option Addr) (cg nt nf : Nat) (gr : List Nd) (w : World) (hG : NodesIn w G gr) (hk : GOk nt nf gr) (hnf : nf ≤ 1000) : Calls Tryd.prog 56 #[.agg #[.slice G gr.length cg]] w fun e w' => (∃ o A c, DL gr [0] [] o ∧ e = .returned (.agg #[.slice A o.length c]) ∧ (∀ w2, FrSame w.heap.size w' w2 → NodesIn w2 A (canG gr o))) ∧ Bel w w' := by
 refine enter Tryd.func56 Tryd.ntmps56 rfl (Nat.le_of_ble_eq_true rfl) ?_
 have hB : Bel w w := Below.refl _ _
 refine c_seq (c_region ?_)
 refine wl_bx (v := .agg #[_]) (cs := #[_]) rfl rfl (fun b1 w1 hb1 hs hr => ?_)
 have lo1 := nLT (Bel.size hB) hr
 replace hB := hB.tr0 hs
 clear hs
 clear hr
 refine wl_al (cs := #[.slice none 0 0]) ze28 rfl (fun b2 w2 hb2 hs hr => ?_)
 have or_b1_b2 : b1 < b2 := nLL hb1.lt hr
 have lo2 := nLT (Bel.size hB) hr
 replace hB := hB.tr0 hs
 replace hb1 := hb1.tr0 hs
 clear hs
 clear hr
 refine x_nil (e_S (c_seq (c_region (wl (r_ldS U28 rfl rfl hb1.range0 sz28) ?_))))
 have z2 := hb2.lt
 have hszv := Bel.size hB
 refine wl_cl fn88 (rfrom2_any G cg nf gr 0 _ (hG.mono hB) hk.two hnf hk.pos) rfl (fun e' w3 hr => ?_)
 obtain ⟨⟨o, AN, cn, hD, hok, rfl, hN⟩, hs⟩ := hr
 replace hs := Same.of_bel hs
 replace hB := hB.tr0 hs
 replace hb1 := hb1.tr0 hs
 replace hb2 := hb2.tr0 hs
 clear hs
 have hFr : FrSame (w2).heap.size w3 w3 := FrSame.refl _ _
 obtain ⟨Z0, hZ0⟩ : ∃ z, z = (w2).heap.size := ⟨_, rfl⟩
 rw [← hZ0] at hN hFr z2
 obtain ⟨wZ, hwZ⟩ : ∃ z, z = w3 := ⟨_, rfl⟩
 have hz0 : w.heap.size ≤ Z0 := by rw [hZ0]; exact hszv
 replace hFr : FrSame Z0 wZ w3 := by rw [hwZ]; exact FrSame.refl _ _
 rw [← hwZ] at hN
 refine ⟨_, rfl, ?_⟩
 refine wl_stW hb2 rfl rfl sz28 rfl oneA (fun w4 hq hs => ?_)
 replace hB := hB.tr1 hs lo2
 replace hb1 := hb1.tr1 hs om
 replace hFr := hFr.of hs (fun g hg => by rw [List.mem_singleton.1 hg]; omega)
 clear hs
 replace hb2 := hq
 refine x_nil (e_S (c_ret (fin1 (.inl rfl) rfl (rr_cell U28 rfl rfl hb2.range0 sz28) ?_)))
 exact ⟨⟨o, _, _, hD, rfl, fun w2 hf => hN w2 (hFr.then hf hz0)⟩, hB⟩
end Go.Proofs.YtegngekpmpdngaaDoor
namespace Go.Proofs.YtegngekpmpdngaaDoor
open Go.RowKit
theorem links_nil (w : World) (A : Option Addr) : LinksIn w A [] := ⟨Nat.zero_le _, fun h => absurd rfl h⟩
inductive NdVs (w : World) : List Nd → List Value → Prop
  | nil : NdVs w [] []
  | cons {x : Nd} {l : List Nd} {vs : List Value} {A : Option Addr} {c : Nat} (h : LinksIn w A x.ln) (r : NdVs w l vs) : NdVs w (x :: l) (.int .i64 x.ty :: .slice A x.ln.length c :: vs)
theorem NdVs.get {w : World} {l : List Nd} {vs : List Value} (h : NdVs w l vs) : ∀ k (hk : k < l.length), ∃ A c, vs[k * 2]? = some (.int .i64 (l[k]).ty) ∧ vs[k * 2 + 1]? = some (.slice A (l[k]).ln.length c) ∧ LinksIn w A (l[k]).ln := by
  induction h with
  | nil => intro k hk; simp at hk
  | cons h r ih =>
    intro k hk
    match k, hk with
    | 0, _ => exact ⟨_, _, rfl, rfl, h⟩
    | k + 1, hk =>
      obtain ⟨A, c, h1, h2, h3⟩ := ih k (by simpa using hk)
      refine ⟨A, c, ?_, ?_, h3⟩
      · rw [show (k + 1) * 2 = k * 2 + 1 + 1 from by omega]; simpa using h1
      · rw [show (k + 1) * 2 + 1 = k * 2 + 1 + 1 + 1 from by omega]; simpa using h2
theorem nodes_of_blk {w : World} {b t : Nat} {l : List Nd} {vs : List Value} (h : Blk w b t vs.toArray) (hv : NdVs w l vs) (hl : l.length ≤ maxI) : NodesIn w (some ⟨b, 0, none⟩) l :=
  ⟨hl, fun _ => ⟨b, 0, rfl, h.lt, fun k hk => by
    obtain ⟨A, c, h1, h2, h3⟩ := hv.get k hk
    refine ⟨A, c, fun j v hj => ?_, h3⟩
    match j, hj with
    | 0, hj => cases hj; exact h.cell (by simpa using h1)
    | 1, hj => cases hj; exact h.cell (by simpa using h2)
    | _ + 2, hj => cases hj⟩⟩
end Go.Proofs.YtegngekpmpdngaaDoor
namespace Go.Proofs.YtegngekpmpdngaaDoor
open Go.RowKit
def tgt (xs : List (Int × Int)) (f : Int) : Int := match xs.find? (fun y => decide (y.1 = f)) with
  | some y => y.2
  | none => -1
theorem tgt_at {f : Int} : ∀ {xs : List (Int × Int)} {i : Nat} (hi : i < xs.length), (xs[i]).1 = f → (∀ j (hj : j < xs.length), j < i → ¬ (xs[j]).1 = f) → tgt xs f = (xs[i]).2
  | [], _, hi, _, _ => absurd hi (by simp)
  | x :: xs, 0, _, h, _ => by
    have h1 : x.1 = f := h
    unfold tgt
    rw [List.find?_cons, decide_eq_true h1]
    rfl
  | x :: xs, i + 1, hi, h, hb => by
    have h0 : ¬ x.1 = f := hb 0 (by simp) om
    have ih := tgt_at (xs := xs) (i := i) (by simpa using hi) h (fun j hj hji => hb (j + 1) (by simpa using hj) om)
    unfold tgt at ih ⊢
    rw [List.find?_cons, decide_eq_false h0]
    exact ih
theorem tgt_no {f : Int} : ∀ {xs : List (Int × Int)}, (∀ j (hj : j < xs.length), ¬ (xs[j]).1 = f) → tgt xs f = -1
  | [], _ => rfl
  | x :: xs, h => by
    have h0 : ¬ x.1 = f := h 0 (by simp)
    have ih := tgt_no (xs := xs) (f := f) (fun j hj => h (j + 1) (by simpa using hj))
    unfold tgt at ih ⊢
    rw [List.find?_cons, decide_eq_false h0]
    exact ih
theorem ln_sorted {nf n : Nat} : ∀ {xs : List (Int × Int)} {last : Int}, lnFault nf n last xs = 0 → (∀ j (hj : j < xs.length), last < (xs[j]).1) ∧ ∀ i j (hi : i < xs.length) (hj : j < xs.length), i < j → (xs[i]).1 < (xs[j]).1
  | [], _, _ => ⟨fun j hj => absurd hj (by simp), fun i j hi => absurd hi (by simp)⟩
  | y :: ys, last, h => by
    unfold lnFault at h
    by_cases h1 : lnBad nf n y
    · rw [if_pos h1] at h; cases h
    rw [if_neg h1] at h
    by_cases h2 : y.1 ≤ last
    · rw [if_pos h2] at h; cases h
    rw [if_neg h2] at h
    obtain ⟨ih1, ih2⟩ := ln_sorted h
    refine ⟨fun j hj => ?_, fun i j hi hj hij => ?_⟩
    · match j, hj with
      | 0, _ => show last < y.1; omega
      | j + 1, hj =>
        have := ih1 j (by simpa using hj)
        show last < (ys[j]'(by simpa using hj)).1
        omega
    · match i, j, hi, hj, hij with
      | 0, j + 1, _, hj, _ => exact ih1 j (by simpa using hj)
      | i + 1, j + 1, hi, hj, hij => exact ih2 i j (by simpa using hi) (by simpa using hj) om
theorem tgt_bs {nf n : Nat} {xs : List (Int × Int)} {last f : Int} {i : Nat} (hs : lnFault nf n last xs = 0) (hlo : ∀ j (hj : j < xs.length), j < i → (xs[j]).1 < f) (hhi : ∀ j (hj : j < xs.length), i ≤ j → f ≤ (xs[j]).1) :
    (∀ h : i < xs.length, (xs[i]).1 = f → tgt xs f = (xs[i]).2) ∧ ((¬ ∃ h : i < xs.length, (xs[i]).1 = f) → tgt xs f = -1) := by
  refine ⟨fun h e => tgt_at h e (fun j hj hji => by have := hlo j hj hji; omega), fun hn => tgt_no (fun j hj e => ?_)⟩
  by_cases h1 : j < i
  · have := hlo j hj h1; omega
  · by_cases h2 : j = i
    · subst h2; exact hn ⟨hj, e⟩
    · have h3 := (ln_sorted hs).2 i j om hj om
      have h4 := hhi i om (Nat.le_refl _)
      omega
theorem tgt_mem {xs : List (Int × Int)} {f : Int} : tgt xs f = -1 ∨ ∃ y ∈ xs, y.1 = f ∧ tgt xs f = y.2 := by
  unfold tgt
  cases h : xs.find? (fun y => decide (y.1 = f)) with
  | none => exact .inl rfl
  | some y => exact .inr ⟨y, List.mem_of_find?_eq_some h, by simpa using List.find?_some h, rfl⟩
def walkT (g : List Nd) : List Int → Int → Int
  | [], a => a
  | f :: p, a => if a < 0 then a else walkT g p (tgt (nd g a.toNat).ln f)
def pF (nf : Nat) (p : List Int) (i : Nat) : Int := match p[i]? with
  | none => 0
  | some x => if x < 0 ∨ (nf : Int) ≤ x then 3 else 0
noncomputable def atF (l : List Ty) (fs : List Ft) (g : List Nd) (p : List Int) : Fl := if ¬ (graphF l fs g).1 = 0 then graphF l fs g else if 300 < p.length then (2, -3) else firstF (pF fs.length p) 0 p.length
def AtOk (l : List Ty) (fs : List Ft) (g : List Nd) (p : List Int) : Prop := (atF l fs g p).1 = 0 ∧ 0 ≤ walkT g p 0
noncomputable instance (l : List Ty) (fs : List Ft) (g : List Nd) (p : List Int) : Decidable (AtOk l fs g p) := Classical.propDecidable _
end Go.Proofs.YtegngekpmpdngaaDoor
