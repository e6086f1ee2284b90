/- What these functions of the program compute, at every world: glosswright/graph.From. The canonical form of a valid graph is valid, and its own canonical form. No program in sight. What these functions of the program compute, at every world: slices.Equal[[]glosswright/api.Link,glosswright/api.Link], glosswright/glosswrightequal.Nodes. -/
import Derived.Test.YtegngekpmpdngaaDoorU
import Derived.Test.YtegngekpmpdngaaDoorGro
import Derived.Test.YtegngekpmpdngaaDoorDfs
namespace Go.Proofs.YtegngekpmpdngaaDoor
open Go.RowKit
theorem in30 : (Tryd.prog.info? 30).map (fun i => (i.zero, i.size, i.bytes)) = some (some (.agg #[.int .i64 0, .int .i64 0]), 2, 16) := by kernel_rfl
theorem in33 : (Tryd.prog.info? 33).map (fun i => (i.zero, i.size, i.bytes)) = some (some (.agg #[.int .i64 0, .slice none 0 0]), 2, 32) := by kernel_rfl
theorem sz123 : (Tryd.prog.info? 123).map (·.size) = some 1 := by kernel_rfl
theorem ze123 : (Tryd.prog.info? 123).map (·.zero) = some (some (.nilFunc)) := by kernel_rfl
theorem ze28 : (Tryd.prog.info? 28).map (·.zero) = some (some (.agg #[.slice none 0 0])) := by kernel_rfl
theorem ze43 : (Tryd.prog.info? 43).map (·.zero) = some (some (.slice none 0 0)) := by kernel_rfl
set_option maxHeartbeats 4000000 in
theorem from4_any (G : Option Addr) (cg nf : Nat) (gr : List Nd) (r : Nat) (w : World) (hG : NodesIn w G gr) (hk : GOk2 nf gr) (hnf : nf ≤ 1000) (hr : r < gr.length) : Calls Tryd.prog 49 #[.agg #[.slice G gr.length cg], .int .i64 r] w fun e w' => (∃ o A, DL gr [r] [] o ∧ OOk gr.length o ∧ e = .returned (.agg #[.slice A o.length o.length]) ∧ GrD w' w.heap.size w'.heap.size A o.length (canG gr o) (fun x => (nd (canG gr o) x).ty)) ∧ Bel w w' := by
 have hn6 := hk.le
 have hrg := succ_rng2 hk
 refine enter Tryd.func49 Tryd.ntmps49 rfl (Nat.le_of_ble_eq_true rfl) ?_
 have hB : Bel w w := Below.refl _ _
 refine c_seq (c_region ?_)
 refine wl_bx (v := .agg #[_]) (cs := #[_]) rfl rfl (fun b2 w1 hb2 hs hr => ?_)
 have lo2 := nLT (Bel.size hB) hr
 replace hB := hB.tr0 hs
 clear hs
 clear hr
 refine wl_al (cs := #[.slice none 0 0]) ze28 rfl (fun b4 w2 hb4 hs hr => ?_)
 have or_b2_b4 : b2 < b4 := nLL hb2.lt hr
 have lo4 := nLT (Bel.size hB) hr
 replace hB := hB.tr0 hs
 replace hb2 := hb2.tr0 hs
 clear hs
 clear hr
 refine x_nil (e_S (c_seq (c_region (wl (r_fa U28 sz26 dE rfl rfl rfl) (wl (r_ld1 (v := .slice _ _ _) U26 rfl rfl (hb2.cell rfl)) ?_)))))
 refine wl (r_len U26 rfl) ?_
 refine wl_mkR (m := gr.length) U43 in3 rfl rfl rfl om om (fun b17 w3 hb17 hs hr => ?_)
 have or_b2_b17 : b2 < b17 := nLL hb2.lt hr
 have or_b4_b17 : b4 < b17 := nLL hb4.lt hr
 have lo17 := nLT (Bel.size hB) hr
 replace hB := hB.tr0 hs
 replace hb2 := hb2.tr0 hs
 replace hb4 := hb4.tr0 hs
 clear hs
 clear hr
 refine wl_al (cs := #[.slice none 0 0]) ze43 rfl (fun b5 w4 hb5 hs hr => ?_)
 have or_b2_b5 : b2 < b5 := nLL hb2.lt hr
 have or_b4_b5 : b4 < b5 := nLL hb4.lt hr
 have or_b17_b5 : b17 < b5 := nLL hb17.lt hr
 have lo5 := nLT (Bel.size hB) hr
 replace hB := hB.tr0 hs
 replace hb2 := hb2.tr0 hs
 replace hb4 := hb4.tr0 hs
 replace hb17 := hb17.tr0 hs
 clear hs
 clear hr
 refine wl_st1 (v := .slice _ _ _) hb5 rfl rfl sz43_GVisit (by first | decide | simp) rfl rfl (fun w5 hq hs => ?_)
 replace hB := hB.tr1 hs lo5
 replace hb2 := hb2.tr1 hs om
 replace hb4 := hb4.tr1 hs om
 replace hb17 := hb17.tr1 hs om
 clear hs
 replace hb5 := hq
 refine x_nil (e_S (c_seq (c_seq (c_region (wl (r_ld1 (v := .slice _ _ _) U43 rfl rfl (hb5.cell rfl)) ?_)))))
 refine wl (r_len U43 rfl) (wmI rfl (x_nil (e_S (c_block ?_))))
 refine c_loopS [6, 20, 21, 22, 23, 24, 25, 26] (fun m g w' => ∃ k : Nat, k ≤ gr.length ∧ m = gr.length - k ∧ g 20 = .int .i64 k ∧ Bel w w' ∧ Blk w' b2 28 #[.slice G gr.length cg] ∧ Blk w' b4 28 #[.slice none 0 0] ∧ Blk w' b5 43 #[.slice (some ⟨b17, 0, none⟩) gr.length gr.length] ∧ Blk w' b17 3 (row gr.length (fun x => .int .i64 (if x < k then -1 else 0)))) (gr.length) ?_ (fun m g3 w6 hI => ?_)
 ·
  refine ⟨0, Nat.zero_le _, rfl, rfl, hB, hb2, hb4, hb5, ?_⟩
  rw [row_congr (g' := fun _ => .int .i64 0) (fun x _ => by simp)]; exact hb17
 obtain ⟨k, hkk, hm, h20, hB, hb2, hb4, hb5, hb17⟩ := hI
 refine c_know 20 (.int .i64 k) h20 nu (c_seq (c_region (wl (r_lss rfl rfl) (x_nil (e_S ?_)))))
 refine c_seq ?_
 refine c_ifd rfl (fun c21 => ?_) (fun c21 => ?_)
 ·
  have hlt : k < gr.length := by omega
  refine c_skip (e_S (c_seq (c_block (c_seq (c_region ?_)))))
  refine wmI rfl (waI rfl (x_nil (e_S (c_region (wl (r_ld1 (v := .slice _ _ _) U43 rfl rfl (hb5.cell rfl)) ?_)))))
  refine wmI rfl (wl (r_ia (i := k) U43 sz3_GLoose rfl rfl om rfl) ?_)
  refine wl_st1 (v := .int _ _) hb17 rfl rfl sz3_GLoose (by rw [row_size]; omega) rfl row_set (fun w7 hq hs => ?_)
  replace hB := hB.tr1 hs lo17
  replace hb2 := hb2.tr1 hs om
  replace hb4 := hb4.tr1 hs om
  replace hb5 := hb5.tr1 hs om
  clear hs
  replace hb17 := hq
  rw [row_congr (g' := fun x => .int .i64 (if x < k + 1 then -1 else 0)) (fun x _ => by
    by_cases e : x = k
    · subst e; simp
    · have e1 : (x < k + 1) ↔ (x < k) := by omega
      simp [e, e1])] at hb17
  refine x_nil (e_B (e_S (c_region (wl (r_add rfl rfl rfl om) (wmI rfl ?_)))))
  refine x_nil (e_LS (gr.length - (k + 1)) om agA ?_)
  exact ⟨k + 1, by omega, rfl, rfl, hB, hb2, hb4, hb5, hb17⟩
 have hke : k = gr.length := by omega
 rw [hke, row_congr (g' := fun x => .int .i64 (numO [] x)) (fun x hx => by simp [hx, numO_nil])] at hb17
 refine c_exit (e_Sx (e_LSx (e_Bx (e_S (c_seq ?_)))))
 refine c_region ?_
 refine wl_al (cs := #[.slice none 0 0]) ze43 rfl (fun b7 w8 hb7 hs hr => ?_)
 have or_b2_b7 : b2 < b7 := nLL hb2.lt hr
 have or_b4_b7 : b4 < b7 := nLL hb4.lt hr
 have or_b17_b7 : b17 < b7 := nLL hb17.lt hr
 have or_b5_b7 : b5 < b7 := nLL hb5.lt hr
 have lo7 := nLT (Bel.size hB) hr
 replace hB := hB.tr0 hs
 replace hb2 := hb2.tr0 hs
 replace hb4 := hb4.tr0 hs
 replace hb17 := hb17.tr0 hs
 replace hb5 := hb5.tr0 hs
 clear hs
 clear hr
 refine x_nil (e_S (c_seq (c_region ?_)))
 refine wl_al (cs := #[.nilFunc]) ze123 rfl (fun b8 w9 hb8 hs hr => ?_)
 have or_b2_b8 : b2 < b8 := nLL hb2.lt hr
 have or_b4_b8 : b4 < b8 := nLL hb4.lt hr
 have or_b17_b8 : b17 < b8 := nLL hb17.lt hr
 have or_b5_b8 : b5 < b8 := nLL hb5.lt hr
 have or_b7_b8 : b7 < b8 := nLL hb7.lt hr
 have lo8 := nLT (Bel.size hB) hr
 replace hB := hB.tr0 hs
 replace hb2 := hb2.tr0 hs
 replace hb4 := hb4.tr0 hs
 replace hb17 := hb17.tr0 hs
 replace hb5 := hb5.tr0 hs
 replace hb7 := hb7.tr0 hs
 clear hs
 clear hr
 refine x_nil (e_S (c_seq (c_region (wl (r_mf rfl) ?_))))
 refine wl_st1 (v := .func _ _ _) hb8 rfl rfl sz123 (by first | decide | simp) rfl rfl (fun w10 hq hs => ?_)
 replace hB := hB.tr1 hs lo8
 replace hb2 := hb2.tr1 hs om
 replace hb4 := hb4.tr1 hs om
 replace hb17 := hb17.tr1 hs om
 replace hb5 := hb5.tr1 hs om
 replace hb7 := hb7.tr1 hs om
 clear hs
 replace hb8 := hq
 refine x_nil (e_S (c_seq ?_))
 obtain ⟨base, hbase⟩ : ∃ b, b = w10.heap.size := ⟨_, rfl⟩
 have hlo : w.heap.size ≤ base := by rw [hbase]; exact Bel.size hB
 have hbs : base ≤ w10.heap.size := Nat.le_of_eq hbase
 have lt5 : b5 < base := by rw [hbase]; exact hb5.lt
 have lt7 : b7 < base := by rw [hbase]; exact hb7.lt
 have lt2 : b2 < base := by rw [hbase]; exact hb2.lt
 have lt4 : b4 < base := by rw [hbase]; exact hb4.lt
 have lt8 : b8 < base := by rw [hbase]; exact hb8.lt
 have lt17 : b17 < base := by rw [hbase]; exact hb17.lt
 refine c_region (wl (r_ld1 (v := .func _ _ _) U123 rfl rfl (hb8.cell rfl)) (wmI rfl ?_))
 refine wl_clv rfl fn82 (visit_any (w0 := w) (G := G) (cg := cg) (bP := b5) (bQ := b7) (bG := b2) (bV := b8) (bn := b17) (base := base) hG hk hlo lo5 lo7 lo2 lo8 lo17 lt5 lt7 lt2 lt8 lt17 om om om om om om om gr.length [] none 0 _ r (lack_le _ _) hr hB hbs (OOk.nil _) hb5 hb7 hb2 hb8 hb17 (Own.nil _ _ _ _)) rfl rfl (fun e' w11 hr => ?_)
 obtain ⟨rfl, o, AO, capO, hD, hb7n, hoo, hb17n, hC⟩ := hr
 replace hB := hB.chg hC hlo (by simp [lo7, lo17])
 replace hb2 := hb2.chg hC lt2 (by have : b2 ≠ b7 := by omega
                                   have : b2 ≠ b17 := by omega
                                   simp [*])
 replace hb4 := hb4.chg hC lt4 (by have : b4 ≠ b7 := by omega
                                   have : b4 ≠ b17 := by omega
                                   simp [*])
 replace hb5 := hb5.chg hC lt5 (by have : b5 ≠ b7 := by omega
                                   have : b5 ≠ b17 := by omega
                                   simp [*])
 replace hb7 := hb7n
 replace hb17 := hb17n
 obtain ⟨hok, _, _⟩ := hD.ok hrg (fun i hi => by rw [List.mem_singleton.1 hi]; exact hr) (OOk.nil _)
 have hol := hok.cnt
 refine ⟨_, rfl, ?_⟩
 refine x_nil (e_S (c_seq (c_region (wl (r_ld1 (v := .slice _ _ _) U43 rfl rfl (hb7.cell rfl)) (wl (r_len U43 rfl) ?_)))))
 refine wl_mk (m := o.length) U26 in33 rfl rfl om om (fun b33 w12 hb33 hs hr => ?_)
 have or_b2_b33 : b2 < b33 := nLL hb2.lt hr
 have or_b4_b33 : b4 < b33 := nLL hb4.lt hr
 have or_b17_b33 : b17 < b33 := nLL hb17.lt hr
 have or_b5_b33 : b5 < b33 := nLL hb5.lt hr
 have or_b7_b33 : b7 < b33 := nLL hb7.lt hr
 have or_hoo_b33 := fun g hg => nLL (hoo.lt g hg).2 hr
 have lo33 := nLT (Bel.size hB) hr
 replace hB := hB.tr0 hs
 replace hb2 := hb2.tr0 hs
 replace hb4 := hb4.tr0 hs
 replace hb17 := hb17.tr0 hs
 replace hb5 := hb5.tr0 hs
 replace hb7 := hb7.tr0 hs
 replace hoo := hoo.tr0 hs
 clear hs
 clear hr
 refine wl (r_bd1 (v0 := .slice _ _ _) (fun v0 => #[v0]) rfl kR) ?_
 refine wl_al (cs := #[.slice none 0 0]) ze28 rfl (fun b9 w13 hb9 hs hr => ?_)
 have or_b2_b9 : b2 < b9 := nLL hb2.lt hr
 have or_b4_b9 : b4 < b9 := nLL hb4.lt hr
 have or_b17_b9 : b17 < b9 := nLL hb17.lt hr
 have or_b5_b9 : b5 < b9 := nLL hb5.lt hr
 have or_b7_b9 : b7 < b9 := nLL hb7.lt hr
 have or_hoo_b9 := fun g hg => nLL (hoo.lt g hg).2 hr
 have or_b33_b9 : b33 < b9 := nLL hb33.lt hr
 have lo9 := nLT (Bel.size hB) hr
 replace hB := hB.tr0 hs
 replace hb2 := hb2.tr0 hs
 replace hb4 := hb4.tr0 hs
 replace hb17 := hb17.tr0 hs
 replace hb5 := hb5.tr0 hs
 replace hb7 := hb7.tr0 hs
 replace hoo := hoo.tr0 hs
 replace hb33 := hb33.tr0 hs
 clear hs
 clear hr
 refine wl_stW hb9 rfl rfl sz28 rfl oneA (fun w14 hq hs => ?_)
 replace hB := hB.tr1 hs lo9
 replace hb2 := hb2.tr1 hs om
 replace hb4 := hb4.tr1 hs om
 replace hb17 := hb17.tr1 hs om
 replace hb5 := hb5.tr1 hs om
 replace hb7 := hb7.tr1 hs om
 replace hoo := hoo.tr1 hs (fun g hg => by have := (hoo.lt g hg).1; (try have := or_hoo_b9 g hg); (try simp only [aL] at hg); (try simp only [List.mem_singleton] at hg); omega)
 replace hb33 := hb33.tr1 hs om
 clear hs
 replace hb9 := hq
 refine x_nil (e_S (c_seq (c_seq ?_)))
 replace hb33 : Blk w14 b33 33 (row2 o.length (fun _ => .int .i64 0) (fun _ => .slice none 0 0)) := by
   have h := hb33
   rw [show (Value.agg #[.int .i64 0, .slice none 0 0]).cells = #[.int .i64 0, .slice none 0 0] from rfl, row2_made] at h
   exact h
 refine c_region (wl (r_ld1 (v := .slice _ _ _) U43 rfl rfl (hb7.cell rfl)) (wl (r_len U43 rfl) (wmI rfl (x_nil (e_S ?_)))))
 refine c_block ?_
 refine c_loopS [10, 11, 13, 37, 38, 39, 40, 41, 42, 43, 44, 45, 46, 47, 48, 49, 50, 51, 52, 53, 54, 55, 56, 57, 58, 59, 60, 61, 62, 63, 64, 65, 66, 67, 68, 69, 70, 71, 72, 73, 74, 75, 76, 77, 78, 79, 80, 81, 82, 83, 84, 85, 86] (fun m g w' => ∃ (k : Nat) (V : Nat → Value), k ≤ o.length ∧ m = o.length - k ∧ g 37 = .int .i64 k ∧ Bel w w' ∧ Blk w' b2 28 #[.slice G gr.length cg] ∧ Blk w' b4 28 #[.slice none 0 0] ∧ Blk w' b5 43 #[.slice (some ⟨b17, 0, none⟩) gr.length gr.length] ∧ Blk w' b7 43 #[.slice AO o.length capO] ∧ Blk w' b17 3 (row gr.length (fun x => .int .i64 (numO o x))) ∧ Blk w' b9 28 #[.slice (some ⟨b33, 0, none⟩) o.length o.length] ∧ Own w' base 3 1 AO o.length capO (oV o) ∧ Blk w' b33 33 (row2 o.length (fun x => if x < k then .int .i64 (nd gr (o.getD x 0)).ty else .int .i64 0) (fun x => if x < k then V x else .slice none 0 0)) ∧ (∀ x, x < k → RowO w' w.heap.size w'.heap.size (V x) ((nd gr (o.getD x 0)).ln.map (canL o))) ∧ Dis V k) (o.length) ?_ (fun m g13 w15 hI => ?_)
 ·
  refine ⟨0, fun _ => .slice none 0 0, Nat.zero_le _, rfl, rfl, hB, hb2, hb4, hb5, hb7, hb17, hb9, hoo, ?_, fun x hx => by omega, fun x y hx => by omega⟩
  rw [row2_congr (f' := fun _ => .int .i64 0) (h' := fun _ => .slice none 0 0) (fun x _ => by simp) (fun x _ => by simp)]; exact hb33
 obtain ⟨k, V, hkk, hm, h37, hB, hb2, hb4, hb5, hb7, hb17, hb9, hoo, hb33, hrows, hdis⟩ := hI
 obtain ⟨bs, hbsz⟩ : ∃ b, b = w15.heap.size := ⟨_, rfl⟩
 rw [← hbsz] at hrows
 have hbz : bs ≤ w15.heap.size := Nat.le_of_eq hbsz
 have hlb5 : w.heap.size ≤ bs := by rw [hbsz]; exact Bel.size hB
 have lu2 : b2 < bs := by rw [hbsz]; exact hb2.lt
 have lu4 : b4 < bs := by rw [hbsz]; exact hb4.lt
 have lu5 : b5 < bs := by rw [hbsz]; exact hb5.lt
 have lu7 : b7 < bs := by rw [hbsz]; exact hb7.lt
 have lu17 : b17 < bs := by rw [hbsz]; exact hb17.lt
 have lu9 : b9 < bs := by rw [hbsz]; exact hb9.lt
 have lu33 : b33 < bs := by rw [hbsz]; exact hb33.lt
 have luo : ∀ g ∈ aL AO, g < bs := fun g hg => by rw [hbsz]; exact (hoo.lt g hg).2
 refine c_know 37 (.int .i64 k) h37 nu (c_seq (c_region (wl (r_lss rfl rfl) (x_nil (e_S ?_)))))
 refine c_seq ?_
 refine c_ifd rfl (fun c38 => ?_) (fun c38 => ?_)
 ·
  have hlt : k < o.length := by omega
  obtain ⟨i, hoi, hin⟩ : ∃ i : Nat, o[k]'hlt = i ∧ i < gr.length := ⟨_, rfl, hok.lt _ (List.getElem_mem hlt)⟩
  have hgd : o.getD k 0 = i := by simp [List.getD, hlt, hoi]
  have hnd := nd_eq hin
  obtain ⟨q, rfl, hqb, hql, hqc⟩ := hoo.cell (by
    intro h0
    have := congrArg List.length h0
    simp [oV] at this
    rw [this] at hlt
    simp at hlt)
  have hz : w15.cell? ⟨q, 0 + k * 1, none⟩ = some (.int .i64 (i : Int)) := by
    have := hqc k (.int .i64 (i : Int)) (by simp [oV, hlt, hoi])
    simpa using this
  obtain ⟨nb, no, LA, lc, rfl, hnb, hnr, hln⟩ := hG.at_ (Below.refl _ _ : Bel w w) hin
  have hmx := hln.1
  unfold maxI at hmx
  have hfw := hk.few i hin
  refine c_skip (e_S (c_seq (c_block (c_seq (c_region ?_)))))
  refine wmI rfl (wl (r_ia (i := k) U43 sz3_GLoose rfl rfl om rfl) (wl (r_ld1 (v := .int _ _) U3 rfl rfl hz) (waI rfl (waI rfl (x_nil ?_)))))
  refine e_S (c_seq ?_)
  refine c_tail 11 kR kR (fun w16 hs => ?_)
  replace hB := hB.tr0 hs
  replace hb2 := hb2.tr0 hs
  replace hb4 := hb4.tr0 hs
  replace hb17 := hb17.tr0 hs
  replace hb5 := hb5.tr0 hs
  replace hb7 := hb7.tr0 hs
  replace hb33 := hb33.tr0 hs
  replace hb9 := hb9.tr0 hs
  replace hoo := hoo.tr0 hs
  replace hrows := fun x hx => (hrows x hx).tr hs (by simp)
  replace hbz := nLT hbz (Same.size hs)
  clear hs
  refine ws (r_fa U28 sz26 dE rfl rfl rfl) (ws (r_ld1 (v := .slice _ _ _) U26 rfl rfl (hb9.cell rfl)) (ws (r_mv (v := .int _ _) rfl) (ws (r_fa U28 sz26 dE rfl rfl rfl) (ws (r_ld1 (v := .slice _ _ _) U26 rfl rfl (hb2.cell rfl)) (ws (r_mv (v := .int _ _) rfl) ?_)))))
  refine ws (r_ia (i := i) U26 sz33 rfl rfl hin rfl) (ws (r_fa U33 sz3_GLoose dE rfl rfl rfl) (ws (r_ld1 (v := .int _ _) U3 rfl rfl (hB.cell hnb (hnr 0 _ rfl))) (ws (r_ia (i := k) U26 sz33 rfl rfl om rfl) (ws (r_fa U33 sz3_GLoose dE rfl rfl rfl) (s_tail ?_)))))
  refine wl_st1 (v := .int _ _) hb33 rfl rfl sz3_GLoose (by rw [row2_size]; show 0 + k * 2 + 0 < o.length * 2; omega) rfl row2_set0 (fun w17 hq hs => ?_)
  replace hB := hB.tr1 hs lo33
  replace hb2 := hb2.tr1 hs om
  replace hb4 := hb4.tr1 hs om
  replace hb17 := hb17.tr1 hs om
  replace hb5 := hb5.tr1 hs om
  replace hb7 := hb7.tr1 hs om
  replace hb9 := hb9.tr1 hs om
  replace hoo := hoo.tr1 hs (fun g hg => by have := (hoo.lt g hg).1; (try have := or_hoo_b33 g hg); (try simp only [aL] at hg); (try simp only [List.mem_singleton] at hg); omega)
  replace hrows := fun x hx => (hrows x hx).tr hs (fun g hg => by rw [List.mem_singleton.1 hg]; first | exact .inr ⟨_, _, hb33, by decide⟩ | exact .inl om)
  replace hbz := nLT hbz (Same.size hs)
  clear hs
  replace hb33 := hq
  rw [row2_congr (f' := (fun x => if x < k + 1 then .int .i64 (nd gr (o.getD x 0)).ty else .int .i64 0)) (h' := fun x => if x = k then .slice none 0 0 else if x < k then V x else .slice none 0 0) (fun x _ => by
    by_cases e : x = k
    · subst e; simp [List.getD, hlt, hoi, hnd]
    · have e1 : (x < k + 1) ↔ (x < k) := by omega
      simp [e, e1]) (fun x _ => by
    by_cases e : x = k
    · subst e; simp
    · simp [e])] at hb33
  refine x_nil (e_S (c_seq (c_region (wl (r_fa U28 sz26 dE rfl rfl rfl) (wl (r_ld1 (v := .slice _ _ _) U26 rfl rfl (hb2.cell rfl)) ?_)))))
  refine wmI rfl (wl (r_ia (i := i) U26 sz33 rfl rfl hin rfl) (wl (r_fa U33 sz31 dE rfl rfl rfl) (wl (r_ld1 (v := .slice _ _ _) U31 rfl rfl (hB.cell hnb (hnr 1 _ rfl))) (wl (r_len U31 rfl) (wmI rfl ?_)))))
  refine x_nil (e_S (c_block ?_))
  refine c_loopS [13, 60, 61, 62, 63, 64, 65, 66, 67, 68, 69, 70, 71, 72, 73, 74, 75, 76, 77, 78, 79, 80, 81, 82, 83, 84, 85] (fun m g w' => ∃ (j : Nat) (A5 : Option Addr) (cap5 : Nat), j ≤ (gr[i]'hin).ln.length ∧ m = (gr[i]'hin).ln.length - j ∧ g 60 = .int .i64 j ∧ Bel w w' ∧ Blk w' b2 28 #[.slice (some ⟨nb, no, none⟩) gr.length cg] ∧ Blk w' b4 28 #[.slice none 0 0] ∧ Blk w' b5 43 #[.slice (some ⟨b17, 0, none⟩) gr.length gr.length] ∧ Blk w' b7 43 #[.slice (some ⟨q, 0, none⟩) o.length capO] ∧ Blk w' b17 3 (row gr.length (fun x => .int .i64 (numO o x))) ∧ Blk w' b9 28 #[.slice (some ⟨b33, 0, none⟩) o.length o.length] ∧ Own w' base 3 1 (some ⟨q, 0, none⟩) o.length capO (oV o) ∧ Blk w' b33 33 (row2 o.length (fun x => if x < k + 1 then .int .i64 (nd gr (o.getD x 0)).ty else .int .i64 0) (fun x => if x = k then .slice A5 j cap5 else if x < k then V x else .slice none 0 0)) ∧ (∀ x, x < k → RowO w' w.heap.size bs (V x) ((nd gr (o.getD x 0)).ln.map (canL o))) ∧ bs ≤ w'.heap.size ∧ Own w' bs 30 2 A5 j cap5 (lnV (((gr[i]'hin).ln.take j).map (canL o)))) ((gr[i]'hin).ln.length) ?_ (fun m g17 w18 hI => ?_)
  ·
   exact ⟨0, none, 0, Nat.zero_le _, rfl, rfl, hB, hb2, hb4, hb5, hb7, hb17, hb9, hoo, hb33, hrows, hbz, Own.nil _ _ _ _⟩
  obtain ⟨j, A5, cap5, hj, hmj, h60, hB, hb2, hb4, hb5, hb7, hb17, hb9, hoo, hb33, hrows, hbz, ho5⟩ := hI
  refine c_know 60 (.int .i64 j) h60 nu (c_seq (c_region (wl (r_lss rfl rfl) (x_nil (e_S ?_)))))
  refine c_seq ?_
  refine c_ifd rfl (fun c61 => ?_) (fun c61 => ?_)
  ·
   have hjl : j < (gr[i]'hin).ln.length := by omega
   obtain ⟨lb, lof, rfl, hlb, hlr⟩ := hln.at_ hB hjl
   obtain ⟨t, ht, htl⟩ : ∃ t : Nat, ((gr[i]'hin).ln[j]'hjl).2 = (t : Int) ∧ t < gr.length := by
     have h1 := hk.ln i hin _ (List.getElem_mem hjl)
     exact ⟨(((gr[i]'hin).ln[j]'hjl).2).toNat, by omega, by omega⟩
   refine c_skip (e_S (c_seq (c_block (c_seq (c_region ?_)))))
   refine wl (r_ia (i := j) U31 sz30 rfl rfl om rfl) (wl (r_ldS U30 rfl rfl hlr sz30) ?_)
   refine wl_al (cs := #[.int .i64 0, .int .i64 0]) ze30 rfl (fun b13 w19 hb13 hs hr => ?_)
   have or_b2_b13 : b2 < b13 := nLL hb2.lt hr
   have or_b4_b13 : b4 < b13 := nLL hb4.lt hr
   have or_b17_b13 : b17 < b13 := nLL hb17.lt hr
   have or_b5_b13 : b5 < b13 := nLL hb5.lt hr
   have or_b7_b13 : b7 < b13 := nLL hb7.lt hr
   have or_b33_b13 : b33 < b13 := nLL hb33.lt hr
   have or_b9_b13 : b9 < b13 := nLL hb9.lt hr
   have or_hbz_b13 := (nLT hbz hr)
   have or_hoo_b13 := fun g hg => nLL (hoo.lt g hg).2 hr
   have or_ho5_b13 := fun g hg => nLL (ho5.lt g hg).2 hr
   have lo13 := nLT (Bel.size hB) hr
   replace hB := hB.tr0 hs
   replace hb2 := hb2.tr0 hs
   replace hb4 := hb4.tr0 hs
   replace hb17 := hb17.tr0 hs
   replace hb5 := hb5.tr0 hs
   replace hb7 := hb7.tr0 hs
   replace hb33 := hb33.tr0 hs
   replace hb9 := hb9.tr0 hs
   replace hrows := fun x hx => (hrows x hx).tr hs (by simp)
   replace hbz := nLT hbz (Same.size hs)
   replace hoo := hoo.tr0 hs
   replace ho5 := ho5.tr0 hs
   clear hs
   clear hr
   refine wl_stW hb13 rfl rfl sz30 rfl oneA (fun w20 hq hs => ?_)
   replace hB := hB.tr1 hs lo13
   replace hb2 := hb2.tr1 hs om
   replace hb4 := hb4.tr1 hs om
   replace hb17 := hb17.tr1 hs om
   replace hb5 := hb5.tr1 hs om
   replace hb7 := hb7.tr1 hs om
   replace hb33 := hb33.tr1 hs om
   replace hb9 := hb9.tr1 hs om
   replace hrows := fun x hx => (hrows x hx).tr hs (fun g hg => by rw [List.mem_singleton.1 hg]; first | exact .inr ⟨_, _, hb13, by decide⟩ | exact .inl om)
   replace hbz := nLT hbz (Same.size hs)
   replace hoo := hoo.tr1 hs (fun g hg => by have := (hoo.lt g hg).1; (try have := or_hoo_b13 g hg); (try simp only [aL] at hg); (try simp only [List.mem_singleton] at hg); omega)
   replace ho5 := ho5.tr1 hs (fun g hg => by have := (ho5.lt g hg).1; (try have := or_ho5_b13 g hg); (try simp only [aL] at hg); (try simp only [List.mem_singleton] at hg); omega)
   clear hs
   replace hb13 := hq
   refine x_nil (e_S ?_)
   rw [ht] at hb13
   have zo := fun g hg => (ho5.lt g hg).2
   have hcell : (row2 o.length (fun x => if x < k + 1 then .int .i64 (nd gr (o.getD x 0)).ty else .int .i64 0) (fun x => if x = k then .slice A5 j cap5 else if x < k then V x else .slice none 0 0))[0 + k * 2 + 1]? = some (.slice A5 j cap5) := by rw [row2_get1 hlt]; simp
   have hsz := Bel.size hB
   refine c_monoSO 21 [64, 65, 66, 67, 68, 69, 70, 71, 72, 73, 74, 75, 76, 77, 78, 79, 80, 81, 82, 83, 84] (aL A5) 18 (fun ix v wv => match ix with | 0 => v = .pointer (some ⟨b9, 0, none⟩) | 1 => v = .slice (some ⟨b33, 0, none⟩) o.length o.length | 2 => v = .int .i64 k | 3 => v = .pointer (some ⟨b9, 0, none⟩) | 4 => v = .slice (some ⟨b33, 0, none⟩) o.length o.length | 5 => v = .int .i64 k | 6 => v = .pointer (some ⟨b33, 0 + k * 2, none⟩) | 7 => v = .pointer (some ⟨b33, 0 + k * 2 + 1, none⟩) | 8 => v = .slice A5 j cap5 | 9 => v = .pointer (some ⟨b13, 0, none⟩) | 10 => v = .int .i64 ((gr[i]'hin).ln[j]'hjl).1 | 11 => v = .slice (some ⟨b17, 0, none⟩) gr.length gr.length | 12 => v = .pointer (some ⟨b13, 1, none⟩) | 13 => v = .int .i64 (t : Nat) | 14 => v = .pointer (some ⟨b17, 0 + t * 1, none⟩) | 15 => v = .int .i64 (numO o t) | 16 => v = .agg #[.int .i64 ((gr[i]'hin).ln[j]'hjl).1, .int .i64 (numO o t)] | 17 => ∃ b, v = .slice (some ⟨b, 0, none⟩) 1 1 ∧ w20.heap.size ≤ b ∧ Blk wv b 30 #[.int .i64 ((gr[i]'hin).ln[j]'hjl).1, .int .i64 (numO o t)] | 18 => ∃ g cap, v = .slice (some ⟨g, 0, none⟩) (j + 1) cap ∧ Own wv bs 30 2 (some ⟨g, 0, none⟩) (j + 1) cap (lnV (((gr[i]'hin).ln.take j).map (canL o)) ++ [.int .i64 ((gr[i]'hin).ln[j]'hjl).1, .int .i64 (numO o t)]) | 19 => v = .pointer (some ⟨b33, 0 + k * 2, none⟩) | 20 => v = .pointer (some ⟨b33, 0 + k * 2 + 1, none⟩) | _ => True) (fun _ => True) kR kR ?_ (fun _ _ _ _ => trivial) ?_ ?_ dE ?_
   ·
    intro ix v wv wv2 h hs
    match ix, h with
    | 0, h => exact h
    | 1, h => exact h
    | 2, h => exact h
    | 3, h => exact h
    | 4, h => exact h
    | 5, h => exact h
    | 6, h => exact h
    | 7, h => exact h
    | 8, h => exact h
    | 9, h => exact h
    | 10, h => exact h
    | 11, h => exact h
    | 12, h => exact h
    | 13, h => exact h
    | 14, h => exact h
    | 15, h => exact h
    | 16, h => exact h
    | 17, h =>
     obtain ⟨b81, e81, lo81, hb81⟩ := (show ∃ b, v = .slice (some ⟨b, 0, none⟩) 1 1 ∧ w20.heap.size ≤ b ∧ Blk wv b 30 #[.int .i64 ((gr[i]'hin).ln[j]'hjl).1, .int .i64 (numO o t)] from h)
     exact ⟨b81, e81, lo81, hb81.tr0 hs⟩
    | 18, h =>
     obtain ⟨g82, cap82, e82, ho82⟩ := (show ∃ g cap, v = .slice (some ⟨g, 0, none⟩) (j + 1) cap ∧ Own wv bs 30 2 (some ⟨g, 0, none⟩) (j + 1) cap (lnV (((gr[i]'hin).ln.take j).map (canL o)) ++ [.int .i64 ((gr[i]'hin).ln[j]'hjl).1, .int .i64 (numO o t)]) from h)
     exact ⟨g82, cap82, e82, ho82.tr0 hs⟩
    | 19, h => exact h
    | 20, h => exact h
    | _ + 21, h => exact trivial
   ·
    intro ix o hix hne hoq gg wx hs hd
    match ix, hix, hne, hoq with
    | 0, _, _, hoq =>
     obtain rfl := sI hoq
     have hs0 := hs
     replace hb9 := hb9.tr hs (fun hx => by have := (ho5.lt _ hx).1; (try have := or_ho5_b9 _ hx); omega)
     refine os_rv (r_fa U28 sz26 dE rfl rfl rfl) ⟨Same.refl _ _, ?_⟩
     exact rfl
    | 1, _, _, hoq =>
     obtain rfl := sI hoq
     have hs0 := hs
     replace hb9 := hb9.tr hs (fun hx => by have := (ho5.lt _ hx).1; (try have := or_ho5_b9 _ hx); omega)
     have d0 : gg 64 = .pointer (some ⟨b9, 0, none⟩) := hd 0 (dep_of kR)
     have e64 := d0
     refine os_know 64 (.pointer (some ⟨b9, 0, none⟩)) e64 nu ?_
     refine os_rv (r_ld1 (v := .slice _ _ _) U26 rfl rfl (hb9.cell rfl)) ⟨Same.refl _ _, ?_⟩
     exact rfl
    | 2, _, _, hoq =>
     obtain rfl := sI hoq
     have hs0 := hs
     refine os_rv (r_mv (v := .int _ _) rfl) ⟨Same.refl _ _, ?_⟩
     exact rfl
    | 3, _, _, hoq =>
     obtain rfl := sI hoq
     have hs0 := hs
     replace hb9 := hb9.tr hs (fun hx => by have := (ho5.lt _ hx).1; (try have := or_ho5_b9 _ hx); omega)
     refine os_rv (r_fa U28 sz26 dE rfl rfl rfl) ⟨Same.refl _ _, ?_⟩
     exact rfl
    | 4, _, _, hoq =>
     obtain rfl := sI hoq
     have hs0 := hs
     replace hb9 := hb9.tr hs (fun hx => by have := (ho5.lt _ hx).1; (try have := or_ho5_b9 _ hx); omega)
     have d3 : gg 67 = .pointer (some ⟨b9, 0, none⟩) := hd 3 (dep_of kR)
     have e67 := d3
     refine os_know 67 (.pointer (some ⟨b9, 0, none⟩)) e67 nu ?_
     refine os_rv (r_ld1 (v := .slice _ _ _) U26 rfl rfl (hb9.cell rfl)) ⟨Same.refl _ _, ?_⟩
     exact rfl
    | 5, _, _, hoq =>
     obtain rfl := sI hoq
     have hs0 := hs
     refine os_rv (r_mv (v := .int _ _) rfl) ⟨Same.refl _ _, ?_⟩
     exact rfl
    | 6, _, _, hoq =>
     obtain rfl := sI hoq
     have hs0 := hs
     have d4 : gg 68 = .slice (some ⟨b33, 0, none⟩) o.length o.length := hd 4 (dep_of kR)
     have e68 := d4
     have d5 : gg 69 = .int .i64 k := hd 5 (dep_of kR)
     have e69 := d5
     refine os_know 68 (.slice (some ⟨b33, 0, none⟩) o.length o.length) e68 nu (os_know 69 (.int .i64 k) e69 nu ?_)
     refine os_rv (r_ia (i := k) U26 sz33 rfl rfl om rfl) ⟨Same.refl _ _, ?_⟩
     exact rfl
    | 7, _, _, hoq =>
     obtain rfl := sI hoq
     have hs0 := hs
     have d6 : gg 70 = .pointer (some ⟨b33, 0 + k * 2, none⟩) := hd 6 (dep_of kR)
     have e70 := d6
     refine os_know 70 (.pointer (some ⟨b33, 0 + k * 2, none⟩)) e70 nu ?_
     refine os_rv (r_fa U33 sz31 dE rfl rfl rfl) ⟨Same.refl _ _, ?_⟩
     exact rfl
    | 8, _, _, hoq =>
     obtain rfl := sI hoq
     have hs0 := hs
     replace hb33 := hb33.tr hs (fun hx => by have := (ho5.lt _ hx).1; (try have := or_ho5_b33 _ hx); omega)
     have d7 : gg 71 = .pointer (some ⟨b33, 0 + k * 2 + 1, none⟩) := hd 7 (dep_of kR)
     have e71 := d7
     refine os_know 71 (.pointer (some ⟨b33, 0 + k * 2 + 1, none⟩)) e71 nu ?_
     refine os_rv (r_ld1 (v := .slice _ _ _) U31 rfl rfl (hb33.cell hcell)) ⟨Same.refl _ _, ?_⟩
     exact rfl
    | 9, _, _, hoq =>
     obtain rfl := sI hoq
     have hs0 := hs
     replace hb13 := hb13.tr hs (fun hx => by have := (ho5.lt _ hx).1; (try have := or_ho5_b13 _ hx); omega)
     refine os_rv (r_fa U30 sz3_GLoose dE rfl rfl rfl) ⟨Same.refl _ _, ?_⟩
     exact rfl
    | 10, _, _, hoq =>
     obtain rfl := sI hoq
     have hs0 := hs
     replace hb13 := hb13.tr hs (fun hx => by have := (ho5.lt _ hx).1; (try have := or_ho5_b13 _ hx); omega)
     have d9 : gg 73 = .pointer (some ⟨b13, 0, none⟩) := hd 9 (dep_of kR)
     have e73 := d9
     refine os_know 73 (.pointer (some ⟨b13, 0, none⟩)) e73 nu ?_
     refine os_rv (r_ld1 (v := .int _ _) U3 rfl rfl (hb13.cell rfl)) ⟨Same.refl _ _, ?_⟩
     exact rfl
    | 11, _, _, hoq =>
     obtain rfl := sI hoq
     have hs0 := hs
     replace hb5 := hb5.tr hs (fun hx => by have := (ho5.lt _ hx).1; (try have := or_ho5_b5 _ hx); omega)
     refine os_rv (r_ld1 (v := .slice _ _ _) U43 rfl rfl (hb5.cell rfl)) ⟨Same.refl _ _, ?_⟩
     exact rfl
    | 12, _, _, hoq =>
     obtain rfl := sI hoq
     have hs0 := hs
     replace hb13 := hb13.tr hs (fun hx => by have := (ho5.lt _ hx).1; (try have := or_ho5_b13 _ hx); omega)
     refine os_rv (r_fa U30 sz3_GLoose dE rfl rfl rfl) ⟨Same.refl _ _, ?_⟩
     exact rfl
    | 13, _, _, hoq =>
     obtain rfl := sI hoq
     have hs0 := hs
     replace hb13 := hb13.tr hs (fun hx => by have := (ho5.lt _ hx).1; (try have := or_ho5_b13 _ hx); omega)
     have d12 : gg 76 = .pointer (some ⟨b13, 1, none⟩) := hd 12 (dep_of kR)
     have e76 := d12
     refine os_know 76 (.pointer (some ⟨b13, 1, none⟩)) e76 nu ?_
     refine os_rv (r_ld1 (v := .int _ _) U3 rfl rfl (hb13.cell rfl)) ⟨Same.refl _ _, ?_⟩
     exact rfl
    | 14, _, _, hoq =>
     obtain rfl := sI hoq
     have hs0 := hs
     have d11 : gg 75 = .slice (some ⟨b17, 0, none⟩) gr.length gr.length := hd 11 (dep_of kR)
     have e75 := d11
     have d13 : gg 77 = .int .i64 (t : Nat) := hd 13 (dep_of kR)
     have e77 := d13
     refine os_know 75 (.slice (some ⟨b17, 0, none⟩) gr.length gr.length) e75 nu (os_know 77 (.int .i64 (t : Nat)) e77 nu ?_)
     refine os_rv (r_ia (i := t) U43 sz3_GLoose rfl rfl htl rfl) ⟨Same.refl _ _, ?_⟩
     exact rfl
    | 15, _, _, hoq =>
     obtain rfl := sI hoq
     have hs0 := hs
     replace hb17 := hb17.tr hs (fun hx => by have := (ho5.lt _ hx).1; (try have := or_ho5_b17 _ hx); omega)
     have d14 : gg 78 = .pointer (some ⟨b17, 0 + t * 1, none⟩) := hd 14 (dep_of kR)
     have e78 := d14
     refine os_know 78 (.pointer (some ⟨b17, 0 + t * 1, none⟩)) e78 nu ?_
     refine os_rv (r_ld1 (v := .int _ _) U3 rfl rfl (hb17.cell (row_get htl))) ⟨Same.refl _ _, ?_⟩
     exact rfl
    | 16, _, _, hoq =>
     obtain rfl := sI hoq
     have hs0 := hs
     have d10 : gg 74 = .int .i64 ((gr[i]'hin).ln[j]'hjl).1 := hd 10 (dep_of kR)
     have e74 := d10
     have d15 : gg 79 = .int .i64 (numO o t) := hd 15 (dep_of kR)
     have e79 := d15
     refine os_know 74 (.int .i64 ((gr[i]'hin).ln[j]'hjl).1) e74 nu (os_know 79 (.int .i64 (numO o t)) e79 nu ?_)
     refine os_rv (r_bd2 (v0 := .int _ _) (v1 := .int _ _) (fun v0 v1 => #[v0, v1]) rfl rfl kR) ⟨Same.refl _ _, ?_⟩
     exact rfl
    | 17, _, _, hoq =>
     obtain rfl := sI hoq
     have hs0 := hs
     have d16 : gg 80 = .agg #[.int .i64 ((gr[i]'hin).ln[j]'hjl).1, .int .i64 (numO o t)] := hd 16 (dep_of kR)
     have e80 := d16
     refine os_know 80 (.agg #[.int .i64 ((gr[i]'hin).ln[j]'hjl).1, .int .i64 (numO o t)]) e80 nu ?_
     refine os_wl (fun ops Q K => ?_)
     refine wl_bs (cs := #[_, _]) [(0, .agg _)] rfl U31 sz30 ze30 dE dE kR rfl (fun b81 w21 hb81 hs hr => ?_)
     exact K _ _ ⟨hs, ⟨_, rfl, nLT hs0.size hr, hb81⟩⟩
    | 18, _, hne, _ => exact absurd rfl hne
    | 19, _, _, hoq =>
     obtain rfl := sI hoq
     have hs0 := hs
     have d1 : gg 65 = .slice (some ⟨b33, 0, none⟩) o.length o.length := hd 1 (dep_of kR)
     have e65 := d1
     have d2 : gg 66 = .int .i64 k := hd 2 (dep_of kR)
     have e66 := d2
     refine os_know 65 (.slice (some ⟨b33, 0, none⟩) o.length o.length) e65 nu (os_know 66 (.int .i64 k) e66 nu ?_)
     refine os_rv (r_ia (i := k) U26 sz33 rfl rfl om rfl) ⟨Same.refl _ _, ?_⟩
     exact rfl
    | 20, _, _, hoq =>
     obtain rfl := sI hoq
     have hs0 := hs
     have d19 : gg 83 = .pointer (some ⟨b33, 0 + k * 2, none⟩) := hd 19 (dep_of kR)
     have e83 := d19
     refine os_know 83 (.pointer (some ⟨b33, 0 + k * 2, none⟩)) e83 nu ?_
     refine os_rv (r_fa U33 sz31 dE rfl rfl rfl) ⟨Same.refl _ _, ?_⟩
     exact rfl
    | _ + 21, hix, _, _ => exact absurd hix om
   ·
    intro o hoq gg wx hs hd
    obtain rfl := sI hoq
    have hs0 := hs
    replace hB := hB.tr0 hs
    replace hb2 := hb2.tr0 hs
    replace hb4 := hb4.tr0 hs
    replace hb17 := hb17.tr0 hs
    replace hb5 := hb5.tr0 hs
    replace hb7 := hb7.tr0 hs
    replace hb33 := hb33.tr0 hs
    replace hb9 := hb9.tr0 hs
    replace hrows := fun x hx => (hrows x hx).tr hs (by simp)
    replace hbz := nLT hbz (Same.size hs)
    replace hoo := hoo.tr0 hs
    replace ho5 := ho5.tr0 hs
    replace hb13 := hb13.tr0 hs
    clear hs
    have d8 : gg 72 = .slice A5 j cap5 := hd 8 (dep_of kR)
    have e72 := d8
    have d17 : ∃ b, gg 81 = .slice (some ⟨b, 0, none⟩) 1 1 ∧ w20.heap.size ≤ b ∧ Blk wx b 30 #[.int .i64 ((gr[i]'hin).ln[j]'hjl).1, .int .i64 (numO o t)] := hd 17 (dep_of kR)
    obtain ⟨b81, e81, lo81, hb81⟩ := d17
    refine os_know 72 (.slice A5 j cap5) e72 nu (os_know 81 (.slice (some ⟨b81, 0, none⟩) 1 1) e81 nu ?_)
    refine os_wl (fun ops Q K => ?_)
    refine wl_app U31 in30 rfl dE ho5 hb81 rfl rfl rfl oneA dE om om hbz (fun g82 cap82 w2 ho82 hs2 hg82 => ?_)
    refine K _ _ ⟨hs2, ⟨_, _, rfl, ho82⟩, trivial, fun kx v hne h => ?_⟩
    match kx, hne, h with
    | 0, _, h => exact h
    | 1, _, h => exact h
    | 2, _, h => exact h
    | 3, _, h => exact h
    | 4, _, h => exact h
    | 5, _, h => exact h
    | 6, _, h => exact h
    | 7, _, h => exact h
    | 8, _, h => exact h
    | 9, _, h => exact h
    | 10, _, h => exact h
    | 11, _, h => exact h
    | 12, _, h => exact h
    | 13, _, h => exact h
    | 14, _, h => exact h
    | 15, _, h => exact h
    | 16, _, h => exact h
    | 17, _, h =>
     obtain ⟨b81, e81, lo81, hb81⟩ := (show ∃ b, v = .slice (some ⟨b, 0, none⟩) 1 1 ∧ w20.heap.size ≤ b ∧ Blk wx b 30 #[.int .i64 ((gr[i]'hin).ln[j]'hjl).1, .int .i64 (numO o t)] from h)
     exact ⟨b81, e81, lo81, hb81.tr hs2 (fun hx => by have := zo _ hx; omega)⟩
    | 18, hne, _ => exact absurd rfl hne
    | 19, _, h => exact h
    | 20, _, h => exact h
    | _ + 21, _, _ => exact trivial
   intro gg w22 hs _ hR
   have hs0 := hs
   replace hB := hB.tr hs (fun g hg => nLT hlb5 (ho5.lt g hg).1)
   replace hb2 := hb2.tr hs (fun hx => by have := (ho5.lt _ hx).1; (try have := or_ho5_b2 _ hx); omega)
   replace hb4 := hb4.tr hs (fun hx => by have := (ho5.lt _ hx).1; (try have := or_ho5_b4 _ hx); omega)
   replace hb17 := hb17.tr hs (fun hx => by have := (ho5.lt _ hx).1; (try have := or_ho5_b17 _ hx); omega)
   replace hb5 := hb5.tr hs (fun hx => by have := (ho5.lt _ hx).1; (try have := or_ho5_b5 _ hx); omega)
   replace hb7 := hb7.tr hs (fun hx => by have := (ho5.lt _ hx).1; (try have := or_ho5_b7 _ hx); omega)
   replace hb33 := hb33.tr hs (fun hx => by have := (ho5.lt _ hx).1; (try have := or_ho5_b33 _ hx); omega)
   replace hb9 := hb9.tr hs (fun hx => by have := (ho5.lt _ hx).1; (try have := or_ho5_b9 _ hx); omega)
   replace hrows := fun x hx => (hrows x hx).tr hs (fun g hg => .inl ((ho5).lt g hg).1)
   replace hbz := nLT hbz (Same.size hs)
   replace hoo := hoo.tr hs (fun g hg hx => by have := (ho5.lt _ hx).1; (try have := luo g hg); omega)
   replace hb13 := hb13.tr hs (fun hx => by have := (ho5.lt _ hx).1; (try have := or_ho5_b13 _ hx); omega)
   have d18 : ∃ g cap, gg 82 = .slice (some ⟨g, 0, none⟩) (j + 1) cap ∧ Own w22 bs 30 2 (some ⟨g, 0, none⟩) (j + 1) cap (lnV (((gr[i]'hin).ln.take j).map (canL o)) ++ [.int .i64 ((gr[i]'hin).ln[j]'hjl).1, .int .i64 (numO o t)]) := hR 18 dE
   obtain ⟨g82, cap82, e82, ho82⟩ := d18
   have d20 : gg 84 = .pointer (some ⟨b33, 0 + k * 2 + 1, none⟩) := hR 20 dE
   have e84 := d20
   replace ho82 : Own w22 bs 30 2 (some ⟨g82, 0, none⟩) (j + 1) cap82 (lnV (((gr[i]'hin).ln.take (j + 1)).map (canL o))) := by
     rw [List.take_succ_eq_append_getElem hjl, List.map_append, List.map_cons, List.map_nil, ← lnV_snoc]
     have e : canL o ((gr[i]'hin).ln[j]'hjl) = (((gr[i]'hin).ln[j]'hjl).1, numO o t) := by simp [canL, ht]
     rw [e]; exact ho82
   have ho5 := ho82
   refine wl_know 82 (.slice (some ⟨g82, 0, none⟩) (j + 1) cap82) e82 nu (wl_know 84 (.pointer (some ⟨b33, 0 + k * 2 + 1, none⟩)) e84 nu ?_)
   refine wl_st1 (v := .slice _ _ _) hb33 rfl rfl sz31 (by rw [row2_size]; show 0 + k * 2 + 1 < o.length * 2; omega) rfl row2_set1 (fun w23 hq hs => ?_)
   replace hB := hB.tr1 hs lo33
   replace hb2 := hb2.tr1 hs om
   replace hb4 := hb4.tr1 hs om
   replace hb17 := hb17.tr1 hs om
   replace hb5 := hb5.tr1 hs om
   replace hb7 := hb7.tr1 hs om
   replace hb9 := hb9.tr1 hs om
   replace hrows := fun x hx => (hrows x hx).tr hs (fun g hg => by rw [List.mem_singleton.1 hg]; first | exact .inr ⟨_, _, hb33, by decide⟩ | exact .inl om)
   replace hbz := nLT hbz (Same.size hs)
   replace hoo := hoo.tr1 hs (fun g hg => by have := (hoo.lt g hg).1; (try have := or_hoo_b33 g hg); (try simp only [aL] at hg); (try simp only [List.mem_singleton] at hg); omega)
   replace hb13 := hb13.tr1 hs om
   replace ho5 := ho5.tr1 hs (fun g hg => by have := (ho5.lt g hg).1; (try have := or_ho5_b33 g hg); (try simp only [aL] at hg); (try simp only [List.mem_singleton] at hg); omega)
   clear hs
   replace hb33 := hq
   rw [row2_congr (f' := (fun x => if x < k + 1 then .int .i64 (nd gr (o.getD x 0)).ty else .int .i64 0)) (h' := fun x => if x = k then .slice (some ⟨g82, 0, none⟩) (j + 1) cap82 else if x < k then V x else .slice none 0 0) (fun x _ => rfl) (fun x _ => by
     by_cases e : x = k
     · subst e; simp
     · simp [e])] at hb33
   refine x_nil (e_B (e_S (c_region (wl (r_add rfl rfl rfl om) (wmI rfl ?_)))))
   refine x_nil (e_LS ((gr[i]'hin).ln.length - (j + 1)) om agA ?_)
   exact ⟨j + 1, _, _, by omega, rfl, rfl, hB, hb2, hb4, hb5, hb7, hb17, hb9, hoo, hb33, hrows, hbz, ho5⟩
  have hjx : j = (gr[i]'hin).ln.length := by omega
  subst hjx
  refine c_exit (e_Sx (e_LSx (e_Bx (e_B (e_S ?_)))))
  refine c_region (wl (r_add rfl rfl rfl om) (wmI rfl (x_nil (e_LS (o.length - (k + 1)) om agA ?_))))
  refine ⟨k + 1, fun x => if x = k then .slice A5 (gr[i]'hin).ln.length cap5 else V x, by omega, rfl, rfl, hB, hb2, hb4, hb5, hb7, hb17, hb9, hoo, ?_, fun x hx => ?_, hdis.snoc hrows (fun g hg => (ho5.lt g hg).1)⟩
  · rw [row2_congr (f' := (fun x => if x < k + 1 then .int .i64 (nd gr (o.getD x 0)).ty else .int .i64 0)) (h' := (fun x => if x < k + 1 then (if x = k then .slice A5 (gr[i]'hin).ln.length cap5 else V x) else .slice none 0 0)) (fun x _ => rfl) (fun x _ => by
      by_cases e : x = k
      · subst e; simp
      · have e1 : (x < k + 1) ↔ (x < k) := by omega
        simp [e, e1])] at hb33
    exact hb33
  · by_cases e : x = k
    · subst e
      simp only [if_true]
      have h := RowO.of (lo := w.heap.size) (xs := (gr[i]'hin).ln.map (canL o)) hlb5 (by
        rw [List.take_length] at ho5
        rw [List.length_map]; exact ho5)
      rw [List.length_map] at h
      rw [hgd, hnd]; exact h
    · simp only [if_neg e]
      exact (hrows x om).up hbz
 have hke : k = o.length := by omega
 rw [hke] at hb33 hrows hdis
 refine c_exit (e_Sx (e_LSx (e_Bx (e_S (c_seq ?_)))))
 refine c_region (wl (r_ldS U28 rfl rfl hb9.range0 sz28) ?_)
 refine wl_stW hb4 rfl rfl sz28 rfl oneA (fun w24 hq hs => ?_)
 replace hB := hB.tr1 hs lo4
 replace hb2 := hb2.tr1 hs om
 replace hb17 := hb17.tr1 hs om
 replace hb5 := hb5.tr1 hs om
 replace hb7 := hb7.tr1 hs om
 replace hb33 := hb33.tr1 hs om
 replace hb9 := hb9.tr1 hs om
 replace hoo := hoo.tr1 hs (fun g hg => by have := (hoo.lt g hg).1; (try have := or_hoo_b4 g hg); (try simp only [aL] at hg); (try simp only [List.mem_singleton] at hg); omega)
 replace hrows := fun x hx => (hrows x hx).tr hs (fun g hg => by rw [List.mem_singleton.1 hg]; first | exact .inr ⟨_, _, hb4, by decide⟩ | exact .inl om)
 replace hbz := nLT hbz (Same.size hs)
 clear hs
 replace hb4 := hq
 refine x_nil (e_S (c_ret (fin1 (.inl rfl) rfl (rr_cell U28 rfl rfl hb4.range0 sz28) ?_)))
 have hcl : (canG gr o).length = o.length := by simp [canG]
 refine ⟨⟨o, _, hD, hok, rfl, GrD.mk (own_row2 hb33 lo33 om) hcl (Nat.le_refl _) (fun x hx => ?_) (fun g hg => ?_) hbz (fun x hx => ?_) (hdis.congr (fun x hx => by simp [hx]))⟩, hB⟩
 · rw [nd_canG hx]; simp [hx]
 · rw [List.mem_singleton.1 hg]; exact hb33.lt
 · rw [nd_canG hx]
   have h := hrows x hx
   simpa [hx] using h
theorem from3_any (G : Option Addr) (cg nf : Nat) (gr : List Nd) (r : Nat) (w : World) (hG : NodesIn w G gr) (hk : GOk2 nf gr) (hnf : nf ≤ 1000) (hr : r < gr.length) : Calls Tryd.prog 49 #[.agg #[.slice G gr.length cg], .int .i64 r] w fun e w' => (∃ o A, DL gr [r] [] o ∧ OOk gr.length o ∧ e = .returned (.agg #[.slice A o.length o.length]) ∧ GrT w' w.heap.size w'.heap.size A o.length (canG gr o) (fun x => (nd (canG gr o) x).ty)) ∧ Bel w w' := (from4_any G cg nf gr r w hG hk hnf hr).mono fun e w' h => by
  obtain ⟨⟨o, A, h1, h2, h3, h4⟩, hs⟩ := h
  exact ⟨⟨o, A, h1, h2, h3, h4.grt⟩, hs⟩
theorem from2_any (G : Option Addr) (cg nf : Nat) (gr : List Nd) (r : Nat) (w : World) (hG : NodesIn w G gr) (hk : GOk2 nf gr) (hnf : nf ≤ 1000) (hr : r < gr.length) : Calls Tryd.prog 49 #[.agg #[.slice G gr.length cg], .int .i64 r] w fun e w' => (∃ o A, DL gr [r] [] o ∧ OOk gr.length o ∧ e = .returned (.agg #[.slice A o.length o.length]) ∧ (∀ w2, FrSame w.heap.size w' w2 → NodesIn w2 A (canG gr o))) ∧ Bel w w' := (from3_any G cg nf gr r w hG hk hnf hr).mono fun e w' h => by
  obtain ⟨⟨o, A, h1, h2, h3, h4⟩, hs⟩ := h
  exact ⟨⟨o, A, h1, h2, h3, fun w2 hf => by have := (h4.fr hf).nodes; rwa [rtG_self] at this⟩, hs⟩
end Go.Proofs.YtegngekpmpdngaaDoor
namespace Go.Proofs.YtegngekpmpdngaaDoor
open Go.RowKit
structure GV (l : List Ty) (fs : List Ft) (g : List Nd) : Prop where
  h : (hierFault l fs).1 = 0
  s : Sound l
  few : fs.length ≤ 40
  f : FOk l.length fs
  gok : GOk l.length fs.length g
  t : tyF l fs g = (0, 0)
  u : ¬ 0 ≤ unrI g
  lo : (looseF l.length fs.length g).1 = 0
theorem gv_of {l : List Ty} {fs : List Ft} {g : List Nd} (h : (graphF l fs g).1 = 0) : GV l fs g := by
  by_cases h0 : (hierFault l fs).1 = 0
  · rw [gf_in h0] at h
    by_cases h1 : (looseF l.length fs.length g).1 = 0
    · by_cases h2 : (tyF l fs g).1 = 0
      · have h2' : tyF l fs g = (0, 0) := firstF_zz h2
        by_cases h3 : 0 ≤ unrI g
        · rw [wi_unr h1 h2' h3] at h; cases h
        · refine ⟨h0, sound_of h0, ?_, fok_of h0, gok_of h1, h2', h3, h1⟩
          unfold hierFault at h0
          by_cases h4 : 40 < fs.length
          · rw [if_pos h4] at h0; cases h0
          · omega
      · unfold withinF at h
        rw [if_neg (fun e => e h1), if_pos h2] at h
        exact absurd h h2
    · rw [wi_loose h1] at h; exact absurd h h1
  · rw [gf_hier h0] at h; exact absurd h h0
theorem DL.sub {g : List Nd} {is a b : List Nat} (h : DL g is a b) : ∀ x ∈ a, x ∈ b := by
  induction h with
  | nil => exact fun x h => h
  | old h t ih => exact ih
  | new h s t ihs iht => exact fun x hx => iht x (ihs x (List.mem_append_left _ hx))
theorem DL.has {g : List Nd} {is a b : List Nat} (h : DL g is a b) : ∀ i ∈ is, i ∈ b := by
  induction h with
  | nil => exact fun i h => by cases h
  | old h t ih =>
    intro i hi
    rcases List.mem_cons.1 hi with rfl | hi
    · exact t.sub _ h
    · exact ih i hi
  | new h s t ihs iht =>
    intro i hi
    rcases List.mem_cons.1 hi with rfl | hi
    · exact t.sub _ (s.sub _ (by simp))
    · exact iht i hi
theorem DL.clo {g : List Nd} {is a b : List Nat} (h : DL g is a b) : ∀ x ∈ b, ¬ x ∈ a → ∀ t ∈ succN g x, t ∈ b := by
  induction h with
  | nil => exact fun x h1 h2 => absurd h1 h2
  | old h t ih => exact ih
  | new h s t ihs iht =>
    rename_i i is o o1 o'
    intro x hx hn y hy
    by_cases h1 : x ∈ o1
    · by_cases h2 : x = i
      · subst h2; exact t.sub _ (s.has y hy)
      · exact t.sub _ (ihs x h1 (fun h3 => by
          rcases List.mem_append.1 h3 with h3 | h3
          · exact hn h3
          · exact h2 (List.mem_singleton.1 h3)) y hy)
    · exact iht x hx h1 y hy
theorem DL.nodup {g : List Nd} {is a b : List Nat} (h : DL g is a b) : a.Nodup → b.Nodup := by
  induction h with
  | nil => exact fun h => h
  | old h t ih => exact ih
  | new h s t ihs iht =>
    intro hd
    refine iht (ihs (List.nodup_append.2 ⟨hd, by simp, fun x hx y hy => ?_⟩))
    rw [List.mem_singleton.1 hy]
    exact fun e => h (e ▸ hx)
theorem DL.rch {g : List Nd} (hr : ∀ i, i < g.length → ∀ t ∈ succN g i, t < g.length) {is a b : List Nat} (h : DL g is a b) : (∀ i ∈ is, i < g.length) → (∀ i ∈ is, Rch g i) → (∀ x ∈ a, Rch g x) → ∀ x ∈ b, Rch g x := by
  induction h with
  | nil => exact fun _ _ h => h
  | old h t ih => exact fun hi hR ha => ih (fun i h => hi i (List.mem_cons_of_mem _ h)) (fun i h => hR i (List.mem_cons_of_mem _ h)) ha
  | new h s t ihs iht =>
    rename_i i is o o1 o'
    intro hi hR ha
    have hlt := hi i (List.mem_cons_self ..)
    have hRi := hR i (List.mem_cons_self ..)
    refine iht (fun i h => hi i (List.mem_cons_of_mem _ h)) (fun i h => hR i (List.mem_cons_of_mem _ h)) (ihs (hr i hlt) (fun t ht => ?_) (fun x hx => ?_))
    · simp only [succN, nd_eq hlt, List.mem_map] at ht
      obtain ⟨y, hy, rfl⟩ := ht
      exact .step hRi hlt hy
    · rcases List.mem_append.1 hx with hx | hx
      · exact ha x hx
      · rw [List.mem_singleton.1 hx]; exact hRi
structure Tr (g : List Nd) (o : List Nat) : Prop where
  dl : DL g [0] [] o
  ok : OOk g.length o
  nd : o.Nodup
  pos : 0 < o.length
  zero : o.idxOf 0 = 0
  clo : ∀ x ∈ o, ∀ t ∈ succN g x, t ∈ o
theorem idx_get {o : List Nat} (hn : o.Nodup) {k : Nat} (hk : k < o.length) : o.idxOf o[k] = k := by
  have h1 : o.idxOf o[k] < o.length := List.idxOf_lt_length_of_mem (List.getElem_mem hk)
  have h2 : o[o.idxOf o[k]] = o[k] := List.getElem_idxOf h1
  exact (List.getElem_inj hn).1 h2
theorem get_idx {o : List Nat} {x : Nat} (hx : x ∈ o) : ∃ h : o.idxOf x < o.length, o[o.idxOf x] = x := ⟨List.idxOf_lt_length_of_mem hx, List.getElem_idxOf _⟩
theorem numO_in {o : List Nat} {x : Nat} (hx : x ∈ o) : numO o x = (o.idxOf x : Nat) := by simp [numO, hx]
theorem canG_len (g : List Nd) (o : List Nat) : (canG g o).length = o.length := by simp [canG]
theorem canG_nd {g : List Nd} {o : List Nat} {x : Nat} (hx : x ∈ o) : nd (canG g o) (o.idxOf x) = canN g o x := by
  obtain ⟨h1, h2⟩ := get_idx hx
  rw [nd_eq (by rw [canG_len]; exact h1)]
  simp [canG, h2]
theorem canG_succ {g : List Nd} {o : List Nat} (h : ∀ x ∈ o, ∀ t ∈ succN g x, t ∈ o) {x : Nat} (hx : x ∈ o) : succN (canG g o) (o.idxOf x) = (succN g x).map (o.idxOf ·) := by
  unfold succN
  rw [canG_nd hx]
  simp only [canN, List.map_map]
  refine List.map_congr_left (fun y hy => ?_)
  have : y.2.toNat ∈ o := h x hx _ (by simp only [succN, List.mem_map]; exact ⟨y, hy, rfl⟩)
  simp [canL, numO_in this]
theorem DL.map {g : List Nd} {o : List Nat} (hc : ∀ x ∈ o, ∀ t ∈ succN g x, t ∈ o) {is a b : List Nat} (h : DL g is a b) : (∀ x ∈ b, x ∈ o) → DL (canG g o) (is.map (o.idxOf ·)) (a.map (o.idxOf ·)) (b.map (o.idxOf ·)) := by
  have inj : ∀ x y, x ∈ o → y ∈ o → o.idxOf x = o.idxOf y → x = y := fun x y hx hy e => by
    obtain ⟨h1, h2⟩ := get_idx hx
    obtain ⟨h3, h4⟩ := get_idx hy
    rw [← h2, ← h4]
    simp only [e]
  induction h with
  | nil => exact fun _ => .nil
  | old h t ih =>
    intro hb
    exact .old (List.mem_map_of_mem h) (ih hb)
  | new h s t ihs iht =>
    rename_i i is o0 o1 o'
    intro hb
    have hio := hb i (t.sub _ (s.sub _ (by simp)))
    refine .new (fun hm => ?_) ?_ (iht hb)
    · obtain ⟨y, hy, e⟩ := List.mem_map.1 hm
      have hyo := hb y (t.sub _ (s.sub _ (List.mem_append_left _ hy)))
      exact h (inj y i hyo hio e ▸ hy)
    · have := ihs (fun x hx => hb x (t.sub _ hx))
      rw [List.map_append] at this
      rw [canG_succ hc hio]
      exact this
theorem map_idx {o : List Nat} (hn : o.Nodup) : o.map (o.idxOf ·) = List.range o.length := by
  apply List.ext_getElem
  · simp
  · intro k h1 h2
    simp only [List.getElem_map, List.getElem_range]
    exact idx_get hn (by simpa using h1)
theorem Tr.can {g : List Nd} {o : List Nat} (h : Tr g o) : DL (canG g o) [0] [] (List.range o.length) := by
  have := h.dl.map h.clo (fun x hx => hx)
  rw [map_idx h.nd] at this
  simpa [h.zero] using this
end Go.Proofs.YtegngekpmpdngaaDoor
namespace Go.Proofs.YtegngekpmpdngaaDoor
open Go.RowKit
theorem FrSame.then {B B0 : Nat} {w0 w1 w2 : World} (h : FrSame B w0 w1) (k : FrSame B0 w1 w2) (hb : B0 ≤ B) : FrSame B w0 w2 :=
  ⟨nLT h.size k.size, fun i hi hl => (k.blk i (nLT hb hi) (nLL hl h.size)).trans (h.blk i hi hl)⟩
end Go.Proofs.YtegngekpmpdngaaDoor
