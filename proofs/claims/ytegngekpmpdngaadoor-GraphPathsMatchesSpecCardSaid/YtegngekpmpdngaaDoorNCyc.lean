/- What these functions of the program compute, at every world: glosswright/glosswrightref4.Circular. What these functions of the program compute, at every world: glosswright/graph.From$1. What these functions of the program compute, at every world: glosswright/graph.From. What these functions of the program compute, at every world: slices.Equal[[]glosswright/api.Link,glosswright/api.Link], glosswright/glosswrightequal.Nodes. What these functions of the program compute, at every world: . A graph whose nodes are numbered in another way: valid, and of the same canonical form. No program in sight. What these functions of the program compute, at every world: glosswright/graph.Cyclic. -/
import Derived.Test.YtegngekpmpdngaaDoorU
import Derived.Test.YtegngekpmpdngaaDoorNCyv
import Derived.Test.YtegngekpmpdngaaDoorCanon
namespace Go.Proofs.YtegngekpmpdngaaDoor
open Go.RowKit
def rowW (n : Nat) (r : Nat → Nat) (k i : Nat) : Value := if i < k then .slice (some ⟨r i, 0, none⟩) n n else .slice none 0 0
theorem rowW_at {n k i : Nat} {r : Nat → Nat} (h : i < k) : rowW n r k i = .slice (some ⟨r i, 0, none⟩) n n := if_pos h
theorem W0.clear {g : List Nd} {R : Nat → Nat → Bool} {i : Nat} (h : W0 g R i 0) : W0 g (fun a b => if a = i then false else R a b) i 0 := by
  refine ⟨fun a b hab => ?_, fun a t ha ht => ?_, fun t ht => by simp at ht⟩
  · by_cases e : a = i
    · rw [if_pos e] at hab; cases hab
    · rw [if_neg e] at hab; exact h.snd a b hab
  · show (if _ then _ else _) = _
    rw [if_neg om]; exact h.has a t ha ht
theorem in82_NCir : (Tryd.prog.info? 82).map (fun i => (i.zero, i.size, i.bytes)) = some (some (.slice none 0 0), 1, 24) := by kernel_rfl
theorem sz82_NCir : (Tryd.prog.info? 82).map (·.size) = some 1 := by kernel_rfl
set_option maxHeartbeats 4000000 in
theorem circ_any (G : Option Addr) (cg : Nat) (l : List Ty) (fs : List Ft) (gr : List Nd) (w : World) (hG : NodesIn w G gr) (hva : GV l fs gr) : Calls Tryd.prog 14 #[.agg #[.slice G gr.length cg]] w fun e w' => e = .returned (.bool (cycB gr)) ∧ Bel w w' := by
 have hn6 := hva.gok.le
 have hn0 := hva.gok.pos
 have hk := hva.gok.two
 refine enter Tryd.func14 Tryd.ntmps14 rfl (Nat.le_of_ble_eq_true rfl) ?_
 have hB : Bel w w := Below.refl _ _
 refine c_seq (c_region ?_)
 refine wl_bx (v := .agg #[_]) (cs := #[_]) rfl rfl (fun b1 w1 hb1 hs hr => ?_)
 have lo1 := nLT (Bel.size hB) hr
 replace hB := hB.tr0 hs
 clear hs
 clear hr
 refine waB rfl (x_nil (e_S (c_seq (c_region (wl (r_fa U28 sz26 dE rfl rfl rfl) ?_)))))
 refine wl (r_ld1 (v := .slice _ _ _) U26 rfl rfl (hb1.cell rfl)) (wl (r_len U26 rfl) (waI rfl (x_nil (e_S (c_seq ?_)))))
 refine c_region (wmI rfl ?_)
 refine wl_mkR (m := gr.length) U81 in82_NCir rfl rfl rfl om om (fun b16 w2 hb16 hs hr => ?_)
 have or_b1_b16 : b1 < b16 := nLL hb1.lt hr
 have lo16 := nLT (Bel.size hB) hr
 replace hB := hB.tr0 hs
 replace hb1 := hb1.tr0 hs
 clear hs
 clear hr
 refine waS rfl (x_nil (e_S (c_seq (c_seq (c_region ?_)))))
 refine wmI rfl (wmI rfl (x_nil (e_S (c_block ?_))))
 refine c_loopS [5, 7, 18, 19, 20, 21, 22, 23, 24, 25, 26, 27, 28, 29, 30, 31, 32, 33, 34, 35, 36, 37, 38, 39, 40, 41, 42, 43, 44, 45] (fun m g w' => ∃ (i : Nat) (r : Nat → Nat) (R : Nat → Nat → Bool), i ≤ gr.length ∧ m = gr.length - i ∧ g 18 = .int .i64 i ∧ Bel w w' ∧ Blk w' b1 28 #[.slice G gr.length cg] ∧ Blk w' b16 82 (row gr.length (fun x => rowW gr.length r i x)) ∧ (∀ x, x < i → Blk w' (r x) 4 (row gr.length (fun y => .bool (R x y)))) ∧ (∀ x, x < i → b16 < r x) ∧ (∀ x y, x < i → y < i → r x = r y → x = y) ∧ W0 gr R i 0) (gr.length) ?_ (fun m g4 w3 hI => ?_)
 ·
  refine ⟨0, fun _ => 0, fun _ _ => false, Nat.zero_le _, rfl, rfl, hB, hb1, ?_, fun x hx => absurd hx (Nat.not_lt_zero _), fun x hx => absurd hx (Nat.not_lt_zero _), fun x _ hx => absurd hx (Nat.not_lt_zero _), W0.start gr⟩
  rw [row_congr (g' := fun _ => .slice none 0 0) (fun j _ => by simp [rowW])]; exact hb16
 obtain ⟨i, r, R, hi, hm, h18, hB, hb1, hb16, hrw, hrl, hri, hW⟩ := hI
 refine c_know 18 (.int .i64 i) h18 nu (c_seq (c_region (wl (r_lss rfl rfl) (x_nil (e_S ?_)))))
 refine c_seq ?_
 refine c_ifd rfl (fun c19 => ?_) (fun c19 => ?_)
 ·
  have hil : i < gr.length := by omega
  refine c_skip (e_S (c_seq (c_block (c_seq (c_region ?_)))))
  refine wmI rfl (waI rfl (x_nil (e_S (c_seq (c_region ?_)))))
  refine wmS rfl (wmI rfl (wmI rfl ?_))
  refine wl_mkR (m := gr.length) U82 in4_GUnr rfl rfl rfl om om (fun b24 w4 hb24 hs hr => ?_)
  have or_b1_b24 : b1 < b24 := nLL hb1.lt hr
  have or_b16_b24 : b16 < b24 := nLL hb16.lt hr
  have or_hrw_b24 := (fun (x : Nat) (hx : x < i) => nLL (hrw x hx).lt hr)
  have lo24 := nLT (Bel.size hB) hr
  replace hB := hB.tr0 hs
  replace hb1 := hb1.tr0 hs
  replace hb16 := hb16.tr0 hs
  replace hrw := fun x hx => (hrw x hx).tr0 hs
  clear hs
  clear hr
  refine wl (r_ia (i := i) U81 sz82_NCir rfl rfl om rfl) ?_
  refine wl_st1 (v := .slice _ _ _) hb16 rfl rfl sz82_NCir (by rw [row_size]; omega) rfl row_set (fun w5 hq hs => ?_)
  replace hB := hB.tr1 hs lo16
  replace hb1 := hb1.tr1 hs om
  replace hrw := fun x hx => (hrw x hx).tr1 hs (by first | (have := or_hrw_b16 x hx; omega) | exact fun h => absurd (blk_type (h ▸ hrw x hx) hb16) dE)
  replace hb24 := hb24.tr1 hs om
  clear hs
  replace hb16 := hq
  have hlt24 := or_b16_b24
  have hlr24 := or_hrw_b24
  rw [row_congr (g' := fun x => rowW gr.length (fun x => if x = i then b24 else r x) (i + 1) x) (fun x _ => by
    by_cases e : x = i
    · subst e; simp [rowW]
    · have e1 : (x < i + 1) ↔ (x < i) := by omega
      simp [rowW, e, e1])] at hb16
  have hrw2 : ∀ x, x < i + 1 → Blk w5 ((fun x => if x = i then b24 else r x) x) 4 (row gr.length (fun y => .bool ((fun a b => if a = i then false else R a b) x y))) := fun x hx => by
    by_cases e : x = i
    · subst e
      simp only [if_true]
      exact hb24
    · simp only [if_neg e]
      exact hrw x om
  have hrl2 : ∀ x, x < i + 1 → b16 < (fun x => if x = i then b24 else r x) x := fun x hx => by
    by_cases e : x = i
    · subst e; simp only [if_true]; exact hlt24
    · simp only [if_neg e]; exact hrl x om
  have hri2 : ∀ x y, x < i + 1 → y < i + 1 → (fun x => if x = i then b24 else r x) x = (fun x => if x = i then b24 else r x) y → x = y := fun x y hx hy h => by
    by_cases e : x = i
    · by_cases e2 : y = i
      · omega
      · simp only [if_pos e, if_neg e2] at h
        have := hlr24 y om
        omega
    · by_cases e2 : y = i
      · simp only [if_neg e, if_pos e2] at h
        have := hlr24 x om
        omega
      · simp only [if_neg e, if_neg e2] at h
        exact hri x y om om h
  have hW2 := hW.clear
  clear hrw hrl hri
  obtain ⟨r, hr2⟩ : ∃ z : Nat → Nat, z = fun x => if x = i then b24 else r x := ⟨_, rfl⟩
  obtain ⟨R2, hR2⟩ : ∃ z : Nat → Nat → Bool, z = fun a b => if a = i then false else R a b := ⟨_, rfl⟩
  rw [← hr2] at hb16 hrw2 hrl2 hri2
  rw [← hR2] at hrw2 hW2
  have hrw := hrw2
  have hrl := hrl2
  have hri := hri2
  clear hrw2 hrl2 hri2
  refine x_nil (e_S (c_seq ?_))
  obtain ⟨nb, no, LA, lc, rfl, hnb, hnr, hln⟩ := hG.at_ hB hil
  have hmx := hln.1
  unfold maxI at hmx
  refine c_region (wl (r_fa U28 sz26 dE rfl rfl rfl) (wl (r_ld1 (v := .slice _ _ _) U26 rfl rfl (hb1.cell rfl)) (wmI rfl (wl (r_ia (i := i) U26 sz33 rfl rfl om rfl) (wl (r_fa U33 sz31 dE rfl rfl rfl) ?_)))))
  refine wl (r_ld1 (v := .slice _ _ _) U31 rfl rfl (hnr 1 _ rfl)) (wl (r_len U31 rfl) (wmI rfl (x_nil (e_S (c_block ?_)))))
  refine c_loopS [7, 33, 34, 35, 36, 37, 38, 39, 40, 41, 42, 43, 44] (fun m g w' => ∃ (j : Nat) (R3 : Nat → Nat → Bool), j ≤ (gr[i]'hil).ln.length ∧ m = (gr[i]'hil).ln.length - j ∧ g 33 = .int .i64 j ∧ Bel w w' ∧ Blk w' b1 28 #[.slice (some ⟨nb, no, none⟩) gr.length cg] ∧ Blk w' b16 82 (row gr.length (fun x => rowW gr.length r (i + 1) x)) ∧ (∀ x, x < i + 1 → Blk w' (r x) 4 (row gr.length (fun y => .bool (R3 x y)))) ∧ W0 gr R3 i j) ((gr[i]'hil).ln.length) ?_ (fun m g8 w6 hI => ?_)
  ·
   exact ⟨0, R2, Nat.zero_le _, rfl, rfl, hB, hb1, hb16, hrw, hW2⟩
  obtain ⟨j, R3, hj, hmj, h33, hB, hb1, hb16, hrw, hW3⟩ := hI
  refine c_know 33 (.int .i64 j) h33 nu (c_seq (c_region (wl (r_lss rfl rfl) (x_nil (e_S ?_)))))
  refine c_seq ?_
  refine c_ifd rfl (fun c34 => ?_) (fun c34 => ?_)
  ·
   have hjl : j < (gr[i]'hil).ln.length := by omega
   obtain ⟨lb, lof, rfl, hlb, hlr⟩ := hln.at_ hB hjl
   obtain ⟨t, ht, htl⟩ : ∃ t : Nat, ((gr[i]'hil).ln[j]'hjl).2 = (t : Int) ∧ t < gr.length := by
     have h1 := hk.ln i hil _ (List.getElem_mem hjl)
     exact ⟨(((gr[i]'hil).ln[j]'hjl).2).toNat, by omega, by omega⟩
   refine c_skip (e_S (c_seq (c_block (c_seq (c_region ?_)))))
   refine wl (r_ia (i := j) U31 sz30 rfl rfl om rfl) (wl (r_ldS U30 rfl rfl hlr sz30) ?_)
   refine wl_al (cs := #[.int .i64 0, .int .i64 0]) ze30 rfl (fun b7 w7 hb7 hs hr => ?_)
   have or_b1_b7 : b1 < b7 := nLL hb1.lt hr
   have or_b16_b7 : b16 < b7 := nLL hb16.lt hr
   have or_hrw_b7 := (fun (x : Nat) (hx : x < i + 1) => nLL (hrw x hx).lt hr)
   have lo7 := nLT (Bel.size hB) hr
   replace hB := hB.tr0 hs
   replace hb1 := hb1.tr0 hs
   replace hb16 := hb16.tr0 hs
   replace hrw := fun x hx => (hrw x hx).tr0 hs
   clear hs
   clear hr
   refine wl_stW hb7 rfl rfl sz30 rfl oneA (fun w8 hq hs => ?_)
   replace hB := hB.tr1 hs lo7
   replace hb1 := hb1.tr1 hs om
   replace hb16 := hb16.tr1 hs om
   replace hrw := fun x hx => (hrw x hx).tr1 hs (by first | (have := or_hrw_b7 x hx; omega) | exact fun h => absurd (blk_type (h ▸ hrw x hx) hb7) dE)
   clear hs
   replace hb7 := hq
   refine x_nil (e_S ?_)
   rw [ht] at hb7
   have hbs := hrw i (Nat.lt_succ_self i)
   have hrs : ∀ x, x < i + 1 → x ≠ i → Blk w8 (r x) 4 (row gr.length (fun y => .bool (R3 x y))) := fun x hx _ => hrw x hx
   have q1 := hrl i (Nat.lt_succ_self i)
   have q2 := or_hrw_b7 i (Nat.lt_succ_self i)
   refine c_tail 7 kR kR (fun w9 hs => ?_)
   replace hB := hB.tr0 hs
   replace hb1 := hb1.tr0 hs
   replace hb16 := hb16.tr0 hs
   replace hb7 := hb7.tr0 hs
   replace hbs := hbs.tr0 hs
   replace hrs := fun x hx hne => (hrs x hx hne).tr0 hs
   clear hs
   refine ws (r_mv (v := .slice _ _ _) rfl) (ws (r_mv (v := .int _ _) rfl) (ws (r_ia (i := i) U81 sz82_NCir rfl rfl om rfl) (ws (r_ld1 (v := .slice _ _ _) U82 rfl rfl (by have h := hb16.cell (row_get hil); rw [rowW_at (Nat.lt_succ_self i)] at h; exact h)) (ws (r_fa U30 sz3_GLoose dE rfl rfl rfl) (ws (r_ld1 (v := .int _ _) U3 rfl rfl (hb7.cell rfl)) ?_)))))
   refine ws (r_ia (i := t) U82 sz4_GLoose rfl rfl htl rfl) (s_tail ?_)
   refine wl_st1 (v := .bool _) hbs rfl rfl sz4_GLoose (by rw [row_size]; omega) rfl row_set (fun w10 hq hs => ?_)
   replace hB := hB.tr1 hs om
   replace hb1 := hb1.tr1 hs om
   replace hb16 := hb16.tr1 hs om
   replace hb7 := hb7.tr1 hs om
   replace hrs := fun x hx hne => (hrs x hx hne).tr1 hs (fun h => hne (hri x i hx (Nat.lt_succ_self i) h))
   clear hs
   replace hbs := hq
   replace hbs : Blk w10 (r i) 4 (row gr.length (fun y => .bool ((fun a b => if a = i ∧ b = t then true else R3 a b) i y))) := by
     rw [row_congr (g' := fun y => .bool ((fun a b => if a = i ∧ b = t then true else R3 a b) i y)) (fun y _ => by by_cases e : y = t <;> simp [e])] at hbs
     exact hbs
   have hrw : ∀ x, x < i + 1 → Blk w10 (r x) 4 (row gr.length (fun y => .bool ((fun a b => if a = i ∧ b = t then true else R3 a b) x y))) := fun x hx => by
     by_cases e : x = i
     · subst e; exact hbs
     · rw [row_congr (g' := fun y => .bool (R3 x y)) (fun y _ => by simp [e])]
       exact hrs x hx e
   refine x_nil (e_B (e_S (c_region (wl (r_add rfl rfl rfl om) (wmI rfl ?_)))))
   refine x_nil (e_LS ((gr[i]'hil).ln.length - (j + 1)) om agA ?_)
   exact ⟨j + 1, _, by omega, rfl, rfl, hB, hb1, hb16, hrw, hW3.put (succ_mem hil hjl ht) (take_succN hil hjl ht)⟩
  have hjx : j = (gr[i]'hil).ln.length := by omega
  have hfin : (succN gr i).take j = succN gr i := List.take_of_length_le (by simp [succN, nd_eq hil, hjx])
  refine c_exit (e_Sx (e_LSx (e_Bx (e_B (e_S ?_)))))
  refine c_region (wl (r_add rfl rfl rfl om) (wmI rfl (x_nil (e_LS (gr.length - (i + 1)) om agA ?_))))
  exact ⟨i + 1, r, R3, by omega, rfl, rfl, hB, hb1, hb16, hrw, hrl, hri, hW3.row hfin⟩
 have hie : i = gr.length := by omega
 rw [hie] at hb16 hrw hrl hri hW
 rw [row_congr (g' := fun x => .slice (some ⟨r x, 0, none⟩) gr.length gr.length) (fun x hx => rowW_at hx)] at hb16
 have hWs := hW.end_
 refine c_exit (e_Sx (e_LSx (e_Bx (e_S (c_seq ?_)))))
 refine c_seq (c_region (wmI rfl (wmI rfl (x_nil (e_S ?_)))))
 refine c_block ?_
 refine c_loopS [8, 9, 10, 47, 48, 49, 50, 51, 52, 53, 54, 55, 56, 57, 58, 59, 60, 61, 62, 63, 64, 65, 66, 67, 68, 69, 70, 71, 72, 73, 74, 75, 76, 77, 78, 79, 80, 81, 82, 83, 84, 85, 86, 87, 88, 89, 90, 91] (fun m g w' => ∃ (k : Nat) (R : Nat → Nat → Bool), k ≤ gr.length ∧ m = gr.length - k ∧ g 47 = .int .i64 k ∧ Bel w w' ∧ Blk w' b16 82 (row gr.length (fun x => .slice (some ⟨r x, 0, none⟩) gr.length gr.length)) ∧ (∀ x, x < gr.length → Blk w' (r x) 4 (row gr.length (fun y => .bool (R x y)))) ∧ WrS gr R k 0 0) (gr.length) ?_ (fun m g14 w11 hI => ?_)
 ·
  exact ⟨0, R, Nat.zero_le _, rfl, rfl, hB, hb16, hrw, hWs⟩
 obtain ⟨k, R, hkk, hmk, h47, hB, hb16, hrw, hWs⟩ := hI
 refine c_know 47 (.int .i64 k) h47 nu (c_seq (c_region (wl (r_lss rfl rfl) (x_nil (e_S ?_)))))
 refine c_seq ?_
 refine c_ifd rfl (fun c48 => ?_) (fun c48 => ?_)
 ·
  have hkl : k < gr.length := by omega
  refine c_skip (e_S (c_seq (c_block (c_seq (c_region ?_)))))
  refine wmI rfl (waI rfl (x_nil (e_S (c_seq (c_region ?_)))))
  refine wmI rfl (wmI rfl (x_nil (e_S (c_block ?_))))
  refine c_loopS [9, 10, 51, 52, 53, 54, 55, 56, 57, 58, 59, 60, 61, 62, 63, 64, 65, 66, 67, 68, 69, 70, 71, 72, 73, 74, 75, 76, 77, 78, 79, 80, 81, 82, 83, 84, 85, 86, 87, 88, 89, 90] (fun m g w' => ∃ (i : Nat) (R : Nat → Nat → Bool), i ≤ gr.length ∧ m = gr.length - i ∧ g 51 = .int .i64 i ∧ Bel w w' ∧ Blk w' b16 82 (row gr.length (fun x => .slice (some ⟨r x, 0, none⟩) gr.length gr.length)) ∧ (∀ x, x < gr.length → Blk w' (r x) 4 (row gr.length (fun y => .bool (R x y)))) ∧ WrS gr R k i 0) (gr.length) ?_ (fun m g17 w12 hI => ?_)
  ·
   exact ⟨0, R, Nat.zero_le _, rfl, rfl, hB, hb16, hrw, hWs⟩
  obtain ⟨i, R, hi, hmi, h51, hB, hb16, hrw, hWs⟩ := hI
  refine c_know 51 (.int .i64 i) h51 nu (c_seq (c_region (wl (r_lss rfl rfl) (x_nil (e_S ?_)))))
  refine c_seq ?_
  refine c_ifd rfl (fun c52 => ?_) (fun c52 => ?_)
  ·
   have hil : i < gr.length := by omega
   refine c_skip (e_S (c_seq (c_block (c_seq (c_region ?_)))))
   refine wmI rfl (waI rfl (x_nil (e_S (c_seq (c_region ?_)))))
   refine wmI rfl (wmI rfl (x_nil (e_S (c_block ?_))))
   refine c_loopS [10, 55, 56, 57, 58, 59, 60, 61, 62, 63, 64, 65, 66, 67, 68, 69, 70, 71, 72, 73, 74, 75, 76, 77, 78, 79, 80, 81, 82, 83, 84, 85, 86, 87, 88, 89] (fun m g w' => ∃ (j : Nat) (R : Nat → Nat → Bool), j ≤ gr.length ∧ m = gr.length - j ∧ g 55 = .int .i64 j ∧ Bel w w' ∧ Blk w' b16 82 (row gr.length (fun x => .slice (some ⟨r x, 0, none⟩) gr.length gr.length)) ∧ (∀ x, x < gr.length → Blk w' (r x) 4 (row gr.length (fun y => .bool (R x y)))) ∧ WrS gr R k i j) (gr.length) ?_ (fun m g20 w13 hI => ?_)
   ·
    exact ⟨0, R, Nat.zero_le _, rfl, rfl, hB, hb16, hrw, hWs⟩
   obtain ⟨j, R, hj, hmj, h55, hB, hb16, hrw, hWs⟩ := hI
   refine c_know 55 (.int .i64 j) h55 nu (c_seq (c_region (wl (r_lss rfl rfl) (x_nil (e_S ?_)))))
   refine c_seq ?_
   refine c_ifd rfl (fun c56 => ?_) (fun c56 => ?_)
   ·
    have hjl : j < gr.length := by omega
    refine c_skip (e_S (c_seq (c_block (c_seq (c_region ?_)))))
    refine wmI rfl (waI rfl (x_nil (e_S ?_)))
    have hbs := hrw i hil
    have hrs : ∀ x, x < gr.length → x ≠ i → Blk w13 (r x) 4 (row gr.length (fun y => .bool (R x y))) := fun x hx _ => hrw x hx
    have q1 := hrl i hil
    refine c_tail 31 kR kR (fun w14 hs => ?_)
    replace hB := hB.tr0 hs
    replace hb16 := hb16.tr0 hs
    replace hbs := hbs.tr0 hs
    replace hrs := fun x hx hne => (hrs x hx hne).tr0 hs
    clear hs
    refine ws (r_mv (v := .slice _ _ _) rfl) (ws (r_mv (v := .int _ _) rfl) (ws (r_ia (i := i) U81 sz82_NCir rfl rfl hil rfl) (ws (r_ld1 (v := .slice _ _ _) U82 rfl rfl (hb16.cell (row_get hil))) (ws (r_mv (v := .int _ _) rfl) (ws (r_mv (v := .slice _ _ _) rfl) ?_)))))
    refine ws (r_mv (v := .int _ _) rfl) (ws (r_ia (i := i) U81 sz82_NCir rfl rfl hil rfl) (ws (r_ld1 (v := .slice _ _ _) U82 rfl rfl (hb16.cell (row_get hil))) (ws (r_mv (v := .int _ _) rfl) (ws (r_ia (i := j) U82 sz4_GLoose rfl rfl hjl rfl) (ws (r_ld1 (v := .bool _) U4 rfl rfl (hbs.cell (row_get hjl))) ?_)))))
    refine ws (r_mv (v := .bool _) rfl) ?_
    refine ws_casesb 70 rfl (fun g70 => ?_) (fun g70 => ?_)
    ·
     refine wsgn 70 rfl rfl rfl (wsgn 70 rfl rfl rfl (wsgn 70 rfl rfl rfl (wsgn 70 rfl rfl rfl (wsgn 70 rfl rfl rfl (wsgn 70 rfl rfl rfl ?_)))))
     refine wsgn 70 rfl rfl rfl (wsgn 70 rfl rfl rfl (wsgu 78 rfl rfl (wsgu 78 rfl rfl (wsgu 78 rfl rfl (wsgu 78 rfl rfl ?_)))))
     refine wsgu 78 rfl rfl (wsgu 78 rfl rfl (wsgu 78 rfl rfl (wsgn 70 rfl rfl rfl (ws (r_pt (v := .bool _) rfl rfl) (ws (r_ia (i := j) U82 sz4_GLoose rfl rfl hjl rfl) ?_)))))
     refine s_tail ?_
     refine wl_st1 (v := .bool _) hbs rfl rfl sz4_GLoose (by rw [row_size]; omega) rfl row_set (fun w15 hq hs => ?_)
     replace hB := hB.tr1 hs om
     replace hb16 := hb16.tr1 hs om
     replace hrs := fun x hx hne => (hrs x hx hne).tr1 hs (fun h => hne (hri x i hx hil h))
     clear hs
     replace hbs := hq
     replace hbs : Blk w15 (r i) 4 (row gr.length (fun y => .bool ((fun a b => if a = i ∧ b = j then (R i j || R i k && R k j) else R a b) i y))) := by
       rw [row_congr (g' := fun y => .bool ((fun a b => if a = i ∧ b = j then (R i j || R i k && R k j) else R a b) i y)) (fun y _ => by
         by_cases e : y = j
         · first
           | simp [e, g70, g78]
           | simp [e, g70]
         · simp [e])] at hbs
       exact hbs
     have hrw : ∀ x, x < gr.length → Blk w15 (r x) 4 (row gr.length (fun y => .bool ((fun a b => if a = i ∧ b = j then (R i j || R i k && R k j) else R a b) x y))) := fun x hx => by
       by_cases e : x = i
       · subst e; exact hbs
       · rw [row_congr (g' := fun y => .bool (R x y)) (fun y _ => by simp [e])]
         exact hrs x hx e
     refine x_nil (e_B (e_S (c_region (wl (r_add rfl rfl rfl om) (wmI rfl ?_)))))
     refine x_nil (e_LS (gr.length - (j + 1)) om agA ?_)
     exact ⟨j + 1, _, by omega, rfl, rfl, hB, hb16, hrw, hWs.put hkl⟩
    refine wsgy 70 rfl rfl (r_mv (v := .slice _ _ _) rfl) (wsgy 70 rfl rfl (r_mv (v := .int _ _) rfl) (wsgy 70 rfl rfl (r_ia (i := i) U81 sz82_NCir rfl rfl hil rfl) (wsgy 70 rfl rfl (r_ld1 (v := .slice _ _ _) U82 rfl rfl (hb16.cell (row_get hil))) (wsgy 70 rfl rfl (r_mv (v := .int _ _) rfl) (wsgy 70 rfl rfl (r_ia (i := k) U82 sz4_GLoose rfl rfl hkl rfl) ?_)))))
    refine wsgy 70 rfl rfl (r_ld1 (v := .bool _) U4 rfl rfl (hbs.cell (row_get hkl))) (wsgy 70 rfl rfl (r_mv (v := .bool _) rfl) ?_)
    refine ws_casesb 78 rfl (fun g78 => ?_) (fun g78 => ?_)
    ·
     refine wsgy 78 rfl rfl (r_mv (v := .slice _ _ _) rfl) (wsgy 78 rfl rfl (r_mv (v := .int _ _) rfl) (wsgy 78 rfl rfl (r_ia (i := k) U81 sz82_NCir rfl rfl hkl rfl) (wsgy 78 rfl rfl (r_ld1 (v := .slice _ _ _) U82 rfl rfl (hb16.cell (row_get hkl))) (wsgy 78 rfl rfl (r_mv (v := .int _ _) rfl) (wsgy 78 rfl rfl (r_ia (i := j) U82 sz4_GLoose rfl rfl hjl rfl) ?_)))))
     refine wsgy 78 rfl rfl (r_ld1 (v := .bool _) U4 rfl rfl (by by_cases e : k = i <;> first | (subst e; exact hbs.cell (row_get hjl)) | exact (hrs k hkl e).cell (row_get hjl))) (wsgy 70 rfl rfl (r_pt (v := .bool _) rfl rfl) (ws (r_pf (v := .bool _) rfl rfl) (ws (r_ia (i := j) U82 sz4_GLoose rfl rfl hjl rfl) (s_tail ?_))))
     refine wl_st1 (v := .bool _) hbs rfl rfl sz4_GLoose (by rw [row_size]; omega) rfl row_set (fun w16 hq hs => ?_)
     replace hB := hB.tr1 hs om
     replace hb16 := hb16.tr1 hs om
     replace hrs := fun x hx hne => (hrs x hx hne).tr1 hs (fun h => hne (hri x i hx hil h))
     clear hs
     replace hbs := hq
     replace hbs : Blk w16 (r i) 4 (row gr.length (fun y => .bool ((fun a b => if a = i ∧ b = j then (R i j || R i k && R k j) else R a b) i y))) := by
       rw [row_congr (g' := fun y => .bool ((fun a b => if a = i ∧ b = j then (R i j || R i k && R k j) else R a b) i y)) (fun y _ => by
         by_cases e : y = j
         · first
           | simp [e, g70, g78]
           | simp [e, g70]
         · simp [e])] at hbs
       exact hbs
     have hrw : ∀ x, x < gr.length → Blk w16 (r x) 4 (row gr.length (fun y => .bool ((fun a b => if a = i ∧ b = j then (R i j || R i k && R k j) else R a b) x y))) := fun x hx => by
       by_cases e : x = i
       · subst e; exact hbs
       · rw [row_congr (g' := fun y => .bool (R x y)) (fun y _ => by simp [e])]
         exact hrs x hx e
     refine x_nil (e_B (e_S (c_region (wl (r_add rfl rfl rfl om) (wmI rfl ?_)))))
     refine x_nil (e_LS (gr.length - (j + 1)) om agA ?_)
     exact ⟨j + 1, _, by omega, rfl, rfl, hB, hb16, hrw, hWs.put hkl⟩
    refine wsgn 78 rfl rfl rfl (wsgn 78 rfl rfl rfl (wsgn 78 rfl rfl rfl (wsgn 78 rfl rfl rfl (wsgn 78 rfl rfl rfl (wsgn 78 rfl rfl rfl ?_)))))
    refine wsgn 78 rfl rfl rfl (wsgy 70 rfl rfl (r_pf (v := .bool _) rfl rfl) (ws (r_pf (v := .bool _) rfl rfl) (ws (r_ia (i := j) U82 sz4_GLoose rfl rfl hjl rfl) (s_tail ?_))))
    refine wl_st1 (v := .bool _) hbs rfl rfl sz4_GLoose (by rw [row_size]; omega) rfl row_set (fun w17 hq hs => ?_)
    replace hB := hB.tr1 hs om
    replace hb16 := hb16.tr1 hs om
    replace hrs := fun x hx hne => (hrs x hx hne).tr1 hs (fun h => hne (hri x i hx hil h))
    clear hs
    replace hbs := hq
    replace hbs : Blk w17 (r i) 4 (row gr.length (fun y => .bool ((fun a b => if a = i ∧ b = j then (R i j || R i k && R k j) else R a b) i y))) := by
      rw [row_congr (g' := fun y => .bool ((fun a b => if a = i ∧ b = j then (R i j || R i k && R k j) else R a b) i y)) (fun y _ => by
        by_cases e : y = j
        · first
          | simp [e, g70, g78]
          | simp [e, g70]
        · simp [e])] at hbs
      exact hbs
    have hrw : ∀ x, x < gr.length → Blk w17 (r x) 4 (row gr.length (fun y => .bool ((fun a b => if a = i ∧ b = j then (R i j || R i k && R k j) else R a b) x y))) := fun x hx => by
      by_cases e : x = i
      · subst e; exact hbs
      · rw [row_congr (g' := fun y => .bool (R x y)) (fun y _ => by simp [e])]
        exact hrs x hx e
    refine x_nil (e_B (e_S (c_region (wl (r_add rfl rfl rfl om) (wmI rfl ?_)))))
    refine x_nil (e_LS (gr.length - (j + 1)) om agA ?_)
    exact ⟨j + 1, _, by omega, rfl, rfl, hB, hb16, hrw, hWs.put hkl⟩
   have hje : j = gr.length := by omega
   rw [hje] at hWs
   refine c_exit (e_Sx (e_LSx (e_Bx (e_B (e_S ?_)))))
   refine c_region (wl (r_add rfl rfl rfl om) (wmI rfl (x_nil (e_LS (gr.length - (i + 1)) om agA ?_))))
   exact ⟨i + 1, R, by omega, rfl, rfl, hB, hb16, hrw, hWs.row⟩
  have hie : i = gr.length := by omega
  rw [hie] at hWs
  refine c_exit (e_Sx (e_LSx (e_Bx (e_B (e_S ?_)))))
  refine c_region (wl (r_add rfl rfl rfl om) (wmI rfl (x_nil (e_LS (gr.length - (k + 1)) om agA ?_))))
  exact ⟨k + 1, R, by omega, rfl, rfl, hB, hb16, hrw, hWs.stage⟩
 have hke : k = gr.length := by omega
 rw [hke] at hWs
 refine c_exit (e_Sx (e_LSx (e_Bx (e_S (c_seq ?_)))))
 refine c_seq (c_region (wmI rfl (wmI rfl (x_nil (e_S ?_)))))
 refine c_block ?_
 refine c_loopS [2, 11, 93, 94, 95, 96, 97, 98, 99, 100, 101, 102, 103] (fun m g w' => ∃ x : Nat, x ≤ gr.length ∧ m = gr.length - x ∧ g 93 = .int .i64 x ∧ w11 = w' ∧ (∀ y, y < x → R y y = false)) (gr.length) ?_ (fun m g27 w18 hI => ?_)
 ·
  exact ⟨0, Nat.zero_le _, rfl, rfl, rfl, fun y hy => absurd hy (Nat.not_lt_zero _)⟩
 obtain ⟨x, hx, hmx, h93, rfl, hno⟩ := hI
 refine c_know 93 (.int .i64 x) h93 nu (c_seq (c_region (wl (r_lss rfl rfl) (x_nil (e_S ?_)))))
 refine c_seq ?_
 refine c_ifd rfl (fun c94 => ?_) (fun c94 => ?_)
 ·
  have hxl : x < gr.length := by omega
  refine c_skip (e_S (c_seq (c_block (c_seq (c_region ?_)))))
  refine wmI rfl (waI rfl (x_nil (e_S (c_seq (c_region ?_)))))
  refine wmS rfl (wmI rfl (wl (r_ia (i := x) U81 sz82_NCir rfl rfl hxl rfl) (wl (r_ld1 (v := .slice _ _ _) U82 rfl rfl (hb16.cell (row_get hxl))) (wmI rfl (wl (r_ia (i := x) U82 sz4_GLoose rfl rfl hxl rfl) ?_)))))
  refine wl (r_ld1 (v := .bool _) U4 rfl rfl ((hrw x hxl).cell (row_get hxl))) (x_nil (e_S ?_))
  refine c_if rfl (fun c102 => ?_) (fun c102 => ?_)
  ·
   refine c_seq (c_region (waB rfl (x_nil (e_S (c_ret ?_)))))
   refine e_Br (e_Sr (e_LSr (e_Br (e_Sr (fin1 (.inl rfl) rfl rfl ?_)))))
   exact ⟨ret_bool (cycB_yes (hWs.yes c102)).symm, hB⟩
  refine c_skip (e_B (e_S (c_region (wl (r_add rfl rfl rfl om) (wmI rfl ?_)))))
  refine x_nil (e_LS (gr.length - (x + 1)) om agA ?_)
  exact ⟨x + 1, by omega, rfl, rfl, rfl, fun y hy => by
    by_cases e : y = x
    · subst e; exact c102
    · exact hno y om⟩
 have hxe : x = gr.length := by omega
 refine c_exit (e_Sx (e_LSx (e_Bx (e_S (c_seq ?_)))))
 refine c_region (waB rfl (x_nil (e_S (c_ret (fin1 (.inl rfl) rfl rfl ?_)))))
 exact ⟨ret_bool (cycB_no (hWs.no (fun y hy => hno y om))).symm, hB⟩
end Go.Proofs.YtegngekpmpdngaaDoor
namespace Go.Proofs.YtegngekpmpdngaaDoor
open Go.RowKit
theorem sz43_GVisit : (Tryd.prog.info? 43).map (·.size) = some 1 := by kernel_rfl
end Go.Proofs.YtegngekpmpdngaaDoor
namespace Go.Proofs.YtegngekpmpdngaaDoor
open Go.RowKit
theorem ze28 : (Tryd.prog.info? 28).map (·.zero) = some (some (.agg #[.slice none 0 0])) := by kernel_rfl
end Go.Proofs.YtegngekpmpdngaaDoor
namespace Go.Proofs.YtegngekpmpdngaaDoor
open Go.RowKit
theorem FrSame.then {B B0 : Nat} {w0 w1 w2 : World} (h : FrSame B w0 w1) (k : FrSame B0 w1 w2) (hb : B0 ≤ B) : FrSame B w0 w2 :=
  ⟨nLT h.size k.size, fun i hi hl => (k.blk i (nLT hb hi) (nLL hl h.size)).trans (h.blk i hi hl)⟩
end Go.Proofs.YtegngekpmpdngaaDoor
namespace Go.Proofs.YtegngekpmpdngaaDoor
open Go.RowKit
theorem links_of_blk {w : World} {b t : Nat} {cs : Array Value} (xs : List (Int × Int)) (h : Blk w b t cs) (he : cs = (lnV xs).toArray) (hl : xs.length ≤ maxI) : LinksIn w (some ⟨b, 0, none⟩) xs := by
  subst he
  refine ⟨hl, fun _ => ⟨b, 0, rfl, h.lt, fun k hk j v hj => ?_⟩⟩
  have h2 := lnV_get xs k hk
  match j, hj with
  | 0, hj => cases hj; exact h.cell (by simpa using h2.1)
  | 1, hj => cases hj; exact h.cell (by simpa using h2.2)
  | _ + 2, hj => cases hj
inductive NdVs (w : World) : List Nd → List Value → Prop
  | nil : NdVs w [] []
  | cons {x : Nd} {l : List Nd} {vs : List Value} {A : Option Addr} {c : Nat} (h : LinksIn w A x.ln) (r : NdVs w l vs) : NdVs w (x :: l) (.int .i64 x.ty :: .slice A x.ln.length c :: vs)
theorem NdVs.get {w : World} {l : List Nd} {vs : List Value} (h : NdVs w l vs) : ∀ k (hk : k < l.length), ∃ A c, vs[k * 2]? = some (.int .i64 (l[k]).ty) ∧ vs[k * 2 + 1]? = some (.slice A (l[k]).ln.length c) ∧ LinksIn w A (l[k]).ln := by
  induction h with
  | nil => intro k hk; simp at hk
  | cons h r ih =>
    intro k hk
    match k, hk with
    | 0, _ => exact ⟨_, _, rfl, rfl, h⟩
    | k + 1, hk =>
      obtain ⟨A, c, h1, h2, h3⟩ := ih k (by simpa using hk)
      refine ⟨A, c, ?_, ?_, h3⟩
      · rw [show (k + 1) * 2 = k * 2 + 1 + 1 from by omega]; simpa using h1
      · rw [show (k + 1) * 2 + 1 = k * 2 + 1 + 1 + 1 from by omega]; simpa using h2
theorem nodes_of_blk {w : World} {b t : Nat} {l : List Nd} {vs : List Value} (h : Blk w b t vs.toArray) (hv : NdVs w l vs) (hl : l.length ≤ maxI) : NodesIn w (some ⟨b, 0, none⟩) l :=
  ⟨hl, fun _ => ⟨b, 0, rfl, h.lt, fun k hk => by
    obtain ⟨A, c, h1, h2, h3⟩ := hv.get k hk
    refine ⟨A, c, fun j v hj => ?_, h3⟩
    match j, hj with
    | 0, hj => cases hj; exact h.cell (by simpa using h1)
    | 1, hj => cases hj; exact h.cell (by simpa using h2)
    | _ + 2, hj => cases hj⟩⟩
end Go.Proofs.YtegngekpmpdngaaDoor
namespace Go.Proofs.YtegngekpmpdngaaDoor
open Go.RowKit
def trN (σ : Nat → Nat) (x : Nd) : Nd := ⟨x.ty, x.ln.map (fun y => (y.1, (σ y.2.toNat : Int)))⟩
theorem unr_ex (g : List Nd) : ∃ r, UnrIs g r := by
  have h : ∀ n : Nat, (∀ i, i < n → Rch g i) ∨ ∃ k, k < n ∧ ¬ Rch g k ∧ ∀ i, i < k → Rch g i := by
    intro n
    induction n with
    | zero => exact .inl (fun i hi => absurd hi om)
    | succ n ih =>
      rcases ih with h | ⟨k, h1, h2, h3⟩
      · by_cases hn : Rch g n
        · refine .inl (fun i hi => ?_)
          by_cases e : i = n
          · rw [e]; exact hn
          · exact h i om
        · exact .inr ⟨n, by omega, hn, h⟩
      · exact .inr ⟨k, by omega, h2, h3⟩
  rcases h g.length with h | ⟨k, h1, h2, h3⟩
  · exact ⟨-1, .inl ⟨rfl, h⟩⟩
  · exact ⟨k, .inr ⟨k, rfl, h1, h2, h3⟩⟩
theorem GV.rch {l : List Ty} {fs : List Ft} {g : List Nd} (h : GV l fs g) : ∀ i, i < g.length → Rch g i := by
  obtain ⟨r, hr⟩ := unr_ex g
  have hu := h.u
  rw [← unr_is hr] at hu
  rcases hr with ⟨_, h3⟩ | ⟨k, h3, _⟩
  · exact h3
  · exact absurd (show 0 ≤ r by omega) hu
structure Turn (g gt : List Nd) (σ ρ : Nat → Nat) : Prop where
  len : gt.length = g.length
  z : σ 0 = 0
  lt : ∀ i, i < g.length → σ i < g.length
  rl : ∀ j, j < g.length → ρ j < g.length ∧ σ (ρ j) = j
  lr : ∀ i, i < g.length → ρ (σ i) = i
  nd : ∀ i, i < g.length → nd gt (σ i) = trN σ (nd g i)
section turn
variable {g gt : List Nd} {σ ρ : Nat → Nat}
theorem Turn.inj (t : Turn g gt σ ρ) {x y : Nat} (hx : x < g.length) (hy : y < g.length) (h : σ x = σ y) : x = y := by rw [← t.lr x hx, ← t.lr y hy, h]
theorem Turn.succ (t : Turn g gt σ ρ) {i : Nat} (hi : i < g.length) : succN gt (σ i) = (succN g i).map σ := by
  unfold succN; rw [t.nd i hi]; simp [trN]
theorem Turn.dl (t : Turn g gt σ ρ) (hr : ∀ i, i < g.length → ∀ y ∈ succN g i, y < g.length) {is a b : List Nat} (h : DL g is a b) : (∀ i ∈ is, i < g.length) → (∀ x ∈ b, x < g.length) → DL gt (is.map σ) (a.map σ) (b.map σ) := by
  induction h with
  | nil => exact fun _ _ => .nil
  | old h _ ih => exact fun hi hb => .old (List.mem_map_of_mem h) (ih (fun i h => hi i (List.mem_cons_of_mem _ h)) hb)
  | new h s u ihs iht =>
    intro hi hb
    rename_i i is o o1 o'
    have hil := hi i (List.mem_cons_self ..)
    have ho1 : ∀ x ∈ o1, x < g.length := fun x hx => hb x (u.sub _ hx)
    refine .new (fun hm => ?_) ?_ (iht (fun i h => hi i (List.mem_cons_of_mem _ h)) hb)
    · obtain ⟨y, hy, e⟩ := List.mem_map.1 hm
      have hyl := ho1 y (s.sub _ (List.mem_append_left _ hy))
      exact h (t.inj hyl hil e ▸ hy)
    · have := ihs (hr i hil) ho1
      rw [List.map_append] at this
      rw [t.succ hil]
      exact this
theorem Turn.rch (t : Turn g gt σ ρ) (hr : ∀ i, i < g.length → ∀ y ∈ succN g i, y < g.length) (hp : 0 < g.length) {i : Nat} (h : Rch g i) : i < g.length ∧ Rch gt (σ i) := by
  induction h with
  | zero => exact ⟨hp, by rw [t.z]; exact .zero⟩
  | step h hi hx ih =>
    rename_i i x
    refine ⟨hr i hi _ (by simp only [succN, nd_eq hi, List.mem_map]; exact ⟨x, hx, rfl⟩), ?_⟩
    have hlt : σ i < gt.length := by rw [t.len]; exact t.lt i hi
    have e := t.nd i hi
    rw [nd_eq hlt, nd_eq hi] at e
    have := Rch.step (x := (x.1, ((σ x.2.toNat : Nat) : Int))) ih.2 hlt (by rw [e]; exact List.mem_map.2 ⟨x, hx, rfl⟩)
    simpa using this
end turn
end Go.Proofs.YtegngekpmpdngaaDoor
namespace Go.Proofs.YtegngekpmpdngaaDoor
open Go.RowKit
theorem fn35 : callable Tryd.prog 35 = true := by kernel_rfl
theorem sz43_NCyc : (Tryd.prog.info? 43).map (·.size) = some 1 := by kernel_rfl
theorem sz75 : (Tryd.prog.info? 75).map (·.size) = some 1 := by kernel_rfl
theorem ze43_NCyc : (Tryd.prog.info? 43).map (·.zero) = some (some (.slice none 0 0)) := by kernel_rfl
theorem ze75 : (Tryd.prog.info? 75).map (·.zero) = some (some (.nilFunc)) := by kernel_rfl
set_option maxHeartbeats 2000000 in
theorem cyclic_any (A B G : Option Addr) (c d cg : Nat) (l : List Ty) (fs : List Ft) (gr : List Nd) (w : World) (hTab : TabIn w) (hT : TypesIn w A l) (hF : FeatsIn w B fs) (hG : NodesIn w G gr) : Calls Tryd.prog 9 #[.agg #[.slice A l.length c, .slice B fs.length d], .agg #[.slice G gr.length cg]] w fun e w' => e = .returned (.tuple #[.bool (cyG l fs gr), .agg #[.int .i64 (graphF l fs gr).1, .int .i64 (graphF l fs gr).2]]) ∧ Bel w w' := by
 refine enter Tryd.func9 Tryd.ntmps9 rfl (Nat.le_of_ble_eq_true rfl) ?_
 have hB : Bel w w := Below.refl _ _
 refine c_seq (c_region ?_)
 refine wl_bx (v := .agg #[_, _]) (cs := #[_, _]) rfl rfl (fun b2 w1 hb2 hs hr => ?_)
 have lo2 := nLT (Bel.size hB) hr
 replace hB := hB.tr0 hs
 clear hs
 clear hr
 refine wl_bx (v := .agg #[_]) (cs := #[_]) rfl rfl (fun b3 w2 hb3 hs hr => ?_)
 have or_b2_b3 : b2 < b3 := nLL hb2.lt hr
 have lo3 := nLT (Bel.size hB) hr
 replace hB := hB.tr0 hs
 replace hb2 := hb2.tr0 hs
 clear hs
 clear hr
 refine waB rfl ?_
 refine wl_al (cs := #[.int .i64 0, .int .i64 0]) ze35_GLoose rfl (fun b5 w3 hb5 hs hr => ?_)
 have or_b2_b5 : b2 < b5 := nLL hb2.lt hr
 have or_b3_b5 : b3 < b5 := nLL hb3.lt hr
 have lo5 := nLT (Bel.size hB) hr
 replace hB := hB.tr0 hs
 replace hb2 := hb2.tr0 hs
 replace hb3 := hb3.tr0 hs
 clear hs
 clear hr
 refine x_nil (e_S (c_seq (c_seq (c_region (wl (r_ldS U25 rfl rfl hb2.range0 sz25) ?_)))))
 refine wl (r_ldS U28 rfl rfl hb3.range0 sz28) ?_
 refine wl_cl fn35 (gval_any A B G c d cg l fs gr _ (hTab.mono hB) (hT.mono hB) (hF.mono hB) (hG.mono hB)) rfl (fun e' w4 hr => ?_)
 obtain ⟨rfl, hs⟩ := hr
 replace hs := Same.of_bel hs
 replace hB := hB.tr0 hs
 replace hb2 := hb2.tr0 hs
 replace hb3 := hb3.tr0 hs
 replace hb5 := hb5.tr0 hs
 clear hs
 refine ⟨_, rfl, ?_⟩
 refine wl_al (cs := #[.int .i64 0, .int .i64 0]) ze35_GLoose rfl (fun b6 w5 hb6 hs hr => ?_)
 have or_b2_b6 : b2 < b6 := nLL hb2.lt hr
 have or_b3_b6 : b3 < b6 := nLL hb3.lt hr
 have or_b5_b6 : b5 < b6 := nLL hb5.lt hr
 have lo6 := nLT (Bel.size hB) hr
 replace hB := hB.tr0 hs
 replace hb2 := hb2.tr0 hs
 replace hb3 := hb3.tr0 hs
 replace hb5 := hb5.tr0 hs
 clear hs
 clear hr
 refine wl_stW hb6 rfl rfl sz35_GLoose rfl oneA (fun w6 hq hs => ?_)
 replace hB := hB.tr1 hs lo6
 replace hb2 := hb2.tr1 hs om
 replace hb3 := hb3.tr1 hs om
 replace hb5 := hb5.tr1 hs om
 clear hs
 replace hb6 := hq
 refine x_nil (e_S (c_seq (c_region (wl (r_fa U35 sz3_GLoose dE rfl rfl rfl) (wl (r_ld1 (v := .int _ _) U3 rfl rfl (hb6.cell rfl)) ?_)))))
 refine wl (r_neq rfl rfl) (x_nil (e_S ?_))
 refine c_ifd rfl (fun c14 => ?_) (fun c14 => ?_)
 ·
  refine c_seq ?_
  refine c_all #[false, false, false] kR (by rfl) (fun w7 hs => ?_)
  replace hB := hB.tr0 hs
  replace hb2 := hb2.tr0 hs
  replace hb3 := hb3.tr0 hs
  replace hb5 := hb5.tr0 hs
  replace hb6 := hb6.tr0 hs
  clear hs
  refine a_step [0, 1] kR rfl ⟨fun o hoq => ?_, fun o hoq => ?_, trivial⟩
  ·
   obtain rfl := sI hoq
   refine wl (r_ldS U35 rfl rfl hb6.range0 sz35_GLoose) (x_nil (e_A (listed' := #[true, false, false]) (by rfl) ?_))
   refine a_step [1] kR rfl ⟨fun o hoq => ?_, trivial⟩
   obtain rfl := sI hoq
   refine waB rfl (x_nil (e_A (listed' := #[true, true, false]) (by rfl) ?_))
   refine a_step [2] kR rfl ⟨fun o hoq => ?_, trivial⟩
   obtain rfl := sI hoq
   refine wl_stW hb5 rfl rfl sz35_GLoose rfl oneA (fun w8 hq hs => ?_)
   replace hB := hB.tr1 hs lo5
   replace hb2 := hb2.tr1 hs om
   replace hb3 := hb3.tr1 hs om
   replace hb6 := hb6.tr1 hs om
   clear hs
   replace hb5 := hq
   refine x_nil (e_A (listed' := #[true, true, true]) (by rfl) (a_end kR (e_S (c_ret (e_Sr ?_)))))
   refine fin2 (.inl rfl) rfl rfl (rr_cell U35 rfl rfl hb5.range0 sz35_GLoose) ?_
   exact ⟨ret_cy (cyG_no c14) rfl, hB⟩
  obtain rfl := sI hoq
  refine waB rfl (x_nil (e_A (listed' := #[false, true, false]) (by rfl) ?_))
  refine a_step [0] kR rfl ⟨fun o hoq => ?_, trivial⟩
  obtain rfl := sI hoq
  refine wl (r_ldS U35 rfl rfl hb6.range0 sz35_GLoose) (x_nil (e_A (listed' := #[true, true, false]) (by rfl) ?_))
  refine a_step [2] kR rfl ⟨fun o hoq => ?_, trivial⟩
  obtain rfl := sI hoq
  refine wl_stW hb5 rfl rfl sz35_GLoose rfl oneA (fun w9 hq hs => ?_)
  replace hB := hB.tr1 hs lo5
  replace hb2 := hb2.tr1 hs om
  replace hb3 := hb3.tr1 hs om
  replace hb6 := hb6.tr1 hs om
  clear hs
  replace hb5 := hq
  refine x_nil (e_A (listed' := #[true, true, true]) (by rfl) (a_end kR (e_S (c_ret (e_Sr ?_)))))
  refine fin2 (.inl rfl) rfl rfl (rr_cell U35 rfl rfl hb5.range0 sz35_GLoose) ?_
  exact ⟨ret_cy (cyG_no c14) rfl, hB⟩
 have h0 := Decidable.not_not.1 c14
 have hva := gv_of h0
 have h60 := hva.gok.le
 have hk2 := hva.gok.two
 refine c_skip (e_S (c_seq (c_region (wl (r_fa U28 sz26 dE rfl rfl rfl) (wl (r_ld1 (v := .slice _ _ _) U26 rfl rfl (hb3.cell rfl)) ?_)))))
 refine wl (r_len U26 rfl) ?_
 refine wl_mkR (m := gr.length) U43 in3 rfl rfl rfl om om (fun b19 w10 hb19 hs hr => ?_)
 have or_b2_b19 : b2 < b19 := nLL hb2.lt hr
 have or_b3_b19 : b3 < b19 := nLL hb3.lt hr
 have or_b5_b19 : b5 < b19 := nLL hb5.lt hr
 have or_b6_b19 : b6 < b19 := nLL hb6.lt hr
 have lo19 := nLT (Bel.size hB) hr
 replace hB := hB.tr0 hs
 replace hb2 := hb2.tr0 hs
 replace hb3 := hb3.tr0 hs
 replace hb5 := hb5.tr0 hs
 replace hb6 := hb6.tr0 hs
 clear hs
 clear hr
 refine wl_al (cs := #[.slice none 0 0]) ze43_NCyc rfl (fun b7 w11 hb7 hs hr => ?_)
 have or_b2_b7 : b2 < b7 := nLL hb2.lt hr
 have or_b3_b7 : b3 < b7 := nLL hb3.lt hr
 have or_b5_b7 : b5 < b7 := nLL hb5.lt hr
 have or_b6_b7 : b6 < b7 := nLL hb6.lt hr
 have or_b19_b7 : b19 < b7 := nLL hb19.lt hr
 have lo7 := nLT (Bel.size hB) hr
 replace hB := hB.tr0 hs
 replace hb2 := hb2.tr0 hs
 replace hb3 := hb3.tr0 hs
 replace hb5 := hb5.tr0 hs
 replace hb6 := hb6.tr0 hs
 replace hb19 := hb19.tr0 hs
 clear hs
 clear hr
 refine wl_st1 (v := .slice _ _ _) hb7 rfl rfl sz43_NCyc (by first | decide | simp) rfl rfl (fun w12 hq hs => ?_)
 replace hB := hB.tr1 hs lo7
 replace hb2 := hb2.tr1 hs om
 replace hb3 := hb3.tr1 hs om
 replace hb5 := hb5.tr1 hs om
 replace hb6 := hb6.tr1 hs om
 replace hb19 := hb19.tr1 hs om
 clear hs
 replace hb7 := hq
 refine x_nil (e_S (c_seq (c_region ?_)))
 refine wl_al (cs := #[.nilFunc]) ze75 rfl (fun b8 w13 hb8 hs hr => ?_)
 have or_b2_b8 : b2 < b8 := nLL hb2.lt hr
 have or_b3_b8 : b3 < b8 := nLL hb3.lt hr
 have or_b5_b8 : b5 < b8 := nLL hb5.lt hr
 have or_b6_b8 : b6 < b8 := nLL hb6.lt hr
 have or_b19_b8 : b19 < b8 := nLL hb19.lt hr
 have or_b7_b8 : b7 < b8 := nLL hb7.lt hr
 have lo8 := nLT (Bel.size hB) hr
 replace hB := hB.tr0 hs
 replace hb2 := hb2.tr0 hs
 replace hb3 := hb3.tr0 hs
 replace hb5 := hb5.tr0 hs
 replace hb6 := hb6.tr0 hs
 replace hb19 := hb19.tr0 hs
 replace hb7 := hb7.tr0 hs
 clear hs
 clear hr
 refine x_nil (e_S (c_seq ?_))
 replace hb19 : Blk w13 b19 3 (row gr.length (fun x => .int .i64 (((fun _ => 0) x : Nat) : Int))) := hb19
 refine c_region (wl (r_mf rfl) ?_)
 refine wl_st1 (v := .func _ _ _) hb8 rfl rfl sz75 (by first | decide | simp) rfl rfl (fun w14 hq hs => ?_)
 replace hB := hB.tr1 hs lo8
 replace hb2 := hb2.tr1 hs om
 replace hb3 := hb3.tr1 hs om
 replace hb5 := hb5.tr1 hs om
 replace hb6 := hb6.tr1 hs om
 replace hb19 := hb19.tr1 hs om
 replace hb7 := hb7.tr1 hs om
 clear hs
 replace hb8 := hq
 refine x_nil (e_S (c_seq ?_))
 obtain ⟨base, hbase⟩ : ∃ b, b = w14.heap.size := ⟨_, rfl⟩
 have hlo : w.heap.size ≤ base := by rw [hbase]; exact Bel.size hB
 have hbs : base ≤ w14.heap.size := Nat.le_of_eq hbase
 have lt5 : b5 < base := by rw [hbase]; exact hb5.lt
 have lt3 : b3 < base := by rw [hbase]; exact hb3.lt
 have lt7 : b7 < base := by rw [hbase]; exact hb7.lt
 have lt8 : b8 < base := by rw [hbase]; exact hb8.lt
 have lt19 : b19 < base := by rw [hbase]; exact hb19.lt
 refine c_region (wl (r_ld1 (v := .func _ _ _) Tryd.underlying75 rfl rfl (hb8.cell rfl)) ?_)
 refine wl_clv rfl fn36 (cvisit_any (w0 := w) (G := G) (cg := cg) (bS := b7) (bG := b3) (bV := b8) (bn := b19) (base := base) hG hk2 hlo lo7 lo3 lo8 lo19 lt7 lt3 lt8 lt19 om om om gr.length (fun _ => 0) _ 0 (lack_le _ _) hva.gok.pos (cs_start gr) (fun _ => Nat.zero_le _) hB hbs hb7 hb3 hb8 hb19) rfl rfl (fun e' w15 hr => ?_)
 obtain ⟨b22, rfl, ht22, k3, hf22, hb19n, hC⟩ := hr
 replace hB := hB.chg hC hlo (by simp [lo19])
 replace hb5 := hb5.chg hC lt5 (by have : b5 ≠ b19 := by omega
                                   simp [*])
 have hcy : cyG l fs gr = b22 := by
   rw [cyG_yes h0]
   cases b22 with
   | true => exact (cycB_yes (ht22 rfl)).symm
   | false => exact (cycB_no (cyc_no (hf22 rfl) hva.rch)).symm
 refine ⟨_, rfl, ?_⟩
 refine wl (r_bd (vs := #[]) (cs := #[.int .i64 0, .int .i64 0]) (by simp) kR) (waB rfl ?_)
 refine wl_stW hb5 rfl rfl sz35_GLoose rfl oneA (fun w16 hq hs => ?_)
 replace hB := hB.tr1 hs lo5
 clear hs
 replace hb5 := hq
 refine x_nil (e_S (c_ret (fin2 (.inl rfl) rfl rfl (rr_cell U35 rfl rfl hb5.range0 sz35_GLoose) ?_)))
 exact ⟨ret_cy hcy (gf_zzC h0), hB⟩
end Go.Proofs.YtegngekpmpdngaaDoor
