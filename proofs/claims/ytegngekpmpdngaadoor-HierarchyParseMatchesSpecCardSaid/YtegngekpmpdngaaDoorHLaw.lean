/- What these functions of the program compute, at every world: glosswright/glosswrightref3.Unmet. What these functions of the program compute, at every world: glosswright/glosswrightref3.HierarchyFault. Plain laws of the order of types: meets, joins, remainders. No program in sight. -/
import Derived.Test.YtegngekpmpdngaaDoorU
import Derived.Test.YtegngekpmpdngaaDoorValid
namespace Go.Proofs.YtegngekpmpdngaaDoor
open Go.RowKit
theorem meet_yes {l : List Ty} (h60 : l.length ≤ 60) {a b m c : Nat} (hm : m < l.length) (hcm : comm l a b m = true) (hl : ∀ i, i < m → comm l a b i = false) (hc : c < l.length) (hcc : comm l a b c = true) (hs : sub l c m = false) : (meet l a b).2.2 = true := by
  have h0 : commN l a b ≠ 0 := fun h => by
    have := mask_eq_zero.1 h m hm
    rw [hcm] at this; cases this
  have hz := ctz_mask h60 h0
  have he : Lib.ctz 64 (commN l a b) = m := by
    have h1 : ¬ Lib.ctz 64 (commN l a b) < m := fun h => by
      have := hl _ h
      rw [show comm l a b (Lib.ctz 64 (commN l a b)) = true from hz.2.1] at this; cases this
    have h2 : ¬ m < Lib.ctz 64 (commN l a b) := fun h => by
      have := hz.2.2 m h
      rw [hcm] at this; cases this
    omega
  have hd : downN l (Lib.ctz 64 (commN l a b)) ≠ commN l a b := fun h => by
    rw [he] at h
    have := mask_inj.1 h c hc
    rw [hs, hcc] at this; cases this
  simp only [meet, if_neg h0, if_pos hd]
theorem meet_none {l : List Ty} {a b : Nat} (h : ∀ i, i < l.length → comm l a b i = false) : (meet l a b).2.2 = false := by
  have h0 : commN l a b = 0 := mask_eq_zero.2 h
  simp only [meet, if_pos h0]
theorem meet_some {l : List Ty} (hv : VT l) (h60 : l.length ≤ 60) {a b m : Nat} (hm : m < l.length) (hcm : comm l a b m = true) (hl : ∀ i, i < m → comm l a b i = false) (hs : ∀ i, i < l.length → comm l a b i = true → sub l i m = true) : (meet l a b).2.2 = false := by
  have h0 : commN l a b ≠ 0 := fun h => by
    have := mask_eq_zero.1 h m hm
    rw [hcm] at this; cases this
  have hz := ctz_mask h60 h0
  have he : Lib.ctz 64 (commN l a b) = m := by
    have h1 : ¬ Lib.ctz 64 (commN l a b) < m := fun h => by
      have := hl _ h
      rw [show comm l a b (Lib.ctz 64 (commN l a b)) = true from hz.2.1] at this; cases this
    have h2 : ¬ m < Lib.ctz 64 (commN l a b) := fun h => by
      have := hz.2.2 m h
      rw [hcm] at this; cases this
    omega
  have hd : downN l (Lib.ctz 64 (commN l a b)) = commN l a b := by
    rw [he]
    refine mask_congr (fun i hi => ?_)
    cases h1 : sub l i m with
    | true =>
      simp only [comm, Bool.and_eq_true] at hcm
      simp [comm, sub_tr hv h1 hcm.1, sub_tr hv h1 hcm.2]
    | false =>
      cases h2 : comm l a b i with
      | false => rfl
      | true => rw [hs i hi h2] at h1; cases h1
  simp only [meet, if_neg h0, hd, ne_eq, not_true_eq_false, if_false]
inductive MS (l : List Ty) (a b c : Nat) (m : Int) : Prop
  | none (h : m = -1) (h0 : ∀ i, i < c → comm l a b i = false)
  | some (n : Nat) (h : m = n) (hn : n < c) (h1 : comm l a b n = true) (h2 : ∀ i, i < n → comm l a b i = false) (h3 : ∀ i, i < c → comm l a b i = true → sub l i n = true)
theorem MS.start (l : List Ty) (a b : Nat) : MS l a b 0 (-1) := .none rfl (fun i h => by omega)
theorem MS.skip {l : List Ty} {a b c : Nat} {m : Int} (h : MS l a b c m) (hc : comm l a b c = false) : MS l a b (c + 1) m := by
  cases h with
  | none h h0 => exact .none h (fun i hi => by
      by_cases e : i = c
      · subst e; exact hc
      · exact h0 i om)
  | some n h hn h1 h2 h3 => exact .some n h om h1 h2 (fun i hi hci => by
      by_cases e : i = c
      · subst e; rw [hc] at hci; cases hci
      · exact h3 i om hci)
theorem MS.first {l : List Ty} (hv : VT l) {a b c : Nat} {m : Int} (h : MS l a b c m) (hm : m < 0) (hc : comm l a b c = true) : MS l a b (c + 1) c := by
  cases h with
  | none h h0 => exact .some c rfl om hc h0 (fun i hi hci => by
      by_cases e : i = c
      · subst e; exact sub_refl hv _
      · rw [h0 i om] at hci; cases hci)
  | some n h => omega
theorem MS.pos {l : List Ty} {a b c : Nat} {m : Int} (h : MS l a b c m) (hm : ¬ m < 0) : ∃ n : Nat, m = n ∧ n < c ∧ comm l a b n = true ∧ (∀ i, i < n → comm l a b i = false) ∧ ∀ i, i < c → comm l a b i = true → sub l i n = true := by
  cases h with
  | none h => omega
  | some n h hn h1 h2 h3 => exact ⟨n, h, hn, h1, h2, h3⟩
theorem MS.end_ {l : List Ty} (hv : VT l) (h60 : l.length ≤ 60) {a b : Nat} {m : Int} (h : MS l a b l.length m) : (meet l a b).2.2 = false := by
  cases h with
  | none h h0 => exact meet_none h0
  | some n h hn h1 h2 h3 => exact meet_some hv h60 hn h1 h2 h3
def rowV (n : Nat) (r : Nat → Nat) (k i : Nat) : Value := if i < k then .slice (some ⟨r i, 0, none⟩) n n else .slice none 0 0
def unmI (l : List Ty) : Int := if (unmetF l).1 = 0 then -1 else (unmetF l).2
theorem unmI_yes {l : List Ty} {k : Int} (h : unmetF l = (16, k)) : unmI l = k := by simp [unmI, h]
theorem unmI_no {l : List Ty} (h : unmetF l = (0, 0)) : unmI l = -1 := by simp [unmI, h]
theorem ret_int {a b : Int} (h : a = b) : Ending.returned (.int .i64 b) = .returned (.int .i64 a) := by rw [h]
theorem fn58 : callable Tryd.prog 58 = true := by kernel_rfl
theorem in4_Unmet : (Tryd.prog.info? 4).map (fun i => (i.zero, i.size, i.bytes)) = some (some (.bool false), 1, 1) := by kernel_rfl
theorem in82 : (Tryd.prog.info? 82).map (fun i => (i.zero, i.size, i.bytes)) = some (some (.slice none 0 0), 1, 24) := by kernel_rfl
theorem sz4_Unmet : (Tryd.prog.info? 4).map (·.size) = some 1 := by kernel_rfl
theorem sz82 : (Tryd.prog.info? 82).map (·.size) = some 1 := by kernel_rfl
theorem unmetR_any (A : Option Addr) (c : Nat) (l : List Ty) (w : World) (hT : TypesIn w A l) (hv : VT l) (h60 : l.length ≤ 60) : Calls Tryd.prog 62 #[.slice A l.length c] w fun e w' => e = .returned (.int .i64 (unmI l)) ∧ Bel w w' := by
 refine enter Tryd.func62 Tryd.ntmps62 rfl (Nat.le_of_ble_eq_true rfl) ?_
 have hB : Bel w w := Below.refl _ _
 refine c_seq (c_region (waI rfl (x_nil (e_S (c_seq ?_)))))
 refine c_region (wmS rfl (wl (r_len U22 rfl) (waI rfl (x_nil (e_S ?_)))))
 refine c_seq (c_region (wmI rfl ?_))
 refine wl_mkR (m := l.length) U81 in82 rfl rfl rfl om om (fun b14 w1 hb14 hs hr => ?_)
 have lo14 := nLT (Bel.size hB) hr
 replace hB := hB.tr0 hs
 clear hs
 clear hr
 refine waS rfl (x_nil (e_S (c_seq (c_seq (c_region ?_)))))
 refine wmI rfl (wmI rfl (x_nil (e_S (c_block ?_))))
 refine c_loopS [5, 6, 16, 17, 18, 19, 20, 21, 22, 23, 24, 25, 26, 27, 28, 29, 30, 31, 32, 33, 34, 35, 36, 37, 38, 39] (fun m g w' => ∃ (k : Nat) (r : Nat → Nat), k ≤ l.length ∧ m = l.length - k ∧ g 16 = .int .i64 k ∧ Bel w w' ∧ Blk w' b14 82 (row l.length (fun i => rowV l.length r k i)) ∧ (∀ i, i < k → Blk w' (r i) 4 (row l.length (fun j => .bool (sub l i j))))) (l.length) ?_ (fun m g4 w2 hI => ?_)
 ·
  refine ⟨0, fun _ => 0, Nat.zero_le _, rfl, rfl, hB, ?_, fun i hi => by omega⟩
  rw [row_congr (g' := fun _ => .slice none 0 0) (fun j _ => by simp [rowV])]; exact hb14
 obtain ⟨k, r, hk, hm, h16, hB, hb14, hrw⟩ := hI
 refine c_know 16 (.int .i64 k) h16 nu (c_seq (c_region (wl (r_lss rfl rfl) (x_nil (e_S ?_)))))
 refine c_seq ?_
 refine c_ifd rfl (fun c17 => ?_) (fun c17 => ?_)
 ·
  have hlt : k < l.length := by omega
  refine c_skip (e_S (c_seq (c_block (c_seq (c_region ?_)))))
  refine wmI rfl (waI rfl (x_nil (e_S (c_seq (c_region ?_)))))
  refine wmS rfl (wmI rfl (wmI rfl ?_))
  refine wl_mkR (m := l.length) U82 in4_Unmet rfl rfl rfl om om (fun b22 w3 hb22 hs hr => ?_)
  have or_b14_b22 : b14 < b22 := nLL hb14.lt hr
  have or_hrw_b22 := (fun (i : Nat) (hi : i < k) => nLL (hrw i hi).lt hr)
  have lo22 := nLT (Bel.size hB) hr
  replace hB := hB.tr0 hs
  replace hb14 := hb14.tr0 hs
  replace hrw := fun i hi => (hrw i hi).tr0 hs
  clear hs
  clear hr
  refine wl (r_ia (i := k) U81 sz82 rfl rfl om rfl) ?_
  refine wl_st1 (v := .slice _ _ _) hb14 rfl rfl sz82 (by rw [row_size]; omega) rfl row_set (fun w4 hq hs => ?_)
  replace hB := hB.tr1 hs lo14
  replace hrw := fun i hi => (hrw i hi).tr1 hs (by first | (have := or_hrw_b22 i hi; omega) | exact fun h => absurd (blk_type (h ▸ hrw i hi) hb14) dE)
  replace hb22 := hb22.tr1 hs om
  clear hs
  replace hb14 := hq
  rw [row_congr (g' := fun i => rowV l.length (fun i => if i = k then b22 else r i) (k + 1) i) (fun j _ => by
    by_cases e : j = k
    · subst e; simp [rowV]
    · have e1 : (j < k + 1) ↔ (j < k) := by omega
      simp [rowV, e, e1])] at hb14
  have e14 : rowV l.length (fun i => if i = k then b22 else r i) (k + 1) k = .slice (some ⟨b22, 0, none⟩) l.length l.length := by simp [rowV]
  refine x_nil (e_S (c_seq (c_region (wmI rfl (wmI rfl ?_)))))
  refine x_nil (e_S (c_block ?_))
  refine c_loopS [6, 25, 26, 27, 28, 29, 30, 31, 32, 33, 34, 35, 36, 37, 38] (fun m g w' => ∃ (j : Nat), j ≤ l.length ∧ m = l.length - j ∧ g 25 = .int .i64 j ∧ Bel w w' ∧ Blk w' b14 82 (row l.length (fun i => rowV l.length (fun i => if i = k then b22 else r i) (k + 1) i)) ∧ Blk w' b22 4 (row l.length (fun x => .bool (if x < j then sub l k x else false))) ∧ (∀ i, i < k → Blk w' (r i) 4 (row l.length (fun j => .bool (sub l i j))))) (l.length) ?_ (fun m g8 w5 hI => ?_)
  ·
   refine ⟨0, Nat.zero_le _, rfl, rfl, hB, hb14, ?_, hrw⟩
   rw [row_congr (g' := fun _ => .bool false) (fun j _ => by simp)]; exact hb22
  obtain ⟨j, hj, hmj, h25, hB, hb14, hb22, hrw⟩ := hI
  refine c_know 25 (.int .i64 j) h25 nu (c_seq (c_region (wl (r_lss rfl rfl) (x_nil (e_S ?_)))))
  refine c_seq ?_
  refine c_ifd rfl (fun c26 => ?_) (fun c26 => ?_)
  ·
   have hlj : j < l.length := by omega
   refine c_skip (e_S (c_seq (c_block (c_seq (c_region ?_)))))
   refine wmI rfl (waI rfl (x_nil (e_S ?_)))
   refine c_monoTO 10 [28, 29, 30, 31, 32, 33, 34, 35, 36, 37] (fun _ => false) (fun ix v wv => match ix with | 0 => v = .slice (some ⟨b14, 0, none⟩) l.length l.length | 1 => v = .int .i64 k | 2 => v = .pointer (some ⟨b14, 0 + k * 1, none⟩) | 3 => v = .slice (some ⟨b22, 0, none⟩) l.length l.length | 4 => v = .int .i64 j | 5 => v = .slice A l.length c | 6 => v = .int .i64 k | 7 => v = .int .i64 j | 8 => v = .bool (sub l k j) | 9 => v = .pointer (some ⟨b22, 0 + j * 1, none⟩) | _ => True) kR kR ?_ ?_ ?_
   ·
    intro ix v wv wv2 h hs
    match ix, h with
    | 0, h => exact h
    | 1, h => exact h
    | 2, h => exact h
    | 3, h => exact h
    | 4, h => exact h
    | 5, h => exact h
    | 6, h => exact h
    | 7, h => exact h
    | 8, h => exact h
    | 9, h => exact h
    | _ + 10, h => exact trivial
   ·
    intro ix o hix hoq gg wx hs hd hdis
    match ix, hix, hoq with
    | 0, _, hoq =>
     obtain rfl := sI hoq
     have hs0 := hs
     replace hb14 := hb14.tr0 hs
     clear hs
     refine os_rv (r_mv (v := .slice _ _ _) rfl) ⟨Same.refl _ _, ?_, frsh_no⟩
     exact rfl
    | 1, _, hoq =>
     obtain rfl := sI hoq
     have hs0 := hs
     clear hs
     refine os_rv (r_mv (v := .int _ _) rfl) ⟨Same.refl _ _, ?_, frsh_no⟩
     exact rfl
    | 2, _, hoq =>
     obtain rfl := sI hoq
     have hs0 := hs
     clear hs
     have d0 : gg 28 = .slice (some ⟨b14, 0, none⟩) l.length l.length := hd 0 (dep_of kR)
     have e28 := d0
     have d1 : gg 29 = .int .i64 k := hd 1 (dep_of kR)
     have e29 := d1
     refine os_know 28 (.slice (some ⟨b14, 0, none⟩) l.length l.length) e28 nu (os_know 29 (.int .i64 k) e29 nu ?_)
     refine os_rv (r_ia (i := k) U81 sz82 rfl rfl om rfl) ⟨Same.refl _ _, ?_, frsh_no⟩
     exact rfl
    | 3, _, hoq =>
     obtain rfl := sI hoq
     have hs0 := hs
     replace hb14 := hb14.tr0 hs
     clear hs
     have d2 : gg 30 = .pointer (some ⟨b14, 0 + k * 1, none⟩) := hd 2 (dep_of kR)
     have e30 := d2
     refine os_know 30 (.pointer (some ⟨b14, 0 + k * 1, none⟩)) e30 nu ?_
     refine os_rv (r_ld1 (v := .slice (some ⟨b22, 0, none⟩) l.length l.length) U82 rfl rfl (by rw [← e14]; exact hb14.cell (row_get hlt))) ⟨Same.refl _ _, ?_, frsh_no⟩
     exact rfl
    | 4, _, hoq =>
     obtain rfl := sI hoq
     have hs0 := hs
     clear hs
     refine os_rv (r_mv (v := .int _ _) rfl) ⟨Same.refl _ _, ?_, frsh_no⟩
     exact rfl
    | 5, _, hoq =>
     obtain rfl := sI hoq
     have hs0 := hs
     clear hs
     refine os_rv (r_mv (v := .slice _ _ _) rfl) ⟨Same.refl _ _, ?_, frsh_no⟩
     exact rfl
    | 6, _, hoq =>
     obtain rfl := sI hoq
     have hs0 := hs
     clear hs
     refine os_rv (r_mv (v := .int _ _) rfl) ⟨Same.refl _ _, ?_, frsh_no⟩
     exact rfl
    | 7, _, hoq =>
     obtain rfl := sI hoq
     have hs0 := hs
     clear hs
     refine os_rv (r_mv (v := .int _ _) rfl) ⟨Same.refl _ _, ?_, frsh_no⟩
     exact rfl
    | 8, _, hoq =>
     obtain rfl := sI hoq
     have hs0 := hs
     replace hB := hB.tr0 hs
     clear hs
     have d5 : gg 33 = .slice A l.length c := hd 5 (dep_of kR)
     have e33 := d5
     have d6 : gg 34 = .int .i64 k := hd 6 (dep_of kR)
     have e34 := d6
     have d7 : gg 35 = .int .i64 j := hd 7 (dep_of kR)
     have e35 := d7
     refine os_know 33 (.slice A l.length c) e33 nu (os_know 34 (.int .i64 k) e34 nu (os_know 35 (.int .i64 j) e35 nu ?_))
     refine os_cl fn58 (sub_any _ _ _ _ _ wx (hT.mono hB) hv h60 hlt hlj) rfl (fun e' w2 hr => ?_)
     obtain ⟨rfl, hs⟩ := hr
     exact ⟨_, rfl, Same.of_bel hs, rfl, frsh_no⟩
    | 9, _, hoq =>
     obtain rfl := sI hoq
     have hs0 := hs
     clear hs
     have d3 : gg 31 = .slice (some ⟨b22, 0, none⟩) l.length l.length := hd 3 (dep_of kR)
     have e31 := d3
     have d4 : gg 32 = .int .i64 j := hd 4 (dep_of kR)
     have e32 := d4
     refine os_know 31 (.slice (some ⟨b22, 0, none⟩) l.length l.length) e31 nu (os_know 32 (.int .i64 j) e32 nu ?_)
     refine os_rv (r_ia (i := j) U82 sz4_Unmet rfl rfl om rfl) ⟨Same.refl _ _, ?_, frsh_no⟩
     exact rfl
    | _ + 10, hix, _ => exact absurd hix om
   intro gg w6 hs hR hdis
   have hs0 := hs
   replace hB := hB.tr0 hs
   replace hb14 := hb14.tr0 hs
   replace hrw := fun i hi => (hrw i hi).tr0 hs
   replace hb22 := hb22.tr0 hs
   clear hs
   have d8 : gg 36 = .bool (sub l k j) := hR 8 dE
   have e36 := d8
   have d9 : gg 37 = .pointer (some ⟨b22, 0 + j * 1, none⟩) := hR 9 dE
   have e37 := d9
   refine wl_know 36 (.bool (sub l k j)) e36 nu (wl_know 37 (.pointer (some ⟨b22, 0 + j * 1, none⟩)) e37 nu ?_)
   refine wl_st1 (v := .bool _) hb22 rfl rfl sz4_Unmet (by rw [row_size]; omega) rfl row_set (fun w7 hq hs => ?_)
   replace hB := hB.tr1 hs lo22
   replace hb14 := hb14.tr1 hs om
   replace hrw := fun i hi => (hrw i hi).tr1 hs (by first | (have := or_hrw_b22 i hi; omega) | exact fun h => absurd (blk_type (h ▸ hrw i hi) hb14) dE)
   clear hs
   replace hb22 := hq
   rw [row_congr (g' := fun x => .bool (if x < j + 1 then sub l k x else false)) (fun x _ => by
     by_cases e : x = j
     · subst e; simp
     · have e1 : (x < j + 1) ↔ (x < j) := by omega
       simp [e, e1])] at hb22
   refine x_nil (e_B (e_S (c_region (wl (r_add rfl rfl rfl om) (wmI rfl ?_)))))
   refine x_nil (e_LS (l.length - (j + 1)) om agA ?_)
   exact ⟨j + 1, by omega, rfl, rfl, hB, hb14, hb22, hrw⟩
  have hjl : j = l.length := by omega
  rw [hjl, row_congr (g' := fun x => .bool (sub l k x)) (fun x hx => by simp [hx])] at hb22
  replace hrw : ∀ i, i < k + 1 → Blk w5 (if i = k then b22 else r i) 4 (row l.length (fun j => .bool (sub l i j))) := fun i hi => by
    by_cases e : i = k
    · subst e; simp only [if_true]; exact hb22
    · simp only [if_neg e]; exact hrw i om
  refine c_exit (e_Sx (e_LSx (e_Bx (e_B (e_S ?_)))))
  refine c_region (wl (r_add rfl rfl rfl om) (wmI rfl (x_nil (e_LS (l.length - (k + 1)) om agA ?_))))
  exact ⟨k + 1, fun i => if i = k then b22 else r i, by omega, rfl, rfl, hB, hb14, hrw⟩
 have hkl : k = l.length := by omega
 rw [hkl, row_congr (g' := fun i => .slice (some ⟨r i, 0, none⟩) l.length l.length) (fun j hj => by simp [rowV, hj])] at hb14
 rw [hkl] at hrw
 refine c_exit (e_Sx (e_LSx (e_Bx (e_S (c_seq ?_)))))
 refine c_seq (c_region (wmI rfl (wmI rfl (x_nil (e_S ?_)))))
 refine c_block ?_
 refine c_loopS [2, 7, 8, 9, 10, 41, 42, 43, 44, 45, 46, 47, 48, 49, 50, 51, 52, 53, 54, 55, 56, 57, 58, 59, 60, 61, 62, 63, 64, 65, 66, 67, 68, 69, 70, 71, 72, 73, 74, 75, 76, 77, 78, 79, 80, 81, 82] (fun m g w' => ∃ (k : Nat), k ≤ l.length ∧ m = l.length - k ∧ g 41 = .int .i64 k ∧ w2 = w' ∧ unmetF l = firstF (unmF l) k (l.length - k)) (l.length) ?_ (fun m g14 w8 hI => ?_)
 ·
  exact ⟨0, Nat.zero_le _, rfl, rfl, rfl, rfl⟩
 obtain ⟨k, hk2, hm, h41, rfl, hU⟩ := hI
 refine c_know 41 (.int .i64 k) h41 nu (c_seq (c_region (wl (r_lss rfl rfl) (x_nil (e_S ?_)))))
 refine c_seq ?_
 refine c_ifd rfl (fun c42 => ?_) (fun c42 => ?_)
 ·
  have hlt : k < l.length := by omega
  refine c_skip (e_S (c_seq (c_block (c_seq (c_region ?_)))))
  refine wmI rfl (waI rfl (x_nil (e_S (c_seq (c_region ?_)))))
  refine wmI rfl (wmI rfl (x_nil (e_S (c_block ?_))))
  refine c_loopS [2, 8, 9, 10, 45, 46, 47, 48, 49, 50, 51, 52, 53, 54, 55, 56, 57, 58, 59, 60, 61, 62, 63, 64, 65, 66, 67, 68, 69, 70, 71, 72, 73, 74, 75, 76, 77, 78, 79, 80, 81] (fun m g w' => ∃ (a : Nat), a ≤ k ∧ m = k - a ∧ g 45 = .int .i64 a ∧ w2 = w' ∧ (∀ j, j < a → (meet l j k).2.2 = false)) (k) ?_ (fun m g17 w9 hI => ?_)
  ·
   exact ⟨0, Nat.zero_le _, rfl, rfl, rfl, fun j hj => by omega⟩
  obtain ⟨a, ha, hma, h45, rfl, hM⟩ := hI
  refine c_know 45 (.int .i64 a) h45 nu (c_seq (c_region (wl (r_lss rfl rfl) (x_nil (e_S ?_)))))
  refine c_seq ?_
  refine c_ifd rfl (fun c46 => ?_) (fun c46 => ?_)
  ·
   refine c_skip (e_S (c_seq (c_block (c_seq (c_region ?_)))))
   refine wmI rfl (waI rfl (x_nil (e_S (c_seq (c_region ?_)))))
   refine waI rfl (x_nil (e_S (c_seq (c_region (wmI rfl ?_)))))
   refine wmI rfl (x_nil (e_S (c_block ?_)))
   refine c_loopS [2, 9, 10, 49, 50, 51, 52, 53, 54, 55, 56, 57, 58, 59, 60, 61, 62, 63, 64, 65, 66, 67, 68, 69, 70, 71, 72, 73, 74, 75, 76, 77, 78, 79, 80] (fun m g w' => ∃ (x : Nat) (m9 : Int), x ≤ l.length ∧ m = l.length - x ∧ g 49 = .int .i64 x ∧ g 9 = .int .i64 m9 ∧ w2 = w' ∧ MS l a k x m9) (l.length) ?_ (fun m g21 w10 hI => ?_)
   ·
    exact ⟨0, -1, Nat.zero_le _, rfl, rfl, rfl, rfl, MS.start l a k⟩
   obtain ⟨x, m9, hx, hmx, h49, h9, rfl, hS⟩ := hI
   refine c_know 49 (.int .i64 x) h49 nu (c_know 9 (.int .i64 m9) h9 nu (c_seq (c_region (wl (r_lss rfl rfl) (x_nil ?_)))))
   refine e_S (c_seq ?_)
   refine c_ifd rfl (fun c50 => ?_) (fun c50 => ?_)
   ·
    have hlx : x < l.length := by omega
    refine c_skip (e_S (c_seq (c_block (c_seq (c_region ?_)))))
    refine wmI rfl (waI rfl (x_nil (e_S (c_seq ?_))))
    refine c_cut1 [52, 53, 54, 55, 56, 57, 58, 59, 60, 61, 62, 63, 64, 65, 66, 67] 67 (.bool (decide (comm l a k x = true))) nu ?_ (fun gq => ?_)
    ·
     refine c_region (wmS rfl (wmI rfl (wl (r_ia (i := x) U81 sz82 rfl rfl om rfl) (wl (r_ld1 (v := .slice _ _ _) U82 rfl rfl (hb14.cell (row_get hlx))) (wmI rfl ?_)))))
     refine wl (r_ia (i := a) U82 sz4_Unmet rfl rfl om rfl) (wl (r_ld1 (v := .bool _) U4 rfl rfl ((hrw x hlx).cell (row_get om))) (wmB rfl ?_))
     refine wl_cases 59 rfl (fun g59 => ?_) (fun g59 => ?_)
     ·
      refine wl_gd 59 rfl rfl (wmS rfl (wl_gd 59 rfl rfl (wmI rfl (wl_gd 59 rfl rfl (wl (r_ia (i := x) U81 sz82 rfl rfl om rfl) ?_)))))
      refine wl_gd 59 rfl rfl (wl (r_ld1 (v := .slice _ _ _) U82 rfl rfl (hb14.cell (row_get hlx))) (wl_gd 59 rfl rfl (wmI rfl (wl_gd 59 rfl rfl (wl (r_ia (i := k) U82 sz4_Unmet rfl rfl om rfl) ?_)))))
      refine wl_gd 59 rfl rfl (wl (r_ld1 (v := .bool _) U4 rfl rfl ((hrw x hlx).cell (row_get hlt))) (wl (r_pt (v := .bool _) rfl rfl) ?_))
      refine x_nil (e_R ⟨rfl, agA, ?_⟩)
      show Value.bool _ = Value.bool _
      exact congrArg Value.bool (by simp [comm, g59])
     refine wlgn 59 rfl rfl rfl (wlgn 59 rfl rfl rfl (wlgn 59 rfl rfl rfl (wlgn 59 rfl rfl rfl (wlgn 59 rfl rfl rfl (wlgn 59 rfl rfl rfl ?_)))))
     refine wlgn 59 rfl rfl rfl (wl (r_pf (v := .bool _) rfl rfl) ?_)
     refine x_nil (e_R ⟨rfl, agA, ?_⟩)
     show Value.bool _ = Value.bool _
     exact congrArg Value.bool (by simp [comm, g59])
    refine e_S ?_
    refine c_ifd rfl (fun c67 => ?_) (fun c67 => ?_)
    ·
     refine c_seq (c_region (wmI rfl (wl (r_lss rfl rfl) (x_nil (e_S ?_)))))
     refine c_ifd rfl (fun c69 => ?_) (fun c69 => ?_)
     ·
      have hS2 := hS.first hv c69 c67
      refine c_region (wmI rfl (waI rfl (x_nil (e_B (e_S ?_)))))
      refine c_region (wl (r_add rfl rfl rfl om) (wmI rfl (x_nil (e_LS (l.length - (x + 1)) om agA ?_))))
      exact ⟨x + 1, _, by omega, rfl, rfl, rfl, rfl, hS2⟩
     obtain ⟨mn, rfl, hmn, hq1, hq2, hq3⟩ := hS.pos c69
     refine c_seq (c_region (wmS rfl (wmI rfl (wl (r_ia (i := x) U81 sz82 rfl rfl om rfl) (wl (r_ld1 (v := .slice _ _ _) U82 rfl rfl (hb14.cell (row_get hlx))) ?_)))))
     refine wmI rfl (wl (r_ia (i := mn) U82 sz4_Unmet rfl rfl om rfl) (wl (r_ld1 (v := .bool _) U4 rfl rfl ((hrw x hlx).cell (row_get om))) (wl (r_not rfl) (x_nil (e_S ?_)))))
     refine c_if rfl (fun c78 => ?_) (fun c78 => ?_)
     ·
      have hme := meet_yes h60 (show mn < l.length by omega) hq1 hq2 hlx c67 (by simpa using c78)
      have hun := unmF_yes (show a < k by omega) hme
      have hfin := unmI_yes (hU.trans (firstF_hit om hun dE))
      refine c_seq (c_region (wmI rfl (waI rfl (x_nil (e_S ?_)))))
      refine c_ret (e_Br (e_Sr (e_LSr (e_Br (e_Br ?_)))))
      refine e_Sr (e_LSr (e_Br (e_Br (e_Sr (e_LSr ?_)))))
      refine e_Br (e_Sr (fin1 (.inl rfl) rfl rfl ?_))
      exact ⟨ret_int hfin, hB⟩
     have hS2 : MS l a k (x + 1) (mn : Int) := .some mn rfl om hq1 hq2 (fun i hi hci => by
       by_cases e : i = x
       · subst e; simpa using c78
       · exact hq3 i om hci)
     refine c_skip (e_B (e_S (c_region (wl (r_add rfl rfl rfl om) (wmI rfl ?_)))))
     refine x_nil (e_LS (l.length - (x + 1)) om agA ?_)
     exact ⟨x + 1, _, by omega, rfl, rfl, rfl, rfl, hS2⟩
    have hS2 := hS.skip (by simpa using c67)
    refine c_skip (e_B (e_S (c_region (wl (r_add rfl rfl rfl om) (wmI rfl ?_)))))
    refine x_nil (e_LS (l.length - (x + 1)) om agA ?_)
    exact ⟨x + 1, _, by omega, rfl, rfl, rfl, rfl, hS2⟩
   have hxl : x = l.length := by omega
   subst hxl
   have hme := hS.end_ hv h60
   refine c_exit (e_Sx (e_LSx (e_Bx (e_B (e_S ?_)))))
   refine c_region (wl (r_add rfl rfl rfl om) (wmI rfl (x_nil (e_LS (k - (a + 1)) om agA ?_))))
   exact ⟨a + 1, by omega, rfl, rfl, rfl, fun j hj => by
     by_cases e : j = a
     · subst e; exact hme
     · exact hM j om⟩
  have hun : unmF l k = 0 := unmF_no (fun j hj => hM j om)
  refine c_exit (e_Sx (e_LSx (e_Bx (e_B (e_S ?_)))))
  refine c_region (wl (r_add rfl rfl rfl om) (wmI rfl (x_nil (e_LS (l.length - (k + 1)) om agA ?_))))
  exact ⟨k + 1, by omega, rfl, rfl, rfl, hU.trans (firstF_miss hlt hun)⟩
 have hfin := unmI_no (hU.trans (firstF_end om))
 refine c_exit (e_Sx (e_LSx (e_Bx (e_S (c_seq ?_)))))
 refine c_region (waI rfl (x_nil (e_S (c_ret (fin1 (.inl rfl) rfl rfl ?_)))))
 exact ⟨ret_int hfin, hB⟩
end Go.Proofs.YtegngekpmpdngaaDoor
namespace Go.Proofs.YtegngekpmpdngaaDoor
open Go.RowKit
theorem fseen_yes {l : List Ft} {j k : Nat} {s : ByteArray} (hk : k < l.length) (hj : j < k) (h : (l[j]'om).name = s) : seen ((l.take k).map (·.name)) s = true := by
  simp only [seen, List.any_eq_true, decide_eq_true_eq, List.mem_map]
  refine ⟨_, ⟨l[j]'om, ?_, rfl⟩, h⟩
  rw [List.mem_take_iff_getElem]
  exact ⟨j, by omega, rfl⟩
theorem firstF_cases (f : Nat → Int) : ∀ (m i : Nat), firstF f i m = (0, 0) ∨ ∃ j : Nat, firstF f i m = (f j, (j : Int)) ∧ f j ≠ 0
  | 0, _ => .inl rfl
  | m + 1, i => by
    unfold firstF
    by_cases h : f i ≠ 0
    · exact .inr ⟨i, by rw [if_pos h], h⟩
    · rw [if_neg h]; exact firstF_cases f m (i + 1)
theorem unmetF_cases (l : List Ty) : unmetF l = (0, 0) ∨ ∃ j : Nat, unmetF l = (16, (j : Int)) := by
  rcases firstF_cases (unmF l) l.length 0 with h | ⟨j, h, hne⟩
  · exact .inl h
  · refine .inr ⟨j, ?_⟩
    have h16 : unmF l j = 16 := by
      unfold unmF at hne ⊢
      split
      · rfl
      · rename_i hx; rw [if_neg hx] at hne; exact absurd rfl hne
    rw [← h16]; exact h
theorem unmI_geq {l : List Ty} (h : 0 ≤ unmI l) : unmetF l = (16, unmI l) := by
  rcases unmetF_cases l with e | ⟨j, e⟩
  · rw [unmI_no e] at h; omega
  · rw [unmI_yes e, e]
theorem unmI_lss {l : List Ty} (h : ¬ 0 ≤ unmI l) : unmetF l = (0, 0) := by
  rcases unmetF_cases l with e | ⟨j, e⟩
  · exact e
  · rw [unmI_yes e] at h; omega
theorem fn61 : callable Tryd.prog 61 = true := by kernel_rfl
theorem fn62 : callable Tryd.prog 62 = true := by kernel_rfl
theorem fn63_HFault : callable Tryd.prog 63 = true := by kernel_rfl
theorem hierFault_any (A B : Option Addr) (c d : Nat) (l : List Ty) (fs : List Ft) (w : World) (hc : l.length ≤ c) (hd : fs.length ≤ d) (hT : TypesIn w A l) (hF : FeatsIn w B fs) : Calls Tryd.prog 27 #[.agg #[.slice A l.length c, .slice B fs.length d]] w fun e w' => e = .returned (flV (hierFault l fs)) ∧ Bel w w' := by
 refine enter Tryd.func27 Tryd.ntmps27 rfl (Nat.le_of_ble_eq_true rfl) ?_
 have hB : Bel w w := Below.refl _ _
 refine c_seq (c_region ?_)
 refine wl_bx (v := .agg #[_, _]) (cs := #[_, _]) rfl rfl (fun b1 w1 hb1 hs hr => ?_)
 have lo1 := nLT (Bel.size hB) hr
 replace hB := hB.tr0 hs
 clear hs
 clear hr
 refine wl_al (cs := #[.int .i64 0, .int .i64 0]) ze35_Valid rfl (fun b2 w2 hb2 hs hr => ?_)
 have or_b1_b2 : b1 < b2 := nLL hb1.lt hr
 have lo2 := nLT (Bel.size hB) hr
 replace hB := hB.tr0 hs
 replace hb1 := hb1.tr0 hs
 clear hs
 clear hr
 refine x_nil (e_S (c_seq (c_seq (c_region (wl (r_fa U25 sz23 dE rfl rfl rfl) ?_)))))
 refine wl (r_ld1 (v := .slice _ _ _) U23 rfl rfl (hb1.cell rfl)) (wl (r_len U23 rfl) (wl (r_gtr rfl rfl) (x_nil (e_S ?_))))
 refine c_ifd rfl (fun c12 => ?_) (fun c12 => ?_)
 ·
  refine c_seq (c_region (wl (r_bd2 (v0 := .int _ _) (v1 := .int _ _) (fun v0 v1 => #[v0, v1]) rfl rfl kR) ?_))
  refine wl_stW hb2 rfl rfl sz35_Valid rfl oneA (fun w3 hq hs => ?_)
  replace hB := hB.tr1 hs lo2
  replace hb1 := hb1.tr1 hs om
  clear hs
  replace hb2 := hq
  refine x_nil (e_S (c_ret (e_Sr (fin1 (.inl rfl) rfl (rr_cell U35 rfl rfl hb2.range0 sz35_Valid) ?_))))
  exact ⟨ret_fl (hf_size (.inr (.inr om))), hB⟩
 refine c_skip (e_S (c_seq (c_seq (c_region (wl (r_fa U25 sz22 dE rfl rfl rfl) ?_)))))
 refine wl (r_ld1 (v := .slice _ _ _) U22 rfl rfl (hb1.cell rfl)) ?_
 refine wl_cl fn61 (typesFault_any _ _ _ _ hc (hT.mono hB)) rfl (fun e' w4 hr => ?_)
 obtain ⟨rfl, hs⟩ := hr
 replace hs := Same.of_bel hs
 replace hB := hB.tr0 hs
 replace hb1 := hb1.tr0 hs
 replace hb2 := hb2.tr0 hs
 clear hs
 refine ⟨_, rfl, ?_⟩
 refine wl_al (cs := #[.int .i64 0, .int .i64 0]) ze35_Valid rfl (fun b3 w5 hb3 hs hr => ?_)
 have or_b1_b3 : b1 < b3 := nLL hb1.lt hr
 have or_b2_b3 : b2 < b3 := nLL hb2.lt hr
 have lo3 := nLT (Bel.size hB) hr
 replace hB := hB.tr0 hs
 replace hb1 := hb1.tr0 hs
 replace hb2 := hb2.tr0 hs
 clear hs
 clear hr
 refine wl_stW hb3 rfl rfl sz35_Valid rfl oneA (fun w6 hq hs => ?_)
 replace hB := hB.tr1 hs lo3
 replace hb1 := hb1.tr1 hs om
 replace hb2 := hb2.tr1 hs om
 clear hs
 replace hb3 := hq
 refine x_nil (e_S (c_seq (c_region (wl (r_fa U35 sz3_Tables dE rfl rfl rfl) (wl (r_ld1 (v := .int _ _) U3 rfl rfl (hb3.cell rfl)) ?_)))))
 refine wl (r_neq rfl rfl) (x_nil (e_S ?_))
 refine c_ifd rfl (fun c19 => ?_) (fun c19 => ?_)
 ·
  refine c_seq (c_region (wl (r_ldS U35 rfl rfl hb3.range0 sz35_Valid) ?_))
  refine wl_stW hb2 rfl rfl sz35_Valid rfl oneA (fun w7 hq hs => ?_)
  replace hB := hB.tr1 hs lo2
  replace hb1 := hb1.tr1 hs om
  replace hb3 := hb3.tr1 hs om
  clear hs
  replace hb2 := hq
  refine x_nil (e_S (c_ret (e_Sr (fin1 (.inl rfl) rfl (rr_cell U35 rfl rfl hb2.range0 sz35_Valid) ?_))))
  exact ⟨ret_fl (hf_types om om), hB⟩
 have ht0 : (typesFault l).1 = 0 := by omega
 have hv := vt_of ht0
 have htl := types_len ht0
 refine c_skip (e_S (c_seq (c_seq (c_region (wl (r_fa U25 sz22 dE rfl rfl rfl) ?_)))))
 refine wl (r_ld1 (v := .slice _ _ _) U22 rfl rfl (hb1.cell rfl)) ?_
 refine wl_cl fn62 (unmetR_any _ _ _ _ (hT.mono hB) hv om) rfl (fun e' w8 hr => ?_)
 obtain ⟨rfl, hs⟩ := hr
 replace hs := Same.of_bel hs
 replace hB := hB.tr0 hs
 replace hb1 := hb1.tr0 hs
 replace hb2 := hb2.tr0 hs
 replace hb3 := hb3.tr0 hs
 clear hs
 refine ⟨_, rfl, ?_⟩
 refine waI rfl (x_nil (e_S (c_seq (c_region (wmI rfl ?_)))))
 refine wl (r_geq rfl rfl) (x_nil (e_S ?_))
 refine c_ifd rfl (fun c25 => ?_) (fun c25 => ?_)
 ·
  have hfin := hf_unmet (fs := fs) om ht0 (unmI_geq c25)
  refine c_seq (c_region (wmI rfl (wl (r_bd2 (v0 := .int _ _) (v1 := .int _ _) (fun v0 v1 => #[v0, v1]) rfl rfl kR) ?_)))
  refine wl_stW hb2 rfl rfl sz35_Valid rfl oneA (fun w9 hq hs => ?_)
  replace hB := hB.tr1 hs lo2
  replace hb1 := hb1.tr1 hs om
  replace hb3 := hb3.tr1 hs om
  clear hs
  replace hb2 := hq
  refine x_nil (e_S (c_ret (e_Sr (fin1 (.inl rfl) rfl (rr_cell U35 rfl rfl hb2.range0 sz35_Valid) ?_))))
  exact ⟨ret_fl hfin, hB⟩
 have hR := Lib.hid (hf_rest (fs := fs) om ht0 (unmI_lss c25))
 refine c_skip (e_S (c_seq (c_seq (c_region (wl (r_fa U25 sz23 dE rfl rfl rfl) ?_)))))
 refine wl (r_ld1 (v := .slice _ _ _) U23 rfl rfl (hb1.cell rfl)) (wl (r_len U23 rfl) (wmI rfl (x_nil (e_S (c_block ?_)))))
 refine c_loopS [5, 6, 8, 31, 32, 33, 34, 35, 36, 37, 38, 39, 40, 41, 42, 43, 44, 45, 46, 47, 48, 49, 50, 51, 52, 53, 54, 55, 56, 57, 58, 59, 60, 61, 62, 63, 64, 65, 66, 67, 68, 69, 70, 71, 72, 73, 74, 75, 76, 77, 78, 79, 80, 81, 82, 83, 84, 85] (fun m g w' => ∃ (k : Nat), k ≤ fs.length ∧ m = fs.length - k ∧ g 31 = .int .i64 k ∧ Bel w w' ∧ Blk w' b1 25 #[.slice A l.length c, .slice B fs.length d] ∧ Blk w' b2 35 #[.int .i64 0, .int .i64 0] ∧ hierFault l fs = firstF (ftFault l.length fs) k (fs.length - k)) (fs.length) ?_ (fun m g10 w10 hI => ?_)
 ·
  exact ⟨0, Nat.zero_le _, rfl, rfl, hB, hb1, hb2, hR.out⟩
 obtain ⟨k, hk, hm, h31, hB, hb1, hb2, hR'⟩ := hI
 refine c_know 31 (.int .i64 k) h31 nu (c_seq (c_region (wl (r_lss rfl rfl) (x_nil (e_S ?_)))))
 refine c_seq ?_
 refine c_ifd rfl (fun c32 => ?_) (fun c32 => ?_)
 ·
  have hlt : k < fs.length := by omega
  obtain ⟨tb, to, rfl, htb, htr⟩ := hF.at_ hB hlt
  refine c_skip (e_S (c_seq (c_block (c_seq (c_region ?_)))))
  refine wmI rfl (wl (r_ia (i := k) U23 sz63 rfl rfl om rfl) (wl (r_ldS U63 rfl rfl htr sz63) ?_))
  refine wl_al (cs := #[.string ⟨#[]⟩, .int .i64 0, .int .i64 0]) ze63 rfl (fun b6 w11 hb6 hs hr => ?_)
  have or_b1_b6 : b1 < b6 := nLL hb1.lt hr
  have or_b2_b6 : b2 < b6 := nLL hb2.lt hr
  have lo6 := nLT (Bel.size hB) hr
  replace hB := hB.tr0 hs
  replace hb1 := hb1.tr0 hs
  replace hb2 := hb2.tr0 hs
  clear hs
  clear hr
  refine waI rfl ?_
  refine wl_stW hb6 rfl rfl sz63 rfl oneA (fun w12 hq hs => ?_)
  replace hB := hB.tr1 hs lo6
  replace hb1 := hb1.tr1 hs om
  replace hb2 := hb2.tr1 hs om
  clear hs
  replace hb6 := hq
  refine x_nil (e_S (c_seq (c_seq (c_region (wl (r_fa U63 sz9_Valid dE rfl rfl rfl) ?_)))))
  refine wl (r_ld1 (v := .string _) U9 rfl rfl (hb6.cell rfl)) ?_
  refine wl_cl fn63_HFault (rname_any _ _) rfl (fun e' w13 hr => ?_)
  obtain ⟨rfl, hs⟩ := hr
  replace hs := Same.of_bel hs
  replace hB := hB.tr0 hs
  replace hb1 := hb1.tr0 hs
  replace hb2 := hb2.tr0 hs
  replace hb6 := hb6.tr0 hs
  clear hs
  refine ⟨_, rfl, ?_⟩
  refine wl (r_not rfl) (x_nil (e_S ?_))
  refine c_if rfl (fun c39 => ?_) (fun c39 => ?_)
  ·
   have hty := ft10 l.length fs k hlt (by simpa using c39)
   refine c_seq (c_region (wmI rfl (wl (r_bd2 (v0 := .int _ _) (v1 := .int _ _) (fun v0 v1 => #[v0, v1]) rfl rfl kR) ?_)))
   refine wl_stW hb2 rfl rfl sz35_Valid rfl oneA (fun w14 hq hs => ?_)
   replace hB := hB.tr1 hs lo2
   replace hb1 := hb1.tr1 hs om
   replace hb6 := hb6.tr1 hs om
   clear hs
   replace hb2 := hq
   refine x_nil (e_S (c_ret (e_Sr (e_Br (e_Sr ?_)))))
   refine e_LSr (e_Br (e_Sr (fin1 (.inl rfl) rfl (rr_cell U35 rfl rfl hb2.range0 sz35_Valid) ?_)))
   exact ⟨ret_fl (hR'.trans (firstF_hit (c := 10) om hty dE)), hB⟩
  have hnm : isName (fs[k]'hlt).name = true := by simpa using c39
  refine c_skip (e_S (c_seq (c_seq (c_region (wl (r_fa U25 sz23 dE rfl rfl rfl) ?_)))))
  refine wl (r_ld1 (v := .slice _ _ _) U23 rfl rfl (hb1.cell rfl)) (wmI rfl (wl (r_slH (h := k) U23 sz63 rfl rfl om) (wl (r_len U23 rfl) (wmI rfl (x_nil ?_)))))
  refine e_S (c_block ?_)
  refine c_loopS [8, 47, 48, 49, 50, 51, 52, 53, 54, 55, 56, 57, 58] (fun m g w' => ∃ (j : Nat), j ≤ k ∧ m = k - j ∧ g 47 = .int .i64 j ∧ Bel w w' ∧ Blk w' b1 25 #[.slice A l.length c, .slice (some ⟨tb, to, none⟩) fs.length d] ∧ Blk w' b2 35 #[.int .i64 0, .int .i64 0] ∧ Blk w' b6 63 #[.string (fs[k]'hlt).name, .int .i64 (fs[k]'hlt).of, .int .i64 (fs[k]'hlt).val] ∧ seen ((fs.take j).map (·.name)) (fs[k]'hlt).name = false) (k) ?_ (fun m g15 w15 hI => ?_)
  ·
   exact ⟨0, Nat.zero_le _, rfl, rfl, hB, hb1, hb2, hb6, rfl⟩
  obtain ⟨j, hj, hmj, h47, hB, hb1, hb2, hb6, hse⟩ := hI
  refine c_know 47 (.int .i64 j) h47 nu (c_seq (c_region (wl (r_lss rfl rfl) (x_nil (e_S ?_)))))
  refine c_seq ?_
  refine c_ifd rfl (fun c48 => ?_) (fun c48 => ?_)
  ·
   have hjt : j < fs.length := by omega
   obtain ⟨ub, uo, he, hub, hur⟩ := hF.at_ hB hjt
   cases he
   refine c_skip (e_S (c_seq (c_block (c_seq (c_region ?_)))))
   refine wl (r_ia (i := j) U23 sz63 rfl rfl om rfl) (wl (r_ldS U63 rfl rfl hur sz63) ?_)
   refine wl_al (cs := #[.string ⟨#[]⟩, .int .i64 0, .int .i64 0]) ze63 rfl (fun b8 w16 hb8 hs hr => ?_)
   have or_b1_b8 : b1 < b8 := nLL hb1.lt hr
   have or_b2_b8 : b2 < b8 := nLL hb2.lt hr
   have or_b6_b8 : b6 < b8 := nLL hb6.lt hr
   have lo8 := nLT (Bel.size hB) hr
   replace hB := hB.tr0 hs
   replace hb1 := hb1.tr0 hs
   replace hb2 := hb2.tr0 hs
   replace hb6 := hb6.tr0 hs
   clear hs
   clear hr
   refine wl_stW hb8 rfl rfl sz63 rfl oneA (fun w17 hq hs => ?_)
   replace hB := hB.tr1 hs lo8
   replace hb1 := hb1.tr1 hs om
   replace hb2 := hb2.tr1 hs om
   replace hb6 := hb6.tr1 hs om
   clear hs
   replace hb8 := hq
   refine x_nil (e_S (c_seq (c_region (wl (r_fa U63 sz9_Valid dE rfl rfl rfl) (wl (r_ld1 (v := .string _) U9 rfl rfl (hb8.cell rfl)) ?_)))))
   refine wl (r_fa U63 sz9_Valid dE rfl rfl rfl) (wl (r_ld1 (v := .string _) U9 rfl rfl (hb6.cell rfl)) (wl (r_eqlS rfl rfl) (x_nil (e_S ?_))))
   refine c_ifd rfl (fun c55 => ?_) (fun c55 => ?_)
   ·
    have hty := ft7 l.length fs k hlt hnm (fseen_yes hlt om c55)
    refine c_seq (c_region (wmI rfl (wl (r_bd2 (v0 := .int _ _) (v1 := .int _ _) (fun v0 v1 => #[v0, v1]) rfl rfl kR) ?_)))
    refine wl_stW hb2 rfl rfl sz35_Valid rfl oneA (fun w18 hq hs => ?_)
    replace hB := hB.tr1 hs lo2
    replace hb1 := hb1.tr1 hs om
    replace hb6 := hb6.tr1 hs om
    replace hb8 := hb8.tr1 hs om
    clear hs
    replace hb2 := hq
    refine x_nil (e_S (c_ret (e_Br (e_Sr (e_LSr ?_)))))
    refine e_Br (e_Sr (e_Br (e_Sr (e_LSr (e_Br ?_)))))
    refine e_Sr (fin1 (.inl rfl) rfl (rr_cell U35 rfl rfl hb2.range0 sz35_Valid) ?_)
    exact ⟨ret_fl (hR'.trans (firstF_hit (c := 7) om hty dE)), hB⟩
   have hse' : seen ((fs.take (j + 1)).map (·.name)) (fs[k]'hlt).name = false := by rw [take_snoc fs hjt, List.map_append, List.map_cons, List.map_nil, seen_snoc, hse]; simp [c55]
   refine c_skip (e_B (e_S (c_region (wl (r_add rfl rfl rfl om) (wmI rfl ?_)))))
   refine x_nil (e_LS (k - (j + 1)) om agA ?_)
   exact ⟨j + 1, by omega, rfl, rfl, hB, hb1, hb2, hb6, hse'⟩
  have hsn : seen ((fs.take k).map (·.name)) (fs[k]'hlt).name = false := by
    have e : k = j := by omega
    subst e; exact hse
  refine c_exit (e_Sx (e_LSx (e_Bx (e_S (c_seq ?_)))))
  refine c_cut1 [59, 60, 61, 62, 63, 64, 65, 66, 67, 68, 69, 70, 71, 72, 73, 74, 75, 76, 77, 78, 79, 80, 81, 82] 82 (.bool (decide ((fs[k]'hlt).of < 0 ∨ (l.length : Int) ≤ (fs[k]'hlt).of ∨ (fs[k]'hlt).val < 0 ∨ (l.length : Int) ≤ (fs[k]'hlt).val))) nu ?_ (fun gq => ?_)
  ·
   refine c_region (wl (r_fa U63 sz3_Tables dE rfl rfl rfl) (wl (r_ld1 (v := .int _ _) U3 rfl rfl (hb6.cell rfl)) (wl (r_lss rfl rfl) (wmB rfl ?_))))
   refine wl_casesd 62 rfl (fun g62 => ?_) (fun g62 => ?_)
   ·
    refine wlgn 62 rfl rfl rfl (wlgn 62 rfl rfl rfl (wlgn 62 rfl rfl rfl (wlgn 62 rfl rfl rfl (wlgn 62 rfl rfl rfl (wlgn 62 rfl rfl rfl ?_)))))
    refine wl (r_pt (v := .bool _) rfl rfl) (wmB rfl (wlgn 70 rfl rfl rfl (wlgn 70 rfl rfl rfl (wlgn 70 rfl rfl rfl (wl (r_pt (v := .bool _) rfl rfl) ?_)))))
    refine wmB rfl (wlgn 75 rfl rfl rfl (wlgn 75 rfl rfl rfl (wlgn 75 rfl rfl rfl (wlgn 75 rfl rfl rfl (wlgn 75 rfl rfl rfl ?_)))))
    refine wlgn 75 rfl rfl rfl (wl (r_pt (v := .bool _) rfl rfl) ?_)
    refine x_nil (e_R ⟨rfl, agA, ?_⟩)
    exact clA
   refine wl_gd 62 rfl rfl (wl (r_fa U63 sz3_Tables dE rfl rfl rfl) (wl_gd 62 rfl rfl (wl (r_ld1 (v := .int _ _) U3 rfl rfl (hb6.cell rfl)) (wl_gd 62 rfl rfl (wl (r_fa U25 sz22 dE rfl rfl rfl) ?_)))))
   refine wl_gd 62 rfl rfl (wl (r_ld1 (v := .slice _ _ _) U22 rfl rfl (hb1.cell rfl)) (wl_gd 62 rfl rfl (wl (r_len U22 rfl) (wl_gd 62 rfl rfl (wl (r_geq rfl rfl) ?_)))))
   refine wl (r_pf (v := .bool _) rfl rfl) (wmB rfl ?_)
   refine wl_casesd 70 rfl (fun g70 => ?_) (fun g70 => ?_)
   ·
    refine wlgn 70 rfl rfl rfl (wlgn 70 rfl rfl rfl (wlgn 70 rfl rfl rfl (wl (r_pt (v := .bool _) rfl rfl) (wmB rfl (wlgn 75 rfl rfl rfl ?_)))))
    refine wlgn 75 rfl rfl rfl (wlgn 75 rfl rfl rfl (wlgn 75 rfl rfl rfl (wlgn 75 rfl rfl rfl (wlgn 75 rfl rfl rfl (wl (r_pt (v := .bool _) rfl rfl) ?_)))))
    refine x_nil (e_R ⟨rfl, agA, ?_⟩)
    exact clA
   refine wl_gd 70 rfl rfl (wl (r_fa U63 sz3_Tables dE rfl rfl rfl) (wl_gd 70 rfl rfl (wl (r_ld1 (v := .int _ _) U3 rfl rfl (hb6.cell rfl)) (wl_gd 70 rfl rfl (wl (r_lss rfl rfl) ?_)))))
   refine wl (r_pf (v := .bool _) rfl rfl) (wmB rfl ?_)
   refine wl_casesd 75 rfl (fun g75 => ?_) (fun g75 => ?_)
   ·
    refine wlgn 75 rfl rfl rfl (wlgn 75 rfl rfl rfl (wlgn 75 rfl rfl rfl (wlgn 75 rfl rfl rfl (wlgn 75 rfl rfl rfl (wlgn 75 rfl rfl rfl ?_)))))
    refine wl (r_pt (v := .bool _) rfl rfl) ?_
    refine x_nil (e_R ⟨rfl, agA, ?_⟩)
    exact clA
   refine wl_gd 75 rfl rfl (wl (r_fa U63 sz3_Tables dE rfl rfl rfl) (wl_gd 75 rfl rfl (wl (r_ld1 (v := .int _ _) U3 rfl rfl (hb6.cell rfl)) (wl_gd 75 rfl rfl (wl (r_fa U25 sz22 dE rfl rfl rfl) ?_)))))
   refine wl_gd 75 rfl rfl (wl (r_ld1 (v := .slice _ _ _) U22 rfl rfl (hb1.cell rfl)) (wl_gd 75 rfl rfl (wl (r_len U22 rfl) (wl_gd 75 rfl rfl (wl (r_geq rfl rfl) ?_)))))
   refine wl (r_pf (v := .bool _) rfl rfl) ?_
   refine x_nil (e_R ⟨rfl, agA, ?_⟩)
   exact clA
  refine e_S ?_
  refine c_ifd rfl (fun c82 => ?_) (fun c82 => ?_)
  ·
   have hty := ft3 l.length fs k hlt hnm hsn c82
   refine c_seq (c_region (wmI rfl (wl (r_bd2 (v0 := .int _ _) (v1 := .int _ _) (fun v0 v1 => #[v0, v1]) rfl rfl kR) ?_)))
   refine wl_stW hb2 rfl rfl sz35_Valid rfl oneA (fun w19 hq hs => ?_)
   replace hB := hB.tr1 hs lo2
   replace hb1 := hb1.tr1 hs om
   replace hb6 := hb6.tr1 hs om
   clear hs
   replace hb2 := hq
   refine x_nil (e_S (c_ret (e_Br (e_Sr (e_LSr ?_)))))
   refine e_Br (e_Sr (fin1 (.inl rfl) rfl (rr_cell U35 rfl rfl hb2.range0 sz35_Valid) ?_))
   exact ⟨ret_fl (hR'.trans (firstF_hit (c := 3) om hty dE)), hB⟩
  have hty := ft0 l.length fs k hlt hnm hsn c82
  refine c_skip (e_B (e_S (c_region (wl (r_add rfl rfl rfl om) (wmI rfl ?_)))))
  refine x_nil (e_LS (fs.length - (k + 1)) om agA ?_)
  exact ⟨k + 1, by omega, rfl, rfl, hB, hb1, hb2, hR'.trans (firstF_miss hlt hty)⟩
 refine c_exit (e_Sx (e_LSx (e_Bx (e_S (c_seq ?_)))))
 refine c_region (wl (r_bd (vs := #[]) (cs := #[.int .i64 0, .int .i64 0]) (by simp) kR) ?_)
 refine wl_stW hb2 rfl rfl sz35_Valid rfl oneA (fun w20 hq hs => ?_)
 replace hB := hB.tr1 hs lo2
 replace hb1 := hb1.tr1 hs om
 clear hs
 replace hb2 := hq
 refine x_nil (e_S (c_ret (fin1 (.inl rfl) rfl (rr_cell U35 rfl rfl hb2.range0 sz35_Valid) ?_)))
 exact ⟨ret_fl (hR'.trans (firstF_end om)), hB⟩
end Go.Proofs.YtegngekpmpdngaaDoor
namespace Go.Proofs.YtegngekpmpdngaaDoor
open Go.RowKit
def capB (l : List Ty) (a b c : Nat) : Bool := sub l a c && sub l b c
def joinB (l : List Ty) (a b c : Nat) : Bool := capB l a b c && (List.range l.length).all (fun j => !(!(decide (j = c)) && sub l j c && capB l a b j))
def restN (l : List Ty) (a b k : Nat) : Nat := mask (fun i => capB l a b i && decide (k ≤ i)) l.length
structure RestAt (l : List Ty) (a b k i : Nat) : Prop where
  lt : i < l.length
  le : k ≤ i
  cap : capB l a b i = true
  gap : ∀ j, k ≤ j → j < i → joinB l a b j = false
  next : restN l a b k &&& (restN l a b k - 1) = restN l a b (i + 1)
structure Sound (l : List Ty) : Prop where
  vt : VT l
  pos : 0 < l.length
  le : l.length ≤ 60
  all : ∀ a b i, a < l.length → b < l.length → i < l.length → comm l a b i = true → (meet l a b).2.1 = true
theorem sub_anti {l : List Ty} (hv : VT l) {a b : Nat} (h : sub l a b = true) (h2 : sub l b a = true) : a = b := Nat.le_antisymm (sub_le' hv h2) (sub_le' hv h)
structure Tri (l : List Ty) (a b c m : Nat) (ok : Bool) : Prop where
  yes : ok = true → m < l.length ∧ (sub l m a = true ∧ sub l m b = true ∧ sub l m c = true) ∧ ∀ i, i < l.length → sub l i a = true → sub l i b = true → sub l i c = true → sub l i m = true
  no : ok = false → m = 0 ∧ ∀ i, i < l.length → sub l i a = true → sub l i b = true → sub l i c = true → False
theorem Tri.uniq {l : List Ty} (hv : VT l) {a b c m n : Nat} {p q : Bool} (h : Tri l a b c m p) (k : Tri l a b c n q) : p = q ∧ m = n := by
  cases p with
  | true =>
    obtain ⟨h1, ⟨h2, h3, h4⟩, h5⟩ := h.yes rfl
    cases q with
    | true =>
      obtain ⟨k1, ⟨k2, k3, k4⟩, k5⟩ := k.yes rfl
      exact ⟨rfl, sub_anti hv (k5 m h1 h2 h3 h4) (h5 n k1 k2 k3 k4)⟩
    | false => exact ((k.no rfl).2 m h1 h2 h3 h4).elim
  | false =>
    cases q with
    | true =>
      obtain ⟨k1, ⟨k2, k3, k4⟩, k5⟩ := k.yes rfl
      exact ((h.no rfl).2 n k1 k2 k3 k4).elim
    | false => exact ⟨rfl, (h.no rfl).1.trans (k.no rfl).1.symm⟩
def twoF (l : List Ty) (fs : List Ft) (a b : Int) : Fl :=
  if (hierFault l fs).1 ≠ 0 then hierFault l fs else if a < 0 ∨ (l.length : Int) ≤ a then (3, -2) else if b < 0 ∨ (l.length : Int) ≤ b then (3, -3) else (0, 0)
structure TwoOk (l : List Ty) (fs : List Ft) (a b : Int) : Prop where
  h : (hierFault l fs).1 = 0
  s : Sound l
  a0 : 0 ≤ a
  al : a < l.length
  b0 : 0 ≤ b
  bl : b < l.length
  z : twoF l fs a b = (0, 0)
end Go.Proofs.YtegngekpmpdngaaDoor
