/- What these functions of the program compute, at every world: glosswright/glosswrightref3.Unmet. -/
import Derived.Test.YtahdbbgkgokkhaaDoorValid
namespace Go.Proofs.YtahdbbgkgokkhaaDoor
open Go.RowKit
/-! ## common subtypes without a meet -/
theorem meet_yes {l : List Ty} (h60 : l.length ≤ 60) {a b m c : Nat} (hm : m < l.length) (hcm : comm l a b m = true) (hl : ∀ i, i < m → comm l a b i = false) (hc : c < l.length) (hcc : comm l a b c = true) (hs : sub l c m = false) : (meet l a b).2.2 = true := by
  have h0 : commN l a b ≠ 0 := fun h => by
    have := mask_eq_zero.1 h m hm
    rw [hcm] at this; cases this
  have hz := ctz_mask h60 h0
  have he : Lib.ctz 64 (commN l a b) = m := by
    have h1 : ¬ Lib.ctz 64 (commN l a b) < m := fun h => by
      have := hl _ h
      rw [show comm l a b (Lib.ctz 64 (commN l a b)) = true from hz.2.1] at this; cases this
    have h2 : ¬ m < Lib.ctz 64 (commN l a b) := fun h => by
      have := hz.2.2 m h
      rw [hcm] at this; cases this
    omega
  have hd : downN l (Lib.ctz 64 (commN l a b)) ≠ commN l a b := fun h => by
    rw [he] at h
    have := mask_inj.1 h c hc
    rw [hs, hcc] at this; cases this
  simp only [meet, if_neg h0, if_pos hd]
theorem meet_none {l : List Ty} {a b : Nat} (h : ∀ i, i < l.length → comm l a b i = false) : (meet l a b).2.2 = false := by
  have h0 : commN l a b = 0 := mask_eq_zero.2 h
  simp only [meet, if_pos h0]
theorem meet_some {l : List Ty} (hv : VT l) (h60 : l.length ≤ 60) {a b m : Nat} (hm : m < l.length) (hcm : comm l a b m = true) (hl : ∀ i, i < m → comm l a b i = false) (hs : ∀ i, i < l.length → comm l a b i = true → sub l i m = true) : (meet l a b).2.2 = false := by
  have h0 : commN l a b ≠ 0 := fun h => by
    have := mask_eq_zero.1 h m hm
    rw [hcm] at this; cases this
  have hz := ctz_mask h60 h0
  have he : Lib.ctz 64 (commN l a b) = m := by
    have h1 : ¬ Lib.ctz 64 (commN l a b) < m := fun h => by
      have := hl _ h
      rw [show comm l a b (Lib.ctz 64 (commN l a b)) = true from hz.2.1] at this; cases this
    have h2 : ¬ m < Lib.ctz 64 (commN l a b) := fun h => by
      have := hz.2.2 m h
      rw [hcm] at this; cases this
    omega
  have hd : downN l (Lib.ctz 64 (commN l a b)) = commN l a b := by
    rw [he]
    refine mask_congr (fun i hi => ?_)
    cases h1 : sub l i m with
    | true =>
      simp only [comm, Bool.and_eq_true] at hcm
      simp [comm, sub_tr hv h1 hcm.1, sub_tr hv h1 hcm.2]
    | false =>
      cases h2 : comm l a b i with
      | false => rfl
      | true => rw [hs i hi h2] at h1; cases h1
  simp only [meet, if_neg h0, hd, ne_eq, not_true_eq_false, if_false]
/-- what the reference's search over c holds: the least common subtype so far, or -1 -/
inductive MS (l : List Ty) (a b c : Nat) (m : Int) : Prop
  | none (h : m = -1) (h0 : ∀ i, i < c → comm l a b i = false)
  | some (n : Nat) (h : m = n) (hn : n < c) (h1 : comm l a b n = true) (h2 : ∀ i, i < n → comm l a b i = false) (h3 : ∀ i, i < c → comm l a b i = true → sub l i n = true)
theorem MS.start (l : List Ty) (a b : Nat) : MS l a b 0 (-1) := .none rfl (fun i h => by omega)
theorem MS.skip {l : List Ty} {a b c : Nat} {m : Int} (h : MS l a b c m) (hc : comm l a b c = false) : MS l a b (c + 1) m := by
  cases h with
  | none h h0 => exact .none h (fun i hi => by
      by_cases e : i = c
      · subst e; exact hc
      · exact h0 i (by omega))
  | some n h hn h1 h2 h3 => exact .some n h (by omega) h1 h2 (fun i hi hci => by
      by_cases e : i = c
      · subst e; rw [hc] at hci; cases hci
      · exact h3 i (by omega) hci)
theorem MS.first {l : List Ty} (hv : VT l) {a b c : Nat} {m : Int} (h : MS l a b c m) (hm : m < 0) (hc : comm l a b c = true) : MS l a b (c + 1) c := by
  cases h with
  | none h h0 => exact .some c rfl (by omega) hc h0 (fun i hi hci => by
      by_cases e : i = c
      · subst e; exact sub_refl hv _
      · rw [h0 i (by omega)] at hci; cases hci)
  | some n h => omega
theorem MS.pos {l : List Ty} {a b c : Nat} {m : Int} (h : MS l a b c m) (hm : ¬ m < 0) : ∃ n : Nat, m = n ∧ n < c ∧ comm l a b n = true ∧ (∀ i, i < n → comm l a b i = false) ∧ ∀ i, i < c → comm l a b i = true → sub l i n = true := by
  cases h with
  | none h => omega
  | some n h hn h1 h2 h3 => exact ⟨n, h, hn, h1, h2, h3⟩
theorem MS.end_ {l : List Ty} (hv : VT l) (h60 : l.length ≤ 60) {a b : Nat} {m : Int} (h : MS l a b l.length m) : (meet l a b).2.2 = false := by
  cases h with
  | none h h0 => exact meet_none h0
  | some n h hn h1 h2 h3 => exact meet_some hv h60 hn h1 h2 h3
def rowV (n : Nat) (r : Nat → Nat) (k i : Nat) : Value := if i < k then .slice (some ⟨r i, 0, none⟩) n n else .slice none 0 0
def unmI (l : List Ty) : Int := if (unmetF l).1 = 0 then -1 else (unmetF l).2
theorem unmI_yes {l : List Ty} {k : Int} (h : unmetF l = (16, k)) : unmI l = k := by simp [unmI, h]
theorem unmI_no {l : List Ty} (h : unmetF l = (0, 0)) : unmI l = -1 := by simp [unmI, h]
theorem ret_int {a b : Int} (h : a = b) : Ending.returned (.int .i64 b) = .returned (.int .i64 a) := by rw [h]

theorem fn9 : callable Tryd.prog 9 = true := by kernel_rfl
theorem in37 : (Tryd.prog.info? 37).map (fun i => (i.zero, i.size, i.bytes)) = some (some (.slice none 0 0), 1, 24) := by kernel_rfl
theorem in4_Unmet : (Tryd.prog.info? 4).map (fun i => (i.zero, i.size, i.bytes)) = some (some (.bool false), 1, 1) := by kernel_rfl
theorem sz37 : (Tryd.prog.info? 37).map (·.size) = some 1 := by kernel_rfl
theorem sz4_Unmet : (Tryd.prog.info? 4).map (·.size) = some 1 := by kernel_rfl
theorem unmetR_any (A : Option Addr) (c : Nat) (l : List Ty) (w : World) (hT : TypesIn w A l) (hv : VT l) (h60 : l.length ≤ 60) : Calls Tryd.prog 28 #[.slice A l.length c] w fun e w' => e = .returned (.int .i64 (unmI l)) ∧ Bel w w' := by
 refine enter Tryd.func28 Tryd.ntmps28 rfl (Nat.le_of_ble_eq_true rfl) ?_
 have hB : Bel w w := Below.refl _ _
 refine c_seq ?_
 refine c_region ?_
 refine wl (r_as (v := .int _ _) rfl) ?_
 refine x_nil ?_
 refine e_S ?_
 refine c_seq ?_
 refine c_region ?_
 refine wl (r_mv (v := .slice _ _ _) rfl) ?_
 refine wl (r_len Tryd.underlying22 rfl) ?_
 refine wl (r_as (v := .int _ _) rfl) ?_
 refine x_nil ?_
 refine e_S ?_
 refine c_seq ?_
 refine c_region ?_
 refine wl (r_mv (v := .int _ _) rfl) ?_
 refine wl_mkR (m := l.length) Tryd.underlying83 in37 rfl rfl rfl (by omega) (by omega) (fun b14 w1 hb14 hs hr => ?_)
 have lo14 := Nat.le_trans (Bel.size hB) hr
 replace hB := hB.tr0 hs
 clear hs
 clear hr
 refine wl (r_as (v := .slice _ _ _) rfl) ?_
 refine x_nil ?_
 refine e_S ?_
 refine c_seq ?_
 refine c_seq ?_
 refine c_region ?_
 refine wl (r_mv (v := .int _ _) rfl) ?_
 refine wl (r_mv (v := .int _ _) rfl) ?_
 refine x_nil ?_
 refine e_S ?_
 refine c_block ?_
 refine c_loopS [5, 6, 16, 17, 18, 19, 20, 21, 22, 23, 24, 25, 26, 27, 28, 29, 30, 31, 32, 33, 34, 35, 36, 37, 38, 39] (fun m g w' => ∃ (k : Nat) (r : Nat → Nat), k ≤ l.length ∧ m = l.length - k ∧ g 16 = .int .i64 k ∧ Bel w w' ∧ Blk w' b14 37 (row l.length (fun i => rowV l.length r k i)) ∧ (∀ i, i < k → Blk w' (r i) 4 (row l.length (fun j => .bool (sub l i j))))) (l.length) ?_ (fun m g4 w2 hI => ?_)
 ·
  refine ⟨0, fun _ => 0, Nat.zero_le _, rfl, rfl, hB, ?_, fun i hi => by omega⟩
  rw [row_congr (g' := fun _ => .slice none 0 0) (fun j _ => by simp [rowV])]; exact hb14
 obtain ⟨k, r, hk, hm, h16, hB, hb14, hrw⟩ := hI
 refine c_know 16 (.int .i64 k) h16 (by simp [undef]) ?_
 refine c_seq ?_
 refine c_region ?_
 refine wl (r_lss rfl rfl) ?_
 refine x_nil ?_
 refine e_S ?_
 refine c_seq ?_
 refine c_ifd rfl (fun c17 => ?_) (fun c17 => ?_)
 ·
  have hlt : k < l.length := by omega
  refine c_skip ?_
  refine e_S ?_
  refine c_seq ?_
  refine c_block ?_
  refine c_seq ?_
  refine c_region ?_
  refine wl (r_mv (v := .int _ _) rfl) ?_
  refine wl (r_as (v := .int _ _) rfl) ?_
  refine x_nil ?_
  refine e_S ?_
  refine c_seq ?_
  refine c_region ?_
  refine wl (r_mv (v := .slice _ _ _) rfl) ?_
  refine wl (r_mv (v := .int _ _) rfl) ?_
  refine wl (r_mv (v := .int _ _) rfl) ?_
  refine wl_mkR (m := l.length) Tryd.underlying37 in4_Unmet rfl rfl rfl (by omega) (by omega) (fun b22 w3 hb22 hs hr => ?_)
  have or_b14_b22 : b14 < b22 := Nat.lt_of_lt_of_le hb14.lt hr
  have or_hrw_b22 := (fun (i : Nat) (hi : i < k) => Nat.lt_of_lt_of_le (hrw i hi).lt hr)
  have lo22 := Nat.le_trans (Bel.size hB) hr
  replace hB := hB.tr0 hs
  replace hb14 := hb14.tr0 hs
  replace hrw := fun i hi => (hrw i hi).tr0 hs
  clear hs
  clear hr
  refine wl (r_ia (i := k) Tryd.underlying83 sz37 rfl rfl (by omega) rfl) ?_
  refine wl_st1 (v := .slice _ _ _) hb14 rfl rfl sz37 (by rw [row_size]; omega) rfl row_set (fun w4 hq hs => ?_)
  replace hB := hB.tr1 hs lo14
  replace hrw := fun i hi => (hrw i hi).tr1 hs (by first | (have := or_hrw_b22 i hi; omega) | exact fun h => absurd (blk_type (h ▸ hrw i hi) hb14) (by decide))
  replace hb22 := hb22.tr1 hs (by omega)
  clear hs
  replace hb14 := hq
  rw [row_congr (g' := fun i => rowV l.length (fun i => if i = k then b22 else r i) (k + 1) i) (fun j _ => by
    by_cases e : j = k
    · subst e; simp [rowV]
    · have e1 : (j < k + 1) ↔ (j < k) := by omega
      simp [rowV, e, e1])] at hb14
  have e14 : rowV l.length (fun i => if i = k then b22 else r i) (k + 1) k = .slice (some ⟨b22, 0, none⟩) l.length l.length := by simp [rowV]
  refine x_nil ?_
  refine e_S ?_
  refine c_seq ?_
  refine c_region ?_
  refine wl (r_mv (v := .int _ _) rfl) ?_
  refine wl (r_mv (v := .int _ _) rfl) ?_
  refine x_nil ?_
  refine e_S ?_
  refine c_block ?_
  refine c_loopS [6, 25, 26, 27, 28, 29, 30, 31, 32, 33, 34, 35, 36, 37, 38] (fun m g w' => ∃ (j : Nat), j ≤ l.length ∧ m = l.length - j ∧ g 25 = .int .i64 j ∧ Bel w w' ∧ Blk w' b14 37 (row l.length (fun i => rowV l.length (fun i => if i = k then b22 else r i) (k + 1) i)) ∧ Blk w' b22 4 (row l.length (fun x => .bool (if x < j then sub l k x else false))) ∧ (∀ i, i < k → Blk w' (r i) 4 (row l.length (fun j => .bool (sub l i j))))) (l.length) ?_ (fun m g8 w5 hI => ?_)
  ·
   refine ⟨0, Nat.zero_le _, rfl, rfl, hB, hb14, ?_, hrw⟩
   rw [row_congr (g' := fun _ => .bool false) (fun j _ => by simp)]; exact hb22
  obtain ⟨j, hj, hmj, h25, hB, hb14, hb22, hrw⟩ := hI
  refine c_know 25 (.int .i64 j) h25 (by simp [undef]) ?_
  refine c_seq ?_
  refine c_region ?_
  refine wl (r_lss rfl rfl) ?_
  refine x_nil ?_
  refine e_S ?_
  refine c_seq ?_
  refine c_ifd rfl (fun c26 => ?_) (fun c26 => ?_)
  ·
   have hlj : j < l.length := by omega
   refine c_skip ?_
   refine e_S ?_
   refine c_seq ?_
   refine c_block ?_
   refine c_seq ?_
   refine c_region ?_
   refine wl (r_mv (v := .int _ _) rfl) ?_
   refine wl (r_as (v := .int _ _) rfl) ?_
   refine x_nil ?_
   refine e_S ?_
   refine c_heldS [] [10] [0, 1, 2, 3, 4, 5, 6, 7, 8, 9, 10] rfl (fun w6 hs => ?_)
   replace hB := hB.tr0 hs
   replace hb14 := hb14.tr0 hs
   replace hrw := fun i hi => (hrw i hi).tr0 hs
   replace hb22 := hb22.tr0 hs
   clear hs
   refine hl rfl (fun _ => r_mv (v := .slice _ _ _) rfl) ?_
   refine hl rfl (fun _ => r_mv (v := .int _ _) rfl) ?_
   refine hl rfl (fun _ => r_ia (i := k) Tryd.underlying83 sz37 rfl rfl (by omega) rfl) ?_
   refine hl1 (v := .slice (some ⟨b22, 0, none⟩) l.length l.length) rfl Tryd.underlying37 rfl rfl (by rw [← e14]; exact hb14.cell (row_get hlt)) ?_
   refine hl rfl (fun _ => r_mv (v := .int _ _) rfl) ?_
   refine hl rfl (fun _ => r_mv (v := .slice _ _ _) rfl) ?_
   refine hl rfl (fun _ => r_mv (v := .int _ _) rfl) ?_
   refine hl rfl (fun _ => r_mv (v := .int _ _) rfl) ?_
   refine hcl (fun v wv => v = .bool (sub l k j)) rfl fn9 (sub_any _ _ _ _ _ w6 (hT.mono hB) hv h60 hlt hlj) rfl (fun e' w2 hr => ?_) (fun v36 w7 hs d36 => ?_)
   ·
    obtain ⟨rfl, hs⟩ := hr
    exact ⟨_, rfl, Same.of_bel hs, rfl⟩
   ·
    replace hB := hB.tr0 hs
    replace hb14 := hb14.tr0 hs
    replace hrw := fun i hi => (hrw i hi).tr0 hs
    replace hb22 := hb22.tr0 hs
    clear hs
    have e36 := d36
    subst e36
    refine hl rfl (fun _ => r_ia (i := j) Tryd.underlying37 sz4_Unmet rfl rfl (by omega) rfl) ?_
    refine h1 rfl ?_
    refine wl_st1 (v := .bool _) hb22 rfl rfl sz4_Unmet (by rw [row_size]; omega) rfl row_set (fun w8 hq hs => ?_)
    have hsH10 := hs
    replace hB := hB.tr1 hs lo22
    replace hb14 := hb14.tr1 hs (by omega)
    replace hrw := fun i hi => (hrw i hi).tr1 hs (by first | (have := or_hrw_b22 i hi; omega) | exact fun h => absurd (blk_type (h ▸ hrw i hi) hb14) (by decide))
    clear hs
    replace hb22 := hq
    rw [row_congr (g' := fun x => .bool (if x < j + 1 then sub l k x else false)) (fun x _ => by
      by_cases e : x = j
      · subst e; simp
      · have e1 : (x < j + 1) ↔ (x < j) := by omega
        simp [e, e1])] at hb22
    refine x_nil ?_
    refine e_Hs [] ?_
    refine h_end ?_
    refine e_B ?_
    refine e_S ?_
    refine c_region ?_
    refine wl (r_add rfl rfl rfl (by omega)) ?_
    refine wl (r_mv (v := .int _ _) rfl) ?_
    refine x_nil ?_
    refine e_LS (l.length - (j + 1)) (by omega) (by repeat (first | exact ag_refl | exact ag_ovr' | refine ag_upd rfl ?_ | refine ag_sub rfl ?_ | refine ag_kn (by assumption) ?_)) ?_
    exact ⟨j + 1, by omega, rfl, rfl, hB, hb14, hb22, hrw⟩
  ·
   have hjl : j = l.length := by omega
   rw [hjl, row_congr (g' := fun x => .bool (sub l k x)) (fun x hx => by simp [hx])] at hb22
   replace hrw : ∀ i, i < k + 1 → Blk w5 (if i = k then b22 else r i) 4 (row l.length (fun j => .bool (sub l i j))) := fun i hi => by
     by_cases e : i = k
     · subst e; simp only [if_true]; exact hb22
     · simp only [if_neg e]; exact hrw i (by omega)
   refine c_exit ?_
   refine e_Sx ?_
   refine e_LSx ?_
   refine e_Bx ?_
   refine e_B ?_
   refine e_S ?_
   refine c_region ?_
   refine wl (r_add rfl rfl rfl (by omega)) ?_
   refine wl (r_mv (v := .int _ _) rfl) ?_
   refine x_nil ?_
   refine e_LS (l.length - (k + 1)) (by omega) (by repeat (first | exact ag_refl | exact ag_ovr' | refine ag_upd rfl ?_ | refine ag_sub rfl ?_ | refine ag_kn (by assumption) ?_)) ?_
   exact ⟨k + 1, fun i => if i = k then b22 else r i, by omega, rfl, rfl, hB, hb14, hrw⟩
 ·
  have hkl : k = l.length := by omega
  rw [hkl, row_congr (g' := fun i => .slice (some ⟨r i, 0, none⟩) l.length l.length) (fun j hj => by simp [rowV, hj])] at hb14
  rw [hkl] at hrw
  refine c_exit ?_
  refine e_Sx ?_
  refine e_LSx ?_
  refine e_Bx ?_
  refine e_S ?_
  refine c_seq ?_
  refine c_seq ?_
  refine c_region ?_
  refine wl (r_mv (v := .int _ _) rfl) ?_
  refine wl (r_mv (v := .int _ _) rfl) ?_
  refine x_nil ?_
  refine e_S ?_
  refine c_block ?_
  refine c_loopS [2, 7, 8, 9, 10, 41, 42, 43, 44, 45, 46, 47, 48, 49, 50, 51, 52, 53, 54, 55, 56, 57, 58, 59, 60, 61, 62, 63, 64, 65, 66, 67, 68, 69, 70, 71, 72, 73, 74, 75, 76, 77, 78, 79, 80, 81, 82] (fun m g w' => ∃ (k : Nat), k ≤ l.length ∧ m = l.length - k ∧ g 41 = .int .i64 k ∧ w2 = w' ∧ unmetF l = firstF (unmF l) k (l.length - k)) (l.length) ?_ (fun m g14 w9 hI => ?_)
  ·
   exact ⟨0, Nat.zero_le _, rfl, rfl, rfl, rfl⟩
  obtain ⟨k, hk2, hm, h41, rfl, hU⟩ := hI
  refine c_know 41 (.int .i64 k) h41 (by simp [undef]) ?_
  refine c_seq ?_
  refine c_region ?_
  refine wl (r_lss rfl rfl) ?_
  refine x_nil ?_
  refine e_S ?_
  refine c_seq ?_
  refine c_ifd rfl (fun c42 => ?_) (fun c42 => ?_)
  ·
   have hlt : k < l.length := by omega
   refine c_skip ?_
   refine e_S ?_
   refine c_seq ?_
   refine c_block ?_
   refine c_seq ?_
   refine c_region ?_
   refine wl (r_mv (v := .int _ _) rfl) ?_
   refine wl (r_as (v := .int _ _) rfl) ?_
   refine x_nil ?_
   refine e_S ?_
   refine c_seq ?_
   refine c_region ?_
   refine wl (r_mv (v := .int _ _) rfl) ?_
   refine wl (r_mv (v := .int _ _) rfl) ?_
   refine x_nil ?_
   refine e_S ?_
   refine c_block ?_
   refine c_loopS [2, 8, 9, 10, 45, 46, 47, 48, 49, 50, 51, 52, 53, 54, 55, 56, 57, 58, 59, 60, 61, 62, 63, 64, 65, 66, 67, 68, 69, 70, 71, 72, 73, 74, 75, 76, 77, 78, 79, 80, 81] (fun m g w' => ∃ (a : Nat), a ≤ k ∧ m = k - a ∧ g 45 = .int .i64 a ∧ w2 = w' ∧ (∀ j, j < a → (meet l j k).2.2 = false)) (k) ?_ (fun m g17 w10 hI => ?_)
   ·
    exact ⟨0, Nat.zero_le _, rfl, rfl, rfl, fun j hj => by omega⟩
   obtain ⟨a, ha, hma, h45, rfl, hM⟩ := hI
   refine c_know 45 (.int .i64 a) h45 (by simp [undef]) ?_
   refine c_seq ?_
   refine c_region ?_
   refine wl (r_lss rfl rfl) ?_
   refine x_nil ?_
   refine e_S ?_
   refine c_seq ?_
   refine c_ifd rfl (fun c46 => ?_) (fun c46 => ?_)
   ·
    refine c_skip ?_
    refine e_S ?_
    refine c_seq ?_
    refine c_block ?_
    refine c_seq ?_
    refine c_region ?_
    refine wl (r_mv (v := .int _ _) rfl) ?_
    refine wl (r_as (v := .int _ _) rfl) ?_
    refine x_nil ?_
    refine e_S ?_
    refine c_seq ?_
    refine c_region ?_
    refine wl (r_as (v := .int _ _) rfl) ?_
    refine x_nil ?_
    refine e_S ?_
    refine c_seq ?_
    refine c_region ?_
    refine wl (r_mv (v := .int _ _) rfl) ?_
    refine wl (r_mv (v := .int _ _) rfl) ?_
    refine x_nil ?_
    refine e_S ?_
    refine c_block ?_
    refine c_loopS [2, 9, 10, 49, 50, 51, 52, 53, 54, 55, 56, 57, 58, 59, 60, 61, 62, 63, 64, 65, 66, 67, 68, 69, 70, 71, 72, 73, 74, 75, 76, 77, 78, 79, 80] (fun m g w' => ∃ (x : Nat) (m9 : Int), x ≤ l.length ∧ m = l.length - x ∧ g 49 = .int .i64 x ∧ g 9 = .int .i64 m9 ∧ w2 = w' ∧ MS l a k x m9) (l.length) ?_ (fun m g21 w11 hI => ?_)
    ·
     exact ⟨0, -1, Nat.zero_le _, rfl, rfl, rfl, rfl, MS.start l a k⟩
    obtain ⟨x, m9, hx, hmx, h49, h9, rfl, hS⟩ := hI
    refine c_know 49 (.int .i64 x) h49 (by simp [undef]) ?_
    refine c_know 9 (.int .i64 m9) h9 (by simp [undef]) ?_
    refine c_seq ?_
    refine c_region ?_
    refine wl (r_lss rfl rfl) ?_
    refine x_nil ?_
    refine e_S ?_
    refine c_seq ?_
    refine c_ifd rfl (fun c50 => ?_) (fun c50 => ?_)
    ·
     have hlx : x < l.length := by omega
     refine c_skip ?_
     refine e_S ?_
     refine c_seq ?_
     refine c_block ?_
     refine c_seq ?_
     refine c_region ?_
     refine wl (r_mv (v := .int _ _) rfl) ?_
     refine wl (r_as (v := .int _ _) rfl) ?_
     refine x_nil ?_
     refine e_S ?_
     refine c_seq ?_
     refine c_cut1 [52, 53, 54, 55, 56, 57, 58, 59, 60, 61, 62, 63, 64, 65, 66, 67] 67 (.bool (decide (comm l a k x = true))) (by simp [undef]) ?_ (fun gq => ?_)
     ·
      refine c_region ?_
      refine wl (r_mv (v := .slice _ _ _) rfl) ?_
      refine wl (r_mv (v := .int _ _) rfl) ?_
      refine wl (r_ia (i := x) Tryd.underlying83 sz37 rfl rfl (by omega) rfl) ?_
      refine wl (r_ld1 (v := .slice _ _ _) Tryd.underlying37 rfl rfl (hb14.cell (row_get hlx))) ?_
      refine wl (r_mv (v := .int _ _) rfl) ?_
      refine wl (r_ia (i := a) Tryd.underlying37 sz4_Unmet rfl rfl (by omega) rfl) ?_
      refine wl (r_ld1 (v := .bool _) Tryd.underlying4 rfl rfl ((hrw x hlx).cell (row_get (by omega)))) ?_
      refine wl (r_mv (v := .bool _) rfl) ?_
      refine wl_cases 59 rfl (fun g59 => ?_) (fun g59 => ?_)
      ·
       refine wl_gd 59 rfl rfl ?_
       refine wl (r_mv (v := .slice _ _ _) rfl) ?_
       refine wl_gd 59 rfl rfl ?_
       refine wl (r_mv (v := .int _ _) rfl) ?_
       refine wl_gd 59 rfl rfl ?_
       refine wl (r_ia (i := x) Tryd.underlying83 sz37 rfl rfl (by omega) rfl) ?_
       refine wl_gd 59 rfl rfl ?_
       refine wl (r_ld1 (v := .slice _ _ _) Tryd.underlying37 rfl rfl (hb14.cell (row_get hlx))) ?_
       refine wl_gd 59 rfl rfl ?_
       refine wl (r_mv (v := .int _ _) rfl) ?_
       refine wl_gd 59 rfl rfl ?_
       refine wl (r_ia (i := k) Tryd.underlying37 sz4_Unmet rfl rfl (by omega) rfl) ?_
       refine wl_gd 59 rfl rfl ?_
       refine wl (r_ld1 (v := .bool _) Tryd.underlying4 rfl rfl ((hrw x hlx).cell (row_get hlt))) ?_
       refine wl (r_pt (v := .bool _) rfl rfl) ?_
       refine x_nil (e_R ⟨rfl, (by repeat (first | exact ag_refl | exact ag_ovr' | refine ag_upd rfl ?_ | refine ag_sub rfl ?_ | refine ag_kn (by assumption) ?_)), ?_⟩)
       show Value.bool _ = Value.bool _
       exact congrArg Value.bool (by simp [comm, g59])
      ·
       refine wlgn 59 rfl rfl rfl ?_
       refine wlgn 59 rfl rfl rfl ?_
       refine wlgn 59 rfl rfl rfl ?_
       refine wlgn 59 rfl rfl rfl ?_
       refine wlgn 59 rfl rfl rfl ?_
       refine wlgn 59 rfl rfl rfl ?_
       refine wlgn 59 rfl rfl rfl ?_
       refine wl (r_pf (v := .bool _) rfl rfl) ?_
       refine x_nil (e_R ⟨rfl, (by repeat (first | exact ag_refl | exact ag_ovr' | refine ag_upd rfl ?_ | refine ag_sub rfl ?_ | refine ag_kn (by assumption) ?_)), ?_⟩)
       show Value.bool _ = Value.bool _
       exact congrArg Value.bool (by simp [comm, g59])
     refine e_S ?_
     refine c_ifd rfl (fun c67 => ?_) (fun c67 => ?_)
     ·
      refine c_seq ?_
      refine c_region ?_
      refine wl (r_mv (v := .int _ _) rfl) ?_
      refine wl (r_lss rfl rfl) ?_
      refine x_nil ?_
      refine e_S ?_
      refine c_ifd rfl (fun c69 => ?_) (fun c69 => ?_)
      ·
       have hS2 := hS.first hv c69 c67
       refine c_region ?_
       refine wl (r_mv (v := .int _ _) rfl) ?_
       refine wl (r_as (v := .int _ _) rfl) ?_
       refine x_nil ?_
       refine e_B ?_
       refine e_S ?_
       refine c_region ?_
       refine wl (r_add rfl rfl rfl (by omega)) ?_
       refine wl (r_mv (v := .int _ _) rfl) ?_
       refine x_nil ?_
       refine e_LS (l.length - (x + 1)) (by omega) (by repeat (first | exact ag_refl | exact ag_ovr' | refine ag_upd rfl ?_ | refine ag_sub rfl ?_ | refine ag_kn (by assumption) ?_)) ?_
       exact ⟨x + 1, _, by omega, rfl, rfl, rfl, rfl, hS2⟩
      ·
       obtain ⟨mn, rfl, hmn, hq1, hq2, hq3⟩ := hS.pos c69
       refine c_seq ?_
       refine c_region ?_
       refine wl (r_mv (v := .slice _ _ _) rfl) ?_
       refine wl (r_mv (v := .int _ _) rfl) ?_
       refine wl (r_ia (i := x) Tryd.underlying83 sz37 rfl rfl (by omega) rfl) ?_
       refine wl (r_ld1 (v := .slice _ _ _) Tryd.underlying37 rfl rfl (hb14.cell (row_get hlx))) ?_
       refine wl (r_mv (v := .int _ _) rfl) ?_
       refine wl (r_ia (i := mn) Tryd.underlying37 sz4_Unmet rfl rfl (by omega) rfl) ?_
       refine wl (r_ld1 (v := .bool _) Tryd.underlying4 rfl rfl ((hrw x hlx).cell (row_get (by omega)))) ?_
       refine wl (r_not rfl) ?_
       refine x_nil ?_
       refine e_S ?_
       refine c_if rfl (fun c78 => ?_) (fun c78 => ?_)
       ·
        have hme := meet_yes h60 (show mn < l.length by omega) hq1 hq2 hlx c67 (by simpa using c78)
        have hun := unmF_yes (show a < k by omega) hme
        have hfin := unmI_yes (hU.trans (firstF_hit (by omega) hun (by decide)))
        refine c_seq ?_
        refine c_region ?_
        refine wl (r_mv (v := .int _ _) rfl) ?_
        refine wl (r_as (v := .int _ _) rfl) ?_
        refine x_nil ?_
        refine e_S ?_
        refine c_ret ?_
        refine e_Br ?_
        refine e_Sr ?_
        refine e_LSr ?_
        refine e_Br ?_
        refine e_Br ?_
        refine e_Sr ?_
        refine e_LSr ?_
        refine e_Br ?_
        refine e_Br ?_
        refine e_Sr ?_
        refine e_LSr ?_
        refine e_Br ?_
        refine e_Sr ?_
        refine fin1 (.inl rfl) rfl rfl ?_
        exact ⟨ret_int hfin, hB⟩
       ·
        have hS2 : MS l a k (x + 1) (mn : Int) := .some mn rfl (by omega) hq1 hq2 (fun i hi hci => by
          by_cases e : i = x
          · subst e; simpa using c78
          · exact hq3 i (by omega) hci)
        refine c_skip ?_
        refine e_B ?_
        refine e_S ?_
        refine c_region ?_
        refine wl (r_add rfl rfl rfl (by omega)) ?_
        refine wl (r_mv (v := .int _ _) rfl) ?_
        refine x_nil ?_
        refine e_LS (l.length - (x + 1)) (by omega) (by repeat (first | exact ag_refl | exact ag_ovr' | refine ag_upd rfl ?_ | refine ag_sub rfl ?_ | refine ag_kn (by assumption) ?_)) ?_
        exact ⟨x + 1, _, by omega, rfl, rfl, rfl, rfl, hS2⟩
     ·
      have hS2 := hS.skip (by simpa using c67)
      refine c_skip ?_
      refine e_B ?_
      refine e_S ?_
      refine c_region ?_
      refine wl (r_add rfl rfl rfl (by omega)) ?_
      refine wl (r_mv (v := .int _ _) rfl) ?_
      refine x_nil ?_
      refine e_LS (l.length - (x + 1)) (by omega) (by repeat (first | exact ag_refl | exact ag_ovr' | refine ag_upd rfl ?_ | refine ag_sub rfl ?_ | refine ag_kn (by assumption) ?_)) ?_
      exact ⟨x + 1, _, by omega, rfl, rfl, rfl, rfl, hS2⟩
    ·
     have hxl : x = l.length := by omega
     subst hxl
     have hme := hS.end_ hv h60
     refine c_exit ?_
     refine e_Sx ?_
     refine e_LSx ?_
     refine e_Bx ?_
     refine e_B ?_
     refine e_S ?_
     refine c_region ?_
     refine wl (r_add rfl rfl rfl (by omega)) ?_
     refine wl (r_mv (v := .int _ _) rfl) ?_
     refine x_nil ?_
     refine e_LS (k - (a + 1)) (by omega) (by repeat (first | exact ag_refl | exact ag_ovr' | refine ag_upd rfl ?_ | refine ag_sub rfl ?_ | refine ag_kn (by assumption) ?_)) ?_
     exact ⟨a + 1, by omega, rfl, rfl, rfl, fun j hj => by
       by_cases e : j = a
       · subst e; exact hme
       · exact hM j (by omega)⟩
   ·
    have hun : unmF l k = 0 := unmF_no (fun j hj => hM j (by omega))
    refine c_exit ?_
    refine e_Sx ?_
    refine e_LSx ?_
    refine e_Bx ?_
    refine e_B ?_
    refine e_S ?_
    refine c_region ?_
    refine wl (r_add rfl rfl rfl (by omega)) ?_
    refine wl (r_mv (v := .int _ _) rfl) ?_
    refine x_nil ?_
    refine e_LS (l.length - (k + 1)) (by omega) (by repeat (first | exact ag_refl | exact ag_ovr' | refine ag_upd rfl ?_ | refine ag_sub rfl ?_ | refine ag_kn (by assumption) ?_)) ?_
    exact ⟨k + 1, by omega, rfl, rfl, rfl, hU.trans (firstF_miss hlt hun)⟩
  ·
   have hfin := unmI_no (hU.trans (firstF_end (by omega)))
   refine c_exit ?_
   refine e_Sx ?_
   refine e_LSx ?_
   refine e_Bx ?_
   refine e_S ?_
   refine c_seq ?_
   refine c_region ?_
   refine wl (r_as (v := .int _ _) rfl) ?_
   refine x_nil ?_
   refine e_S ?_
   refine c_ret ?_
   refine fin1 (.inl rfl) rfl rfl ?_
   exact ⟨ret_int hfin, hB⟩
end Go.Proofs.YtahdbbgkgokkhaaDoor
