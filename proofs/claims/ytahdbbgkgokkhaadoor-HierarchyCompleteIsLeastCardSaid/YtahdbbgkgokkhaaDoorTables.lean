/- What these functions of the program compute, at every world: glosswright/hierarchy.Tables. -/
import Derived.Test.YtahdbbgkgokkhaaDoorMeet
namespace Go.Proofs.YtahdbbgkgokkhaaDoor
open Go.RowKit
/-! ## the tables as they are filled -/
def parM (l : List Ty) (k : Nat) (ps : List Int) (x : Nat) : Bool := decide (x = k) || ps.any (fun p => sub l p.toNat x)
theorem parM_zero {l : List Ty} {k : Nat} (hk : k < l.length) : mask (parM l k []) l.length = 2 ^ k := by
  rw [mask_one hk]; exact mask_congr (fun j _ => by simp [parM])
theorem parM_snoc {l : List Ty} {k j : Nat} {ps : List Int} (hj : j < ps.length) : mask (parM l k (ps.take j)) l.length ||| upN l (ps[j]).toNat = mask (parM l k (ps.take (j + 1))) l.length := by
  unfold upN
  rw [mask_or]
  refine mask_congr (fun x _ => ?_)
  simp only [parM]
  rw [List.take_succ_eq_append_getElem hj, List.any_append]
  simp [Bool.or_assoc]
theorem parM_end {l : List Ty} (hv : VT l) {k : Nat} (hk : k < l.length) : mask (parM l k (l[k]).par) l.length = upN l k := by
  unfold upN
  refine mask_congr (fun x _ => ?_)
  rw [sub_eq hv]
  have e1 : decide (x = k) = decide (k = x) := by simp only [eq_comm]
  simp only [parM, e1]
  congr 1
  simp only [parN, List.getElem?_eq_getElem hk, List.any_map]
  rfl
def upP (l : List Ty) (k i : Nat) : Nat := if i < k then upN l i else 0
def uS (l : List Ty) (k X i : Nat) : Nat := if i = k then X else upP l k i
theorem uS_k (l : List Ty) (k X : Nat) : uS l k X k = X := by simp [uS]
theorem uS_lt {l : List Ty} {k X p : Nat} (h : p < k) : uS l k X p = upN l p := by
  have : p ≠ k := by omega
  simp [uS, upP, this, h]
theorem uS_end (l : List Ty) (k i : Nat) : uS l k (upN l k) i = upP l (k + 1) i := by
  unfold uS upP
  by_cases h : i = k
  · subst h; simp
  · have : (i < k + 1) ↔ (i < k) := by omega
    simp [h, this]
def dnP (l : List Ty) (k j : Nat) : Nat := mask (fun i => decide (i < k) && sub l i j) l.length
theorem dnP_zero (l : List Ty) (j : Nat) : dnP l 0 j = 0 := mask_eq_zero.2 (fun i _ => by simp)
theorem dnP_yes {l : List Ty} {k j : Nat} (hk : k < l.length) (h : sub l k j = true) : dnP l k j ||| 2 ^ k = dnP l (k + 1) j := by
  unfold dnP
  rw [mask_one hk, mask_or]
  refine mask_congr (fun i _ => ?_)
  by_cases e : i = k
  · subst e; simp [h]
  · have e1 : decide (i < k + 1) = decide (i < k) := decide_eq_decide.2 (by omega)
    simp [e, e1]
theorem dnP_no {l : List Ty} {k j : Nat} (h : sub l k j = false) : dnP l k j = dnP l (k + 1) j := by
  unfold dnP
  refine mask_congr (fun i _ => ?_)
  by_cases e : i = k
  · subst e; simp [h]
  · have e1 : decide (i < k + 1) = decide (i < k) := decide_eq_decide.2 (by omega)
    simp [e1]
theorem dnP_end (l : List Ty) (j : Nat) : dnP l l.length j = downN l j := by
  unfold dnP downN
  exact mask_congr (fun i hi => by simp [hi])
theorem upP_end {l : List Ty} {i : Nat} (h : i < l.length) : upP l l.length i = upN l i := by simp [upP, h]
def dS (l : List Ty) (k j x : Nat) : Nat := if x < j then dnP l (k + 1) x else dnP l k x
theorem dS_j (l : List Ty) (k j : Nat) : dS l k j j = dnP l k j := by simp [dS]
theorem dS_yes {l : List Ty} {k j : Nat} (hk : k < l.length) (h : sub l k j = true) (x : Nat) : (if x = j then dS l k j j ||| 2 ^ k else dS l k j x) = dS l k (j + 1) x := by
  by_cases e : x = j
  · subst e; simp only [if_true, dS_j, dnP_yes hk h]; simp [dS]
  · have e1 : (x < j + 1) ↔ (x < j) := by omega
    simp [e, dS, e1]
theorem dS_no {l : List Ty} {k j : Nat} (h : sub l k j = false) (x : Nat) : dS l k j x = dS l k (j + 1) x := by
  by_cases e : x = j
  · subst e; rw [dS_j, dnP_no h]; simp [dS]
  · have e1 : (x < j + 1) ↔ (x < j) := by omega
    simp [dS, e1]
theorem dS_lt {l : List Ty} (h : l.length ≤ 60) (k j x : Nat) : dS l k j x < 18446744073709551616 := by
  unfold dS dnP; split <;> exact mask_lt64 _ h
theorem uS_bd {l : List Ty} (h : l.length ≤ 60) {k X x : Nat} (hX : X < 18446744073709551616) : uS l k X x < 18446744073709551616 := by
  unfold uS upP; split
  · exact hX
  · split
    · exact upN_lt h _
    · decide
theorem row_u {n : Nat} {g : Nat → Nat} {f : Nat → Nat} (h : ∀ j, j < n → g j = f j) : row n (fun j => Value.int .u64 ((g j : Nat) : Int)) = row n (fun j => Value.int .u64 ((f j : Nat) : Int)) := row_congr (fun j hj => by rw [h j hj])
theorem row_ui {n k c : Nat} {g : Nat → Nat} : row n (fun j => if j = k then Value.int .u64 (c : Int) else Value.int .u64 ((g j : Nat) : Int)) = row n (fun j => Value.int .u64 ((if j = k then c else g j : Nat) : Int)) := row_congr (fun j _ => by split <;> rfl)

theorem in49 : (Tryd.prog.info? 49).map (fun i => (i.zero, i.size, i.bytes)) = some (some (.int .u64 0), 1, 8) := by kernel_rfl
theorem sz3_Tables : (Tryd.prog.info? 3).map (·.size) = some 1 := by kernel_rfl
theorem sz33_Tables : (Tryd.prog.info? 33).map (·.size) = some 1 := by kernel_rfl
theorem sz35_Tables : (Tryd.prog.info? 35).map (·.size) = some 2 := by kernel_rfl
theorem sz45 : (Tryd.prog.info? 45).map (·.size) = some 1 := by kernel_rfl
theorem sz47 : (Tryd.prog.info? 47).map (·.size) = some 2 := by kernel_rfl
theorem sz49 : (Tryd.prog.info? 49).map (·.size) = some 1 := by kernel_rfl
theorem ze35_Tables : (Tryd.prog.info? 35).map (·.zero) = some (some (.agg #[.string ⟨#[]⟩, .slice none 0 0])) := by kernel_rfl
theorem ze47 : (Tryd.prog.info? 47).map (·.zero) = some (some (.agg #[.slice none 0 0, .slice none 0 0])) := by kernel_rfl
theorem tables_any (A : Option Addr) (c : Nat) (l : List Ty) (w : World) (hT : TypesIn w A l) (hv : VT l) (h60 : l.length ≤ 60) : Calls Tryd.prog 15 #[.slice A l.length c] w fun e w' => ∃ bu bd, e = .returned (tabV l.length bu bd) ∧ TableIn w' l bu bd ∧ Bel w w' := by
 refine enter Tryd.func15 Tryd.ntmps15 rfl (Nat.le_of_ble_eq_true rfl) ?_
 have hB : Bel w w := Below.refl _ _
 refine c_seq ?_
 refine c_region ?_
 refine wl_al (cs := #[.slice none 0 0, .slice none 0 0]) ze47 rfl (fun b2 w1 hb2 hs hr => ?_)
 have lo2 := Nat.le_trans (Bel.size hB) hr
 replace hB := hB.tr0 hs
 clear hs
 clear hr
 refine x_nil ?_
 refine e_S ?_
 refine c_seq ?_
 have z2 := hb2.lt
 have hsz := Bel.size hB
 refine c_monoTO 8 [9, 10, 11, 12, 13, 14, 15, 3] (fun ix => Nat.beq ix 2 || Nat.beq ix 5 || Nat.beq ix 7) (fun ix v wv => match ix with | 0 => v = .slice A l.length c | 1 => v = .int .i64 l.length | 2 => ∃ bu, v = .slice (some ⟨bu, 0, none⟩) l.length l.length ∧ w1.heap.size ≤ bu ∧ Blk wv bu 49 (row l.length (fun _ => .int .u64 0)) | 3 => v = .slice A l.length c | 4 => v = .int .i64 l.length | 5 => ∃ bd, v = .slice (some ⟨bd, 0, none⟩) l.length l.length ∧ w1.heap.size ≤ bd ∧ Blk wv bd 49 (row l.length (fun _ => .int .u64 0)) | 6 => ∃ bu bd, v = .agg #[.slice (some ⟨bu, 0, none⟩) l.length l.length, .slice (some ⟨bd, 0, none⟩) l.length l.length] ∧ w1.heap.size ≤ bu ∧ Blk wv bu 49 (row l.length (fun _ => .int .u64 0)) ∧ w1.heap.size ≤ bd ∧ Blk wv bd 49 (row l.length (fun _ => .int .u64 0)) ∧ bu ≠ bd | 7 => ∃ b, v = .pointer (some ⟨b, 0, none⟩) ∧ w1.heap.size ≤ b ∧ Blk wv b 47 #[.slice none 0 0, .slice none 0 0] | _ => True) (by kernel_rfl) (by kernel_rfl) ?_ ?_ ?_
 ·
  intro ix v wv wv2 h hs
  match ix, h with
  | 0, h => exact h
  | 1, h => exact h
  | 2, h =>
   obtain ⟨bu, e11, lobu, hbu⟩ := (show ∃ bu, v = .slice (some ⟨bu, 0, none⟩) l.length l.length ∧ w1.heap.size ≤ bu ∧ Blk wv bu 49 (row l.length (fun _ => .int .u64 0)) from h)
   exact ⟨bu, e11, lobu, hbu.tr0 hs⟩
  | 3, h => exact h
  | 4, h => exact h
  | 5, h =>
   obtain ⟨bd, e14, lobd, hbd⟩ := (show ∃ bd, v = .slice (some ⟨bd, 0, none⟩) l.length l.length ∧ w1.heap.size ≤ bd ∧ Blk wv bd 49 (row l.length (fun _ => .int .u64 0)) from h)
   exact ⟨bd, e14, lobd, hbd.tr0 hs⟩
  | 6, h =>
   obtain ⟨bu, bd, e15, lobu, hbu, lobd, hbd, hne⟩ := (show ∃ bu bd, v = .agg #[.slice (some ⟨bu, 0, none⟩) l.length l.length, .slice (some ⟨bd, 0, none⟩) l.length l.length] ∧ w1.heap.size ≤ bu ∧ Blk wv bu 49 (row l.length (fun _ => .int .u64 0)) ∧ w1.heap.size ≤ bd ∧ Blk wv bd 49 (row l.length (fun _ => .int .u64 0)) ∧ bu ≠ bd from h)
   exact ⟨bu, bd, e15, lobu, hbu.tr0 hs, lobd, hbd.tr0 hs, hne⟩
  | 7, h =>
   obtain ⟨b3, e3, lo3, hb3⟩ := (show ∃ b, v = .pointer (some ⟨b, 0, none⟩) ∧ w1.heap.size ≤ b ∧ Blk wv b 47 #[.slice none 0 0, .slice none 0 0] from h)
   exact ⟨b3, e3, lo3, hb3.tr0 hs⟩
  | _ + 8, h => exact trivial
 ·
  intro ix o hix hoq gg wx hs hd hdis
  match ix, hix, hoq with
  | 0, _, hoq =>
   obtain rfl : _ = o := Option.some.inj hoq
   have hs0 := hs
   clear hs
   refine os_rv (r_mv (v := .slice _ _ _) rfl) ⟨Same.refl _ _, ?_, frsh_no⟩
   exact rfl
  | 1, _, hoq =>
   obtain rfl : _ = o := Option.some.inj hoq
   have hs0 := hs
   clear hs
   have d0 : gg 9 = .slice A l.length c := hd 0 (dep_of (by kernel_rfl))
   have e9 := d0
   refine os_know 9 (.slice A l.length c) e9 (by simp [undef]) ?_
   refine os_rv (r_len Tryd.underlying22 rfl) ⟨Same.refl _ _, ?_, frsh_no⟩
   exact rfl
  | 2, _, hoq =>
   obtain rfl : _ = o := Option.some.inj hoq
   have hs0 := hs
   clear hs
   have d1 : gg 10 = .int .i64 l.length := hd 1 (dep_of (by kernel_rfl))
   have e10 := d1
   refine os_know 10 (.int .i64 l.length) e10 (by simp [undef]) ?_
   refine os_wl (fun ops Q K => ?_)
   refine wl_mkR Tryd.underlying45 in49 rfl rfl rfl (by omega) (by omega) (fun b11 w2 hb11 hs hr => ?_)
   exact K _ _ ⟨hs, ⟨_, rfl, Nat.le_trans hs0.size hr, hb11⟩, fun _ g hg => by cases hg; exact ⟨hr, hb11.lt⟩⟩
  | 3, _, hoq =>
   obtain rfl : _ = o := Option.some.inj hoq
   have hs0 := hs
   clear hs
   refine os_rv (r_mv (v := .slice _ _ _) rfl) ⟨Same.refl _ _, ?_, frsh_no⟩
   exact rfl
  | 4, _, hoq =>
   obtain rfl : _ = o := Option.some.inj hoq
   have hs0 := hs
   clear hs
   have d3 : gg 12 = .slice A l.length c := hd 3 (dep_of (by kernel_rfl))
   have e12 := d3
   refine os_know 12 (.slice A l.length c) e12 (by simp [undef]) ?_
   refine os_rv (r_len Tryd.underlying22 rfl) ⟨Same.refl _ _, ?_, frsh_no⟩
   exact rfl
  | 5, _, hoq =>
   obtain rfl : _ = o := Option.some.inj hoq
   have hs0 := hs
   clear hs
   have d4 : gg 13 = .int .i64 l.length := hd 4 (dep_of (by kernel_rfl))
   have e13 := d4
   refine os_know 13 (.int .i64 l.length) e13 (by simp [undef]) ?_
   refine os_wl (fun ops Q K => ?_)
   refine wl_mkR Tryd.underlying45 in49 rfl rfl rfl (by omega) (by omega) (fun b14 w3 hb14 hs hr => ?_)
   exact K _ _ ⟨hs, ⟨_, rfl, Nat.le_trans hs0.size hr, hb14⟩, fun _ g hg => by cases hg; exact ⟨hr, hb14.lt⟩⟩
  | 6, _, hoq =>
   obtain rfl : _ = o := Option.some.inj hoq
   have hs0 := hs
   clear hs
   have d2 : ∃ bu, gg 11 = .slice (some ⟨bu, 0, none⟩) l.length l.length ∧ w1.heap.size ≤ bu ∧ Blk wx bu 49 (row l.length (fun _ => .int .u64 0)) := hd 2 (dep_of (by kernel_rfl))
   obtain ⟨bu, e11, lobu, hbu⟩ := d2
   have d5 : ∃ bd, gg 14 = .slice (some ⟨bd, 0, none⟩) l.length l.length ∧ w1.heap.size ≤ bd ∧ Blk wx bd 49 (row l.length (fun _ => .int .u64 0)) := hd 5 (dep_of (by kernel_rfl))
   obtain ⟨bd, e14, lobd, hbd⟩ := d5
   have hne : bu ≠ bd := fun h => hdis 2 5 bu (dep_of (by kernel_rfl)) (dep_of (by kernel_rfl)) (by decide) rfl rfl (show blockOf (gg 11) = some bu by rw [e11]; rfl) (show blockOf (gg 14) = some bu by rw [e14, h]; rfl)
   refine os_know 11 (.slice (some ⟨bu, 0, none⟩) l.length l.length) e11 (by simp [undef]) ?_
   refine os_know 14 (.slice (some ⟨bd, 0, none⟩) l.length l.length) e14 (by simp [undef]) ?_
   refine os_rv (r_bd2 (v0 := .slice _ _ _) (v1 := .slice _ _ _) (fun v0 v1 => #[v0, v1]) rfl rfl (by kernel_rfl)) ⟨Same.refl _ _, ?_, frsh_no⟩
   exact ⟨_, _, rfl, lobu, hbu, lobd, hbd, hne⟩
  | 7, _, hoq =>
   obtain rfl : _ = o := Option.some.inj hoq
   have hs0 := hs
   clear hs
   refine os_wl (fun ops Q K => ?_)
   refine wl_al (cs := #[.slice none 0 0, .slice none 0 0]) ze47 rfl (fun b3 w4 hb3 hs hr => ?_)
   exact K _ _ ⟨hs, ⟨_, rfl, Nat.le_trans hs0.size hr, hb3⟩, fun _ g hg => by cases hg; exact ⟨hr, hb3.lt⟩⟩
  | _ + 8, hix, _ => exact absurd hix (by omega)
 ·
  intro gg w5 hs hR hdis
  have hs0 := hs
  replace hB := hB.tr0 hs
  replace hb2 := hb2.tr0 hs
  clear hs
  have d6 : ∃ bu bd, gg 15 = .agg #[.slice (some ⟨bu, 0, none⟩) l.length l.length, .slice (some ⟨bd, 0, none⟩) l.length l.length] ∧ w1.heap.size ≤ bu ∧ Blk w5 bu 49 (row l.length (fun _ => .int .u64 0)) ∧ w1.heap.size ≤ bd ∧ Blk w5 bd 49 (row l.length (fun _ => .int .u64 0)) ∧ bu ≠ bd := hR 6 (by decide)
  obtain ⟨bu, bd, e15, lobu, hbu, lobd, hbd, hne⟩ := d6
  have d7 : ∃ b, gg 3 = .pointer (some ⟨b, 0, none⟩) ∧ w1.heap.size ≤ b ∧ Blk w5 b 47 #[.slice none 0 0, .slice none 0 0] := hR 7 (by decide)
  obtain ⟨b3, e3, lo3, hb3⟩ := d7
  have h3u : b3 ≠ bu := fun h => absurd (blk_type (h ▸ hb3) hbu) (by decide)
  have h3d : b3 ≠ bd := fun h => absurd (blk_type (h ▸ hb3) hbd) (by decide)
  have or_2_3 : b2 < b3 := Nat.lt_of_lt_of_le z2 lo3
  have or_2_u : b2 < bu := Nat.lt_of_lt_of_le z2 lobu
  have or_2_d : b2 < bd := Nat.lt_of_lt_of_le z2 lobd
  replace lo3 := Nat.le_trans hsz lo3
  replace lobu := Nat.le_trans hsz lobu
  replace lobd := Nat.le_trans hsz lobd
  refine wl_know 15 (.agg #[.slice (some ⟨bu, 0, none⟩) l.length l.length, .slice (some ⟨bd, 0, none⟩) l.length l.length]) e15 (by simp [undef]) ?_
  refine wl_know 3 (.pointer (some ⟨b3, 0, none⟩)) e3 (by simp [undef]) ?_
  refine wl_stW hb3 rfl rfl sz47 rfl (by repeat (first | rfl | refine one_cons (by first | rfl | assumption) ?_)) (fun w6 hq hs => ?_)
  replace hB := hB.tr1 hs lo3
  replace hb2 := hb2.tr1 hs (by omega)
  replace hbu := hbu.tr1 hs (by omega)
  replace hbd := hbd.tr1 hs (by omega)
  clear hs
  replace hb3 := hq
  refine x_nil ?_
  refine e_S ?_
  refine c_seq ?_
  refine c_seq ?_
  refine c_region ?_
  refine wl (r_mv (v := .slice _ _ _) rfl) ?_
  refine wl (r_len Tryd.underlying22 rfl) ?_
  refine wl (r_mv (v := .int _ _) rfl) ?_
  refine x_nil ?_
  refine e_S ?_
  refine c_block ?_
  refine c_loopS [4, 5, 7, 8, 18, 19, 20, 21, 22, 23, 24, 25, 26, 27, 28, 29, 30, 31, 32, 33, 34, 35, 36, 37, 38, 39, 40, 41, 42, 43, 44, 45, 46, 47, 48, 49, 50, 51, 52, 53, 54, 55, 56, 57, 58, 59, 60, 61, 62, 63, 64, 65, 66, 67, 68, 69, 70, 71, 72, 73] (fun m g w' => ∃ (k : Nat), k ≤ l.length ∧ m = l.length - k ∧ g 18 = .int .i64 k ∧ Bel w w' ∧ Blk w' b2 47 #[.slice none 0 0, .slice none 0 0] ∧ Blk w' b3 47 #[.slice (some ⟨bu, 0, none⟩) l.length l.length, .slice (some ⟨bd, 0, none⟩) l.length l.length] ∧ Blk w' bu 49 (row l.length (fun i => .int .u64 ((upP l k i : Nat) : Int))) ∧ Blk w' bd 49 (row l.length (fun i => .int .u64 ((dnP l k i : Nat) : Int)))) (l.length) ?_ (fun m g3 w7 hI => ?_)
  ·
   refine ⟨0, Nat.zero_le _, rfl, rfl, hB, hb2, hb3, ?_, ?_⟩
   · rw [row_u (f := fun _ => 0) (fun j _ => by simp [upP])]; exact hbu
   · rw [row_u (f := fun _ => 0) (fun j _ => dnP_zero l j)]; exact hbd
  obtain ⟨k, hk, hm, h18, hB, hb2, hb3, hbu, hbd⟩ := hI
  refine c_know 18 (.int .i64 k) h18 (by simp [undef]) ?_
  refine c_seq ?_
  refine c_region ?_
  refine wl (r_lss rfl rfl) ?_
  refine x_nil ?_
  refine e_S ?_
  refine c_seq ?_
  refine c_ifd rfl (fun c19 => ?_) (fun c19 => ?_)
  ·
   have hlt : k < l.length := by omega
   obtain ⟨tb, to, A', cp, rfl, htb, htr, hpar⟩ := hT.at_ hB hlt
   have hmx := hpar.1
   unfold maxI at hmx
   refine c_skip ?_
   refine e_S ?_
   refine c_seq ?_
   refine c_block ?_
   refine c_seq ?_
   refine c_region ?_
   refine wl (r_mv (v := .int _ _) rfl) ?_
   refine wl (r_ia (i := k) Tryd.underlying22 sz35_Tables rfl rfl (by omega) rfl) ?_
   refine wl (r_ldS Tryd.underlying35 rfl rfl htr sz35_Tables) ?_
   refine wl_al (cs := #[.string ⟨#[]⟩, .slice none 0 0]) ze35_Tables rfl (fun b5 w8 hb5 hs hr => ?_)
   have or_b2_b5 : b2 < b5 := Nat.lt_of_lt_of_le hb2.lt hr
   have or_bu_b5 : bu < b5 := Nat.lt_of_lt_of_le hbu.lt hr
   have or_bd_b5 : bd < b5 := Nat.lt_of_lt_of_le hbd.lt hr
   have or_b3_b5 : b3 < b5 := Nat.lt_of_lt_of_le hb3.lt hr
   have lo5 := Nat.le_trans (Bel.size hB) hr
   replace hB := hB.tr0 hs
   replace hb2 := hb2.tr0 hs
   replace hbu := hbu.tr0 hs
   replace hbd := hbd.tr0 hs
   replace hb3 := hb3.tr0 hs
   clear hs
   clear hr
   refine wl (r_as (v := .int _ _) rfl) ?_
   refine wl_stW hb5 rfl rfl sz35_Tables rfl (by repeat (first | rfl | refine one_cons (by first | rfl | assumption) ?_)) (fun w9 hq hs => ?_)
   replace hB := hB.tr1 hs lo5
   replace hb2 := hb2.tr1 hs (by omega)
   replace hbu := hbu.tr1 hs (by omega)
   replace hbd := hbd.tr1 hs (by omega)
   replace hb3 := hb3.tr1 hs (by omega)
   clear hs
   replace hb5 := hq
   refine x_nil ?_
   refine e_S ?_
   refine c_seq ?_
   refine c_tail 6 (by kernel_rfl) (by kernel_rfl) (fun w10 hs => ?_)
   replace hB := hB.tr0 hs
   replace hb2 := hb2.tr0 hs
   replace hbu := hbu.tr0 hs
   replace hbd := hbd.tr0 hs
   replace hb3 := hb3.tr0 hs
   replace hb5 := hb5.tr0 hs
   clear hs
   refine ws (r_fa Tryd.underlying47 sz45 (by decide) rfl rfl rfl) ?_
   refine ws (r_ld1 (v := .slice _ _ _) Tryd.underlying45 rfl rfl (hb3.cell rfl)) ?_
   refine ws (r_mv (v := .int _ _) rfl) ?_
   refine ws (r_mv (v := .int _ _) rfl) ?_
   refine ws (r_shl1 rfl rfl (by omega) rfl) ?_
   refine ws (r_ia (i := k) Tryd.underlying45 sz49 rfl rfl (by omega) rfl) ?_
   refine s_tail ?_
   refine wl_st1 (v := .int _ _) hbu rfl rfl sz49 (by rw [row_size]; omega) rfl row_set (fun w11 hq hs => ?_)
   replace hB := hB.tr1 hs lobu
   replace hb2 := hb2.tr1 hs (by omega)
   replace hbd := hbd.tr1 hs (by omega)
   replace hb3 := hb3.tr1 hs (by omega)
   replace hb5 := hb5.tr1 hs (by omega)
   clear hs
   replace hbu := hq
   replace hbu : Blk w11 bu 49 (row l.length (fun i => .int .u64 ((uS l k (mask (parM l k ((l[k]'hlt).par.take 0)) l.length) i : Nat) : Int))) := by
     rw [row_ui (g := fun i => upP l k i)] at hbu
     rw [row_u (f := fun i => if i = k then 2 ^ k else upP l k i) (fun j _ => by rw [List.take_zero, parM_zero hlt]; rfl)]
     exact hbu
   refine x_nil ?_
   refine e_S ?_
   refine c_seq ?_
   refine c_seq ?_
   refine c_region ?_
   refine wl (r_fa Tryd.underlying35 sz33_Tables (by decide) rfl rfl rfl) ?_
   refine wl (r_ld1 (v := .slice _ _ _) Tryd.underlying33 rfl rfl (hb5.cell rfl)) ?_
   refine wl (r_len Tryd.underlying33 rfl) ?_
   refine wl (r_mv (v := .int _ _) rfl) ?_
   refine x_nil ?_
   refine e_S ?_
   refine c_block ?_
   refine c_loopS [7, 32, 33, 34, 35, 36, 37, 38, 39, 40, 41, 42, 43, 44, 45, 46, 47, 48] (fun m g w' => ∃ (j : Nat), j ≤ (l[k]'hlt).par.length ∧ m = (l[k]'hlt).par.length - j ∧ g 32 = .int .i64 j ∧ Bel w w' ∧ Blk w' b2 47 #[.slice none 0 0, .slice none 0 0] ∧ Blk w' b3 47 #[.slice (some ⟨bu, 0, none⟩) l.length l.length, .slice (some ⟨bd, 0, none⟩) l.length l.length] ∧ Blk w' bu 49 (row l.length (fun i => .int .u64 ((uS l k (mask (parM l k ((l[k]'hlt).par.take j)) l.length) i : Nat) : Int))) ∧ Blk w' bd 49 (row l.length (fun i => .int .u64 ((dnP l k i : Nat) : Int))) ∧ Blk w' b5 35 #[.string (l[k]'hlt).name, .slice A' (l[k]'hlt).par.length cp]) ((l[k]'hlt).par.length) ?_ (fun m g7 w12 hI => ?_)
   ·
    exact ⟨0, Nat.zero_le _, rfl, rfl, hB, hb2, hb3, hbu, hbd, hb5⟩
   obtain ⟨j, hj, hmj, h32, hB, hb2, hb3, hbu, hbd, hb5⟩ := hI
   refine c_know 32 (.int .i64 j) h32 (by simp [undef]) ?_
   refine c_seq ?_
   refine c_region ?_
   refine wl (r_lss rfl rfl) ?_
   refine x_nil ?_
   refine e_S ?_
   refine c_seq ?_
   refine c_ifd rfl (fun c33 => ?_) (fun c33 => ?_)
   ·
    have hlj : j < (l[k]'hlt).par.length := by omega
    obtain ⟨pb, po, rfl, hpb, hpc⟩ := hpar.at_ hlj
    replace hpc := hB.cell hpb hpc
    have hpr := hv k hlt _ (List.getElem_mem hlj)
    obtain ⟨pn, hpn⟩ : ∃ pn : Nat, pn = ((l[k]'hlt).par[j]).toNat := ⟨_, rfl⟩
    have hpi : (l[k]'hlt).par[j] = (pn : Int) := by rw [hpn]; exact (Int.toNat_of_nonneg hpr.1).symm
    rw [hpi] at hpc hpr
    have hXl := mask_lt64 (parM l k ((l[k]'hlt).par.take j)) h60
    refine c_skip ?_
    refine e_S ?_
    refine c_seq ?_
    refine c_block ?_
    refine c_seq ?_
    refine c_region ?_
    refine wl (r_ia (i := j) Tryd.underlying33 sz3_Tables rfl rfl (by omega) rfl) ?_
    refine wl (r_ld1 (v := .int _ _) Tryd.underlying3 rfl rfl hpc) ?_
    refine wl (r_as (v := .int _ _) rfl) ?_
    refine x_nil ?_
    refine e_S ?_
    refine c_tail 12 (by kernel_rfl) (by kernel_rfl) (fun w13 hs => ?_)
    replace hB := hB.tr0 hs
    replace hb2 := hb2.tr0 hs
    replace hbu := hbu.tr0 hs
    replace hbd := hbd.tr0 hs
    replace hb3 := hb3.tr0 hs
    replace hb5 := hb5.tr0 hs
    clear hs
    refine ws (r_fa Tryd.underlying47 sz45 (by decide) rfl rfl rfl) ?_
    refine ws (r_ld1 (v := .slice _ _ _) Tryd.underlying45 rfl rfl (hb3.cell rfl)) ?_
    refine ws (r_mv (v := .int _ _) rfl) ?_
    refine ws (r_ia (i := k) Tryd.underlying45 sz49 rfl rfl (by omega) rfl) ?_
    refine ws (r_ld1 (v := .int _ _) Tryd.underlying49 rfl rfl (hbu.cell (row_get hlt))) ?_
    refine ws (r_fa Tryd.underlying47 sz45 (by decide) rfl rfl rfl) ?_
    refine ws (r_ld1 (v := .slice _ _ _) Tryd.underlying45 rfl rfl (hb3.cell rfl)) ?_
    refine ws (r_mv (v := .int _ _) rfl) ?_
    refine ws (r_ia (i := pn) Tryd.underlying45 sz49 rfl rfl (by omega) rfl) ?_
    refine ws (r_ld1 (v := .int _ _) Tryd.underlying49 rfl rfl (hbu.cell (row_get (by omega)))) ?_
    refine ws (r_orU rfl rfl (uS_bd h60 hXl) (uS_bd h60 hXl)) ?_
    refine ws (r_ia (i := k) Tryd.underlying45 sz49 rfl rfl (by omega) rfl) ?_
    refine s_tail ?_
    refine wl_st1 (v := .int _ _) hbu rfl rfl sz49 (by rw [row_size]; omega) rfl row_set (fun w14 hq hs => ?_)
    replace hB := hB.tr1 hs lobu
    replace hb2 := hb2.tr1 hs (by omega)
    replace hbd := hbd.tr1 hs (by omega)
    replace hb3 := hb3.tr1 hs (by omega)
    replace hb5 := hb5.tr1 hs (by omega)
    clear hs
    replace hbu := hq
    replace hbu : Blk w14 bu 49 (row l.length (fun i => .int .u64 ((uS l k (mask (parM l k ((l[k]'hlt).par.take (j + 1))) l.length) i : Nat) : Int))) := by
      rw [row_ui (g := fun i => uS l k (mask (parM l k ((l[k]'hlt).par.take j)) l.length) i)] at hbu
      rw [row_u (f := fun i => if i = k then uS l k (mask (parM l k ((l[k]'hlt).par.take j)) l.length) k ||| uS l k (mask (parM l k ((l[k]'hlt).par.take j)) l.length) pn else uS l k (mask (parM l k ((l[k]'hlt).par.take j)) l.length) i) (fun i _ => by
        rw [uS_k, uS_lt (show pn < k by omega), hpn, parM_snoc hlj]
        by_cases e : i = k
        · simp [e, uS_k]
        · simp [e, uS])]
      exact hbu
    refine x_nil ?_
    refine e_B ?_
    refine e_S ?_
    refine c_region ?_
    refine wl (r_add rfl rfl rfl (by omega)) ?_
    refine wl (r_mv (v := .int _ _) rfl) ?_
    refine x_nil ?_
    refine e_LS ((l[k]'hlt).par.length - (j + 1)) (by omega) (by repeat (first | exact ag_refl | exact ag_ovr' | refine ag_upd rfl ?_ | refine ag_sub rfl ?_ | refine ag_kn (by assumption) ?_)) ?_
    exact ⟨j + 1, by omega, rfl, rfl, hB, hb2, hb3, hbu, hbd, hb5⟩
   ·
    have hjl : j = (l[k]'hlt).par.length := by omega
    rw [hjl, List.take_length, parM_end hv hlt, row_u (f := fun i => upP l (k + 1) i) (fun i _ => uS_end l k i)] at hbu
    refine c_exit ?_
    refine e_Sx ?_
    refine e_LSx ?_
    refine e_Bx ?_
    refine e_S ?_
    refine c_seq ?_
    refine c_region ?_
    refine wl (r_mv (v := .slice _ _ _) rfl) ?_
    refine wl (r_len Tryd.underlying22 rfl) ?_
    refine wl (r_mv (v := .int _ _) rfl) ?_
    refine x_nil ?_
    refine e_S ?_
    refine c_block ?_
    refine c_loopS [8, 51, 52, 53, 54, 55, 56, 57, 58, 59, 60, 61, 62, 63, 64, 65, 66, 67, 68, 69, 70, 71, 72] (fun m g w' => ∃ (j : Nat), j ≤ l.length ∧ m = l.length - j ∧ g 51 = .int .i64 j ∧ Bel w w' ∧ Blk w' b2 47 #[.slice none 0 0, .slice none 0 0] ∧ Blk w' b3 47 #[.slice (some ⟨bu, 0, none⟩) l.length l.length, .slice (some ⟨bd, 0, none⟩) l.length l.length] ∧ Blk w' bu 49 (row l.length (fun i => .int .u64 ((upP l (k + 1) i : Nat) : Int))) ∧ Blk w' bd 49 (row l.length (fun i => .int .u64 ((dS l k j i : Nat) : Int)))) (l.length) ?_ (fun m g12 w15 hI => ?_)
    ·
     refine ⟨0, Nat.zero_le _, rfl, rfl, hB, hb2, hb3, hbu, ?_⟩
     rw [row_u (f := fun i => dnP l k i) (fun i _ => by simp [dS])]; exact hbd
    obtain ⟨j, hj, hmj, h51, hB, hb2, hb3, hbu, hbd⟩ := hI
    refine c_know 51 (.int .i64 j) h51 (by simp [undef]) ?_
    refine c_seq ?_
    refine c_region ?_
    refine wl (r_lss rfl rfl) ?_
    refine x_nil ?_
    refine e_S ?_
    refine c_seq ?_
    refine c_ifd rfl (fun c52 => ?_) (fun c52 => ?_)
    ·
     have hlj : j < l.length := by omega
     have huk : upP l (k + 1) k = upN l k := by simp [upP]
     have huv := upN_lt h60 k
     have hbit := shift_bit (upN l k) j
     have hbt : (upN l k).testBit j = sub l k j := by unfold upN; rw [mask_bit]; simp [hlj]
     rw [hbt] at hbit
     refine c_skip ?_
     refine e_S ?_
     refine c_seq ?_
     refine c_block ?_
     refine c_seq ?_
     refine c_region ?_
     refine wl (r_mv (v := .int _ _) rfl) ?_
     refine wl (r_as (v := .int _ _) rfl) ?_
     refine x_nil ?_
     refine e_S ?_
     refine c_seq ?_
     refine c_region ?_
     refine wl (r_fa Tryd.underlying47 sz45 (by decide) rfl rfl rfl) ?_
     refine wl (r_ld1 (v := .slice _ _ _) Tryd.underlying45 rfl rfl (hb3.cell rfl)) ?_
     refine wl (r_mv (v := .int _ _) rfl) ?_
     refine wl (r_ia (i := k) Tryd.underlying45 sz49 rfl rfl (by omega) rfl) ?_
     refine wl (r_ld1 (v := .int _ _) Tryd.underlying49 rfl rfl (hbu.cell (row_get hlt))) ?_
     refine wl (r_mv (v := .int _ _) rfl) ?_
     refine wl (r_shr (b := j) rfl rfl (by omega) rfl) ?_
     refine wl (r_andU (b := 1) rfl rfl (by rw [huk]; exact Nat.lt_of_le_of_lt (Nat.shiftRight_le _ _) huv) (by decide)) ?_
     refine wl (r_eql rfl rfl) ?_
     refine x_nil ?_
     refine e_S ?_
     refine c_ifd rfl (fun c62 => ?_) (fun c62 => ?_)
     ·
      have hs1 : sub l k j = true := by rw [← hbit]; exact decide_eq_true (by rw [huk] at c62; omega)
      refine c_tail 9 (by kernel_rfl) (by kernel_rfl) (fun w16 hs => ?_)
      replace hB := hB.tr0 hs
      replace hb2 := hb2.tr0 hs
      replace hbu := hbu.tr0 hs
      replace hbd := hbd.tr0 hs
      replace hb3 := hb3.tr0 hs
      clear hs
      refine ws (r_fa Tryd.underlying47 sz45 (by decide) rfl rfl rfl) ?_
      refine ws (r_ld1 (v := .slice _ _ _) Tryd.underlying45 rfl rfl (hb3.cell rfl)) ?_
      refine ws (r_mv (v := .int _ _) rfl) ?_
      refine ws (r_ia (i := j) Tryd.underlying45 sz49 rfl rfl (by omega) rfl) ?_
      refine ws (r_ld1 (v := .int _ _) Tryd.underlying49 rfl rfl (hbd.cell (row_get hlj))) ?_
      refine ws (r_mv (v := .int _ _) rfl) ?_
      refine ws (r_shl1 rfl rfl (by omega) rfl) ?_
      refine ws (r_orU rfl rfl (dS_lt h60 _ _ _) (Nat.lt_of_lt_of_le (Nat.pow_lt_pow_right (by decide) (show k < 60 by omega)) (by decide))) ?_
      refine ws (r_ia (i := j) Tryd.underlying45 sz49 rfl rfl (by omega) rfl) ?_
      refine s_tail ?_
      refine wl_st1 (v := .int _ _) hbd rfl rfl sz49 (by rw [row_size]; omega) rfl row_set (fun w17 hq hs => ?_)
      replace hB := hB.tr1 hs lobd
      replace hb2 := hb2.tr1 hs (by omega)
      replace hbu := hbu.tr1 hs (by omega)
      replace hb3 := hb3.tr1 hs (by omega)
      clear hs
      replace hbd := hq
      rw [row_ui (g := fun i => dS l k j i), row_u (f := fun i => dS l k (j + 1) i) (fun i _ => dS_yes hlt hs1 i)] at hbd
      refine x_nil ?_
      refine e_B ?_
      refine e_S ?_
      refine c_region ?_
      refine wl (r_add rfl rfl rfl (by omega)) ?_
      refine wl (r_mv (v := .int _ _) rfl) ?_
      refine x_nil ?_
      refine e_LS (l.length - (j + 1)) (by omega) (by repeat (first | exact ag_refl | exact ag_ovr' | refine ag_upd rfl ?_ | refine ag_sub rfl ?_ | refine ag_kn (by assumption) ?_)) ?_
      exact ⟨j + 1, by omega, rfl, rfl, hB, hb2, hb3, hbu, hbd⟩
     ·
      have hs1 : sub l k j = false := by rw [← hbit]; exact decide_eq_false (by rw [huk] at c62; omega)
      rw [row_u (f := fun i => dS l k (j + 1) i) (fun i _ => dS_no hs1 i)] at hbd
      refine c_skip ?_
      refine e_B ?_
      refine e_S ?_
      refine c_region ?_
      refine wl (r_add rfl rfl rfl (by omega)) ?_
      refine wl (r_mv (v := .int _ _) rfl) ?_
      refine x_nil ?_
      refine e_LS (l.length - (j + 1)) (by omega) (by repeat (first | exact ag_refl | exact ag_ovr' | refine ag_upd rfl ?_ | refine ag_sub rfl ?_ | refine ag_kn (by assumption) ?_)) ?_
      exact ⟨j + 1, by omega, rfl, rfl, hB, hb2, hb3, hbu, hbd⟩
    ·
     have hjl : j = l.length := by omega
     rw [hjl, row_u (f := fun i => dnP l (k + 1) i) (fun i hi => by simp [dS, hi])] at hbd
     refine c_exit ?_
     refine e_Sx ?_
     refine e_LSx ?_
     refine e_Bx ?_
     refine e_B ?_
     refine e_S ?_
     refine c_region ?_
     refine wl (r_add rfl rfl rfl (by omega)) ?_
     refine wl (r_mv (v := .int _ _) rfl) ?_
     refine x_nil ?_
     refine e_LS (l.length - (k + 1)) (by omega) (by repeat (first | exact ag_refl | exact ag_ovr' | refine ag_upd rfl ?_ | refine ag_sub rfl ?_ | refine ag_kn (by assumption) ?_)) ?_
     exact ⟨k + 1, by omega, rfl, rfl, hB, hb2, hb3, hbu, hbd⟩
  ·
   have hkl : k = l.length := by omega
   subst hkl
   refine c_exit ?_
   refine e_Sx ?_
   refine e_LSx ?_
   refine e_Bx ?_
   refine e_S ?_
   refine c_seq ?_
   refine c_region ?_
   refine wl (r_ldS Tryd.underlying47 rfl rfl hb3.range0 sz47) ?_
   refine wl_stW hb2 rfl rfl sz47 rfl (by repeat (first | rfl | refine one_cons (by first | rfl | assumption) ?_)) (fun w18 hq hs => ?_)
   replace hB := hB.tr1 hs lo2
   replace hbu := hbu.tr1 hs (by omega)
   replace hbd := hbd.tr1 hs (by omega)
   replace hb3 := hb3.tr1 hs (by omega)
   clear hs
   replace hb2 := hq
   refine x_nil ?_
   refine e_S ?_
   refine c_ret ?_
   refine fin1 (.inl rfl) rfl (rr_cell Tryd.underlying47 rfl rfl hb2.range0 sz47) ?_
   refine ⟨bu, bd, rfl, ⟨?_, ?_⟩, hB⟩
   · rw [row_u (f := upN l) (fun i hi => upP_end hi)] at hbu; exact hbu
   · rw [row_u (f := downN l) (fun i _ => dnP_end l i)] at hbd; exact hbd
end Go.Proofs.YtahdbbgkgokkhaaDoor
