/- What these functions of the program compute, at every world: glosswright/glosswrightref4.Mapped. -/
import Derived.Test.YtfhmpbmgddaiiaaDoorU
import Derived.Test.YtfhmpbmgddaiiaaDoorSFind
namespace Go.Proofs.YtfhmpbmgddaiiaaDoor
open Go.RowKit
def ImgI (p : Nat → Nat → Bool) (i j : Nat) (im : Int) : Prop := (im = -1 ∧ ∀ y, y < j → p i y = false) ∨ ∃ z : Nat, im = (z : Int) ∧ z < j ∧ p i z = true ∧ ∀ y, y < j → p i y = true → y = z
theorem img_zero (p : Nat → Nat → Bool) (i : Nat) : ImgI p i 0 (-1) := .inl ⟨rfl, fun y hy => absurd hy (Nat.not_lt_zero _)⟩
theorem img_two {p : Nat → Nat → Bool} {i j : Nat} {im : Int} (h : ImgI p i j im) (h0 : 0 ≤ im) : ∃ z, z ≠ j ∧ p i z = true := by
  rcases h with ⟨h1, _⟩ | ⟨z, _, h2, h3, _⟩
  · omega
  · exact ⟨z, by omega, h3⟩
theorem img_yes {p : Nat → Nat → Bool} {i j : Nat} {im : Int} (h : ImgI p i j im) (h0 : im < 0) (hp : p i j = true) : ImgI p i (j + 1) (j : Int) := by
  rcases h with ⟨_, h2⟩ | ⟨z, h1, _⟩
  · refine .inr ⟨j, rfl, Nat.lt_succ_self j, hp, fun y hy hpy => ?_⟩
    by_cases e : y = j
    · exact e
    · rw [h2 y om] at hpy; cases hpy
  · omega
theorem img_no {p : Nat → Nat → Bool} {i j : Nat} {im : Int} (h : ImgI p i j im) (hp : p i j = false) : ImgI p i (j + 1) im := by
  rcases h with ⟨h1, h2⟩ | ⟨z, h1, h0, h2, h3⟩
  · refine .inl ⟨h1, fun y hy => ?_⟩
    by_cases e : y = j
    · rw [e]; exact hp
    · exact h2 y om
  · refine .inr ⟨z, h1, by omega, h2, fun y hy hpy => ?_⟩
    by_cases e : y = j
    · rw [e, hp] at hpy; cases hpy
    · exact h3 y om hpy
theorem xs_snoc {p : Nat → Nat → Bool} {i nb : Nat} {im : Int} {xs : List Int} (hl : xs.length = i) (h : ∀ k (hk : k < xs.length), (xs[k] = -1 ∧ ∀ y, y < nb → p k y = false) ∨ ∃ z : Nat, xs[k] = (z : Int) ∧ p k z = true ∧ ∀ y, y < nb → p k y = true → y = z) (him : ImgI p i nb im) : ∀ k (hk : k < (xs ++ [im]).length), ((xs ++ [im])[k] = -1 ∧ ∀ y, y < nb → p k y = false) ∨ ∃ z : Nat, (xs ++ [im])[k] = (z : Int) ∧ p k z = true ∧ ∀ y, y < nb → p k y = true → y = z := fun k hk => by
  by_cases e : k < xs.length
  · rw [List.getElem_append_left e]; exact h k e
  · have e2 : k = i := by simp at hk; omega
    subst e2
    have e3 : (xs ++ [im])[k] = im := by rw [List.getElem_append_right om]; simp [hl]
    rw [e3]
    exact him.imp id (fun ⟨z, h1, _, h2, h3⟩ => ⟨z, h1, h2, h3⟩)
theorem mp_ret {l : List Ty} {ga gb : List Nd} {A : Option Addr} {c : Nat} {xs : List Int} (h : Maps l ga gb) (hx : xs = mapF l ga gb) : Ending.returned (.tuple #[.slice A xs.length c, .bool true]) = .returned (.tuple #[.slice A (mapF l ga gb).length c, .bool (decide (Maps l ga gb))]) := by rw [hx, decide_eq_true h]
theorem fn24_SMapped : callable Tryd.prog 24 = true := by kernel_rfl
theorem fn29 : callable Tryd.prog 29 = true := by kernel_rfl
theorem in4_SMapped : (Tryd.prog.info? 4).map (fun i => (i.zero, i.size, i.bytes)) = some (some (.bool false), 1, 1) := by kernel_rfl
theorem in73_SMapped : (Tryd.prog.info? 73).map (fun i => (i.zero, i.size, i.bytes)) = some (some (.slice none 0 0), 1, 24) := by kernel_rfl
theorem sz4_SMapped : (Tryd.prog.info? 4).map (·.size) = some 1 := by kernel_rfl
theorem sz73_SMapped : (Tryd.prog.info? 73).map (·.size) = some 1 := by kernel_rfl
theorem ze33_SMapped : (Tryd.prog.info? 33).map (·.zero) = some (some (.agg #[.int .i64 0, .slice none 0 0])) := by kernel_rfl
set_option maxHeartbeats 2000000 in
theorem mappedL_any (A B G1 G2 : Option Addr) (c d c1 c2 : Nat) (l : List Ty) (fs : List Ft) (ga gb : List Nd) (w : World) (hT : TypesIn w A l) (hG1 : NodesIn w G1 ga) (hG2 : NodesIn w G2 gb) (hs : Sound l) (hf40 : fs.length ≤ 40) (hk : GOk l.length fs.length ga) (hrch : ∀ i, i < ga.length → Rch ga i) (hkb : GOk l.length fs.length gb) : Calls Tryd.prog 13 #[.agg #[.slice A l.length c, .slice B fs.length d], .agg #[.slice G1 ga.length c1], .agg #[.slice G2 gb.length c2]] w fun e w' => (∃ MA mc, e = .returned (.tuple #[.slice MA (mapF l ga gb).length mc, .bool (decide (Maps l ga gb))]) ∧ IntsIn w' MA (mapF l ga gb)) ∧ Bel w w' := by
 have hn6 := hk.le
 have hn0 := hk.pos
 have hb6 := hkb.le
 have hb0 := hkb.pos
 have hl60 := hs.le
 have hvt := hs.vt
 refine enter Tryd.func13 Tryd.ntmps13 rfl (Nat.le_of_ble_eq_true rfl) ?_
 have hB : Bel w w := Below.refl _ _
 refine c_seq (c_region ?_)
 refine wl_bx (v := .agg #[_, _]) (cs := #[_, _]) rfl rfl (fun b3 w1 hb3 hs hr => ?_)
 have lo3 := nLT (Bel.size hB) hr
 replace hB := hB.tr0 hs
 clear hs
 clear hr
 refine wl_bx (v := .agg #[_]) (cs := #[_]) rfl rfl (fun b4 w2 hb4 hs hr => ?_)
 have or_b3_b4 : b3 < b4 := nLL hb3.lt hr
 have lo4 := nLT (Bel.size hB) hr
 replace hB := hB.tr0 hs
 replace hb3 := hb3.tr0 hs
 clear hs
 clear hr
 refine wl_bx (v := .agg #[_]) (cs := #[_]) rfl rfl (fun b5 w3 hb5 hs hr => ?_)
 have or_b3_b5 : b3 < b5 := nLL hb3.lt hr
 have or_b4_b5 : b4 < b5 := nLL hb4.lt hr
 have lo5 := nLT (Bel.size hB) hr
 replace hB := hB.tr0 hs
 replace hb3 := hb3.tr0 hs
 replace hb4 := hb4.tr0 hs
 clear hs
 clear hr
 refine waS rfl (waB rfl (x_nil (e_S (c_seq (c_region ?_)))))
 refine wl (r_fa U28 sz26_GTgt dE rfl rfl rfl) (wl (r_ld1 (v := .slice _ _ _) U26 rfl rfl (hb4.cell rfl)) (wl (r_len U26 rfl) ?_))
 refine wl_mkR (m := ga.length) U72 in73_SMapped rfl rfl rfl om om (fun b24 w4 hb24 hs hr => ?_)
 have or_b3_b24 : b3 < b24 := nLL hb3.lt hr
 have or_b4_b24 : b4 < b24 := nLL hb4.lt hr
 have or_b5_b24 : b5 < b24 := nLL hb5.lt hr
 have lo24 := nLT (Bel.size hB) hr
 replace hB := hB.tr0 hs
 replace hb3 := hb3.tr0 hs
 replace hb4 := hb4.tr0 hs
 replace hb5 := hb5.tr0 hs
 clear hs
 clear hr
 refine waS rfl (x_nil (e_S (c_seq (c_seq (c_region ?_)))))
 refine wmS rfl (wl (r_len U72 rfl) (wmI rfl (x_nil (e_S (c_block ?_)))))
 refine c_loopS [9, 27, 28, 29, 30, 31, 32, 33, 34, 35, 36, 37] (fun m g w' => ∃ (k : Nat) (r : Nat → Nat), k ≤ ga.length ∧ m = ga.length - k ∧ g 27 = .int .i64 k ∧ Bel w w' ∧ Blk w' b3 25 #[.slice A l.length c, .slice B fs.length d] ∧ Blk w' b4 28 #[.slice G1 ga.length c1] ∧ Blk w' b5 28 #[.slice G2 gb.length c2] ∧ Blk w' b24 73 (row ga.length (fun i => rowV gb.length r k i)) ∧ (∀ i, i < k → Blk w' (r i) 4 (row gb.length (fun y => .bool (false)))) ∧ (∀ i, i < k → b24 < r i) ∧ (∀ i j, i < k → j < k → r i = r j → i = j)) (ga.length) ?_ (fun m g3 w5 hI => ?_)
 ·
  refine ⟨0, fun _ => 0, Nat.zero_le _, rfl, rfl, hB, hb3, hb4, hb5, ?_, fun i hi => absurd hi (Nat.not_lt_zero _), fun i hi => absurd hi (Nat.not_lt_zero _), fun i _ hi => absurd hi (Nat.not_lt_zero _)⟩
  rw [row_congr (g' := fun _ => .slice none 0 0) (fun j _ => by simp [rowV])]; exact hb24
 obtain ⟨k, r, hkk, hm, h27, hB, hb3, hb4, hb5, hb24, hrw, hrl, hri⟩ := hI
 refine c_know 27 (.int .i64 k) h27 nu (c_seq (c_region (wl (r_lss rfl rfl) (x_nil (e_S ?_)))))
 refine c_seq ?_
 refine c_ifd rfl (fun c28 => ?_) (fun c28 => ?_)
 ·
  have hlt : k < ga.length := by omega
  refine c_skip (e_S (c_seq (c_block (c_seq (c_region ?_)))))
  refine wmI rfl (waI rfl (x_nil (e_S (c_region (wmS rfl ?_)))))
  refine wmI rfl (wl (r_fa U28 sz26_GTgt dE rfl rfl rfl) (wl (r_ld1 (v := .slice _ _ _) U26 rfl rfl (hb5.cell rfl)) (wl (r_len U26 rfl) ?_)))
  refine wl_mkR (m := gb.length) U73 in4_SMapped rfl rfl rfl om om (fun b35 w6 hb35 hs hr => ?_)
  have or_b3_b35 : b3 < b35 := nLL hb3.lt hr
  have or_b4_b35 : b4 < b35 := nLL hb4.lt hr
  have or_b5_b35 : b5 < b35 := nLL hb5.lt hr
  have or_b24_b35 : b24 < b35 := nLL hb24.lt hr
  have or_hrw_b35 := (fun (i : Nat) (hi : i < k) => nLL (hrw i hi).lt hr)
  have lo35 := nLT (Bel.size hB) hr
  replace hB := hB.tr0 hs
  replace hb3 := hb3.tr0 hs
  replace hb4 := hb4.tr0 hs
  replace hb5 := hb5.tr0 hs
  replace hb24 := hb24.tr0 hs
  replace hrw := fun i hi => (hrw i hi).tr0 hs
  clear hs
  clear hr
  refine wl (r_ia (i := k) U72 sz73_SMapped rfl rfl om rfl) ?_
  refine wl_st1 (v := .slice _ _ _) hb24 rfl rfl sz73_SMapped (by rw [row_size]; omega) rfl row_set (fun w7 hq hs => ?_)
  replace hB := hB.tr1 hs lo24
  replace hb3 := hb3.tr1 hs om
  replace hb4 := hb4.tr1 hs om
  replace hb5 := hb5.tr1 hs om
  replace hrw := fun i hi => (hrw i hi).tr1 hs (by first | (have := or_hrw_b35 i hi; omega) | exact fun h => absurd (blk_type (h ▸ hrw i hi) hb24) dE)
  replace hb35 := hb35.tr1 hs om
  clear hs
  replace hb24 := hq
  have hlt35 := or_b24_b35
  have hlr35 := or_hrw_b35
  rw [row_congr (g' := fun i => rowV gb.length (fun i => if i = k then b35 else r i) (k + 1) i) (fun j _ => by
    by_cases e : j = k
    · subst e; simp [rowV]
    · have e1 : (j < k + 1) ↔ (j < k) := by omega
      simp [rowV, e, e1])] at hb24
  refine x_nil (e_B (e_S (c_region (wl (r_add rfl rfl rfl om) (wmI rfl ?_)))))
  refine x_nil (e_LS (ga.length - (k + 1)) om agA ?_)
  refine ⟨k + 1, fun i => if i = k then b35 else r i, by omega, rfl, rfl, hB, hb3, hb4, hb5, hb24, fun i hi => ?_, fun i hi => ?_, fun i j hi hj h => ?_⟩
  · by_cases e : i = k
    · subst e; simp only [if_true]; exact hb35
    · simp only [if_neg e]; exact hrw i om
  · by_cases e : i = k
    · subst e; simp only [if_true]; exact hlt35
    · simp only [if_neg e]; exact hrl i om
  · by_cases e : i = k
    · by_cases e2 : j = k
      · omega
      · simp only [if_pos e, if_neg e2] at h
        have := hlr35 j om
        omega
    · by_cases e2 : j = k
      · simp only [if_neg e, if_pos e2] at h
        have := hlr35 i om
        omega
      · simp only [if_neg e, if_neg e2] at h
        exact hri i j om om h
 have hkl : k = ga.length := by omega
 rw [hkl, row_congr (g' := fun i => .slice (some ⟨r i, 0, none⟩) gb.length gb.length) (fun j hj => by simp [rowV, hj])] at hb24
 rw [hkl] at hrw hrl hri
 have hb24l := hb24.lt
 refine c_exit (e_Sx (e_LSx (e_Bx (e_S (c_seq ?_)))))
 have hbs := hrw 0 hn0
 have hrs : ∀ i, i < ga.length → i ≠ 0 → Blk w5 (r i) 4 (row gb.length (fun y => .bool ((fun _ _ => false) i y))) := fun i hi _ => hrw i hi
 have q1 := hrl 0 hn0
 refine c_region (wmS rfl (wl (r_ia (i := 0) U72 sz73_SMapped rfl rfl hn0 rfl) (wl (r_ld1 (v := .slice _ _ _) U73 rfl rfl (hb24.cell (row_get hn0))) (wl (r_ia (i := 0) U73 sz4_SMapped rfl rfl hb0 rfl) ?_))))
 refine wl_st1 (v := .bool _) hbs rfl rfl sz4_SMapped (by rw [row_size]; omega) rfl row_set (fun w8 hq hs => ?_)
 replace hB := hB.tr1 hs om
 replace hb3 := hb3.tr1 hs om
 replace hb4 := hb4.tr1 hs om
 replace hb5 := hb5.tr1 hs om
 replace hb24 := hb24.tr1 hs om
 replace hrs := fun i hi hne => (hrs i hi hne).tr1 hs (fun h => hne (hri i 0 hi hn0 h))
 clear hs
 replace hbs := hq
 replace hbs : Blk w8 (r 0) 4 (row gb.length (fun y => .bool (setP (fun _ _ => false) 0 0 0 y))) := by
   rw [row_congr (g' := fun y => .bool (setP (fun _ _ => false) 0 0 0 y)) (fun y _ => by by_cases e : y = 0 <;> simp [setP, e])] at hbs
   exact hbs
 have hrw : ∀ i, i < ga.length → Blk w8 (r i) 4 (row gb.length (fun y => .bool (setP (fun _ _ => false) 0 0 i y))) := fun i hi => by
   by_cases e : i = 0
   · subst e; exact hbs
   · rw [row_congr (g' := fun y => .bool ((fun _ _ => false) i y)) (fun y _ => by simp [setP, e])]
     exact hrs i hi e
 refine x_nil (e_S (c_seq (c_seq (c_region (waB rfl ?_)))))
 refine x_nil (e_S (c_block ?_))
 refine c_loopS [6, 7, 10, 11, 12, 13, 15, 16, 42, 43, 44, 45, 46, 47, 48, 49, 50, 51, 52, 53, 54, 55, 56, 57, 58, 59, 60, 61, 62, 63, 64, 65, 66, 67, 68, 69, 70, 71, 72, 73, 74, 75, 76, 77, 78, 79, 80, 81, 82, 83, 84, 85, 86, 87, 88, 89, 90, 91, 92, 93, 94, 95, 96, 97, 98, 99, 100, 101, 102, 103, 104, 105, 106, 107, 108, 109] (fun m g w' => ∃ (p : Nat → Nat → Bool) (ch : Bool), g 10 = .bool ch ∧ m = lackP ga.length gb.length p + (if ch = true then 1 else 0) ∧ Bel w w' ∧ Blk w' b3 25 #[.slice A l.length c, .slice B fs.length d] ∧ Blk w' b4 28 #[.slice G1 ga.length c1] ∧ Blk w' b5 28 #[.slice G2 gb.length c2] ∧ Blk w' b24 73 (row ga.length (fun i => .slice (some ⟨r i, 0, none⟩) gb.length gb.length)) ∧ (∀ i, i < ga.length → Blk w' (r i) 4 (row gb.length (fun y => .bool (p i y)))) ∧ MPS l ga gb p ch) (lackP ga.length gb.length (setP (fun _ _ => false) 0 0) + 1) ?_ (fun m g9 w9 hI => ?_)
 ·
  exact ⟨setP (fun _ _ => false) 0 0, true, rfl, by simp, hB, hb3, hb4, hb5, hb24, hrw, MPS.start hn0 hb0⟩
 obtain ⟨p, ch, h10, hm, hB, hb3, hb4, hb5, hb24, hrw, hps⟩ := hI
 refine c_know 10 (.bool ch) h10 nu (c_seq (c_seq (c_region (wmB rfl (x_nil ?_)))))
 refine e_S ?_
 refine c_if rfl (fun c42 => ?_) (fun c42 => ?_)
 ·
  subst c42
  rw [if_pos rfl] at hm
  have hpp0 := MPP.start hps
  refine c_skip (e_S (c_block (c_seq (c_region (waB rfl ?_)))))
  refine x_nil (e_S (c_seq (c_region (wl (r_fa U28 sz26_GTgt dE rfl rfl rfl) (wl (r_ld1 (v := .slice _ _ _) U26 rfl rfl (hb4.cell rfl)) ?_)))))
  refine wl (r_len U26 rfl) (wmI rfl (x_nil (e_S (c_block ?_))))
  refine c_loopS [6, 7, 10, 11, 12, 13, 15, 16, 46, 47, 48, 49, 50, 51, 52, 53, 54, 55, 56, 57, 58, 59, 60, 61, 62, 63, 64, 65, 66, 67, 68, 69, 70, 71, 72, 73, 74, 75, 76, 77, 78, 79, 80, 81, 82, 83, 84, 85, 86, 87, 88, 89, 90, 91, 92, 93, 94, 95, 96, 97, 98, 99, 100, 101, 102, 103, 104, 105, 106, 107, 108, 109] (fun m g w' => ∃ (i : Nat) (p1 : Nat → Nat → Bool) (ch1 : Bool), i ≤ ga.length ∧ m = ga.length - i ∧ g 46 = .int .i64 i ∧ g 10 = .bool ch1 ∧ Bel w w' ∧ Blk w' b3 25 #[.slice A l.length c, .slice B fs.length d] ∧ Blk w' b4 28 #[.slice G1 ga.length c1] ∧ Blk w' b5 28 #[.slice G2 gb.length c2] ∧ Blk w' b24 73 (row ga.length (fun i => .slice (some ⟨r i, 0, none⟩) gb.length gb.length)) ∧ (∀ i, i < ga.length → Blk w' (r i) 4 (row gb.length (fun y => .bool (p1 i y)))) ∧ MPP l ga gb p p1 ch1 i 0 0) (ga.length) ?_ (fun m g12 w10 hI => ?_)
  ·
   exact ⟨0, p, false, Nat.zero_le _, rfl, rfl, rfl, hB, hb3, hb4, hb5, hb24, hrw, hpp0⟩
  obtain ⟨i, p1, ch1, hi, hmi, h46, h10, hB, hb3, hb4, hb5, hb24, hrw, hpp⟩ := hI
  refine c_know 46 (.int .i64 i) h46 nu (c_know 10 (.bool ch1) h10 nu (c_seq (c_region (wl (r_lss rfl rfl) (x_nil ?_)))))
  refine e_S (c_seq ?_)
  refine c_ifd rfl (fun c47 => ?_) (fun c47 => ?_)
  ·
   have hin : i < ga.length := by omega
   obtain ⟨nb1, no1, LA, lc, rfl, hnb1, hnr1, hln⟩ := hG1.at_ hB hin
   have hmx := hln.1
   unfold maxI at hmx
   refine c_skip (e_S (c_seq (c_block (c_seq (c_region ?_)))))
   refine wmI rfl (wl (r_ia (i := i) U26 sz33_GTgt rfl rfl hin rfl) (wl (r_ldS U33 rfl rfl hnr1 sz33_GTgt) ?_))
   refine wl_al (cs := #[.int .i64 0, .slice none 0 0]) ze33_SMapped rfl (fun b12 w11 hb12 hs hr => ?_)
   have or_b3_b12 : b3 < b12 := nLL hb3.lt hr
   have or_b4_b12 : b4 < b12 := nLL hb4.lt hr
   have or_b5_b12 : b5 < b12 := nLL hb5.lt hr
   have or_b24_b12 : b24 < b12 := nLL hb24.lt hr
   have or_hrw_b12 := (fun (i : Nat) (hi : i < ga.length) => nLL (hrw i hi).lt hr)
   have lo12 := nLT (Bel.size hB) hr
   replace hB := hB.tr0 hs
   replace hb3 := hb3.tr0 hs
   replace hb4 := hb4.tr0 hs
   replace hb5 := hb5.tr0 hs
   replace hb24 := hb24.tr0 hs
   replace hrw := fun i hi => (hrw i hi).tr0 hs
   clear hs
   clear hr
   refine waI rfl ?_
   refine wl_stW hb12 rfl rfl sz33_GTgt rfl oneA (fun w12 hq hs => ?_)
   replace hB := hB.tr1 hs lo12
   replace hb3 := hb3.tr1 hs om
   replace hb4 := hb4.tr1 hs om
   replace hb5 := hb5.tr1 hs om
   replace hb24 := hb24.tr1 hs om
   replace hrw := fun i hi => (hrw i hi).tr1 hs (fun h => by (try have := or_hrw_b12 i hi); (try have := or_hrw_b15 i hi); have := hrl i hi; omega)
   clear hs
   replace hb12 := hq
   refine x_nil (e_S (c_seq (c_region (wl (r_fa U28 sz26_GTgt dE rfl rfl rfl) (wl (r_ld1 (v := .slice _ _ _) U26 rfl rfl (hb5.cell rfl)) ?_)))))
   refine wl (r_len U26 rfl) (wmI rfl (x_nil (e_S (c_block ?_))))
   refine c_loopS [6, 7, 10, 13, 15, 16, 54, 55, 56, 57, 58, 59, 60, 61, 62, 63, 64, 65, 66, 67, 68, 69, 70, 71, 72, 73, 74, 75, 76, 77, 78, 79, 80, 81, 82, 83, 84, 85, 86, 87, 88, 89, 90, 91, 92, 93, 94, 95, 96, 97, 98, 99, 100, 101, 102, 103, 104, 105, 106, 107, 108] (fun m g w' => ∃ (j : Nat) (p2 : Nat → Nat → Bool) (ch2 : Bool), j ≤ gb.length ∧ m = gb.length - j ∧ g 54 = .int .i64 j ∧ g 10 = .bool ch2 ∧ Bel w w' ∧ Blk w' b3 25 #[.slice A l.length c, .slice B fs.length d] ∧ Blk w' b4 28 #[.slice (some ⟨nb1, no1, none⟩) ga.length c1] ∧ Blk w' b5 28 #[.slice G2 gb.length c2] ∧ Blk w' b24 73 (row ga.length (fun i => .slice (some ⟨r i, 0, none⟩) gb.length gb.length)) ∧ (∀ i, i < ga.length → Blk w' (r i) 4 (row gb.length (fun y => .bool (p2 i y)))) ∧ Blk w' b12 33 #[.int .i64 (ga[i]'hin).ty, .slice LA (ga[i]'hin).ln.length lc] ∧ MPP l ga gb p p2 ch2 i j 0) (gb.length) ?_ (fun m g15 w13 hI => ?_)
   ·
    exact ⟨0, p1, ch1, Nat.zero_le _, rfl, rfl, rfl, hB, hb3, hb4, hb5, hb24, hrw, hb12, hpp⟩
   obtain ⟨j, p2, ch2, hj, hmj, h54, h10, hB, hb3, hb4, hb5, hb24, hrw, hb12, hpp2⟩ := hI
   refine c_know 54 (.int .i64 j) h54 nu (c_know 10 (.bool ch2) h10 nu (c_seq (c_region (wl (r_lss rfl rfl) (x_nil ?_)))))
   refine e_S (c_seq ?_)
   refine c_ifd rfl (fun c55 => ?_) (fun c55 => ?_)
   ·
    have hjl : j < gb.length := by omega
    have hri12 := or_hrw_b12
    refine c_skip (e_S (c_seq (c_block (c_seq (c_region ?_)))))
    refine wmI rfl (waI rfl (x_nil (e_S (c_seq (c_seq ?_)))))
    refine c_region (wmS rfl (wmI rfl (wl (r_ia (i := i) U72 sz73_SMapped rfl rfl hin rfl) (wl (r_ld1 (v := .slice _ _ _) U73 rfl rfl (hb24.cell (row_get hin))) (wmI rfl ?_)))))
    refine wl (r_ia (i := j) U73 sz4_SMapped rfl rfl hjl rfl) (wl (r_ld1 (v := .bool _) U4 rfl rfl ((hrw i hin).cell (row_get hjl))) (wl (r_not rfl) (x_nil (e_S ?_))))
    refine c_if rfl (fun c64 => ?_) (fun c64 => ?_)
    ·
     have hpf : p2 i j = false := by simpa using c64
     refine c_exit (e_Sx (e_Bx (e_S (c_region (wl (r_add rfl rfl rfl om) ?_)))))
     refine wmI rfl (x_nil (e_LS (gb.length - (j + 1)) om agA ?_))
     first
       | exact ⟨j + 1, p3, ch3, by omega, rfl, rfl, rfl, hB, hb3, hb4, hb5, hb24, hrw, hb12, hpk.done hin hkx⟩
       | exact ⟨j + 1, p2, ch2, by omega, rfl, rfl, rfl, hB, hb3, hb4, hb5, hb24, hrw, hb12, hpp2.skip hpf⟩
    have hpt : p2 i j = true := by simpa using c64
    obtain ⟨nb2, no2, LB, lcb, he2, hnb2, hnr2, hlnb⟩ := hG2.at_ (Below.refl _ _ : Bel w w) hjl
    have hfwa := hk.few i hin
    obtain ⟨yn, hyn, hynl⟩ : ∃ t : Nat, (ga[i]'hin).ty = (t : Int) ∧ t < l.length := by
      have h := hk.ty i hin
      exact ⟨(ga[i]'hin).ty.toNat, by omega, by omega⟩
    obtain ⟨zn, hzn, hznl⟩ : ∃ t : Nat, (gb[j]'hjl).ty = (t : Int) ∧ t < l.length := by
      have h := hkb.ty j hjl
      exact ⟨(gb[j]'hjl).ty.toNat, by omega, by omega⟩
    have hsub : sub l (nd gb j).ty.toNat (nd ga i).ty.toNat = sub l zn yn := by rw [nd_eq hin, nd_eq hjl, hyn, hzn, Int.toNat_natCast, Int.toNat_natCast]
    refine c_skip (e_S (c_seq (c_seq ?_)))
    rw [hyn] at hb12
    rw [hzn] at hnr2
    subst he2
    refine c_monoTO 12 [65, 66, 67, 68, 69, 70, 71, 72, 73, 74, 75, 76] (fun _ => false) (fun ix v wv => match ix with | 0 => v = .pointer (some ⟨b3, 0, none⟩) | 1 => v = .slice A l.length c | 2 => v = .pointer (some ⟨b5, 0, none⟩) | 3 => v = .slice (some ⟨nb2, no2, none⟩) gb.length c2 | 4 => v = .int .i64 (j : Nat) | 5 => v = .pointer (some ⟨nb2, no2 + j * 2, none⟩) | 6 => v = .pointer (some ⟨nb2, no2 + j * 2 + 0, none⟩) | 7 => v = .int .i64 (zn : Nat) | 8 => v = .pointer (some ⟨b12, 0, none⟩) | 9 => v = .int .i64 (yn : Nat) | 10 => v = .bool (sub l zn yn) | 11 => v = .bool (!sub l zn yn) | _ => True) kR kR ?_ ?_ ?_
    ·
     intro ix v wv wv2 h hs
     match ix, h with
     | 0, h => exact h
     | 1, h => exact h
     | 2, h => exact h
     | 3, h => exact h
     | 4, h => exact h
     | 5, h => exact h
     | 6, h => exact h
     | 7, h => exact h
     | 8, h => exact h
     | 9, h => exact h
     | 10, h => exact h
     | 11, h => exact h
     | _ + 12, h => exact trivial
    ·
     intro ix o hix hoq gg wx hs hd hdis
     match ix, hix, hoq with
     | 0, _, hoq =>
      obtain rfl := sI hoq
      have hs0 := hs
      replace hb3 := hb3.tr0 hs
      clear hs
      refine os_rv (r_fa U25 sz22_SFind dE rfl rfl rfl) ⟨Same.refl _ _, ?_, frsh_no⟩
      exact rfl
     | 1, _, hoq =>
      obtain rfl := sI hoq
      have hs0 := hs
      replace hb3 := hb3.tr0 hs
      clear hs
      have d0 : gg 65 = .pointer (some ⟨b3, 0, none⟩) := hd 0 (dep_of kR)
      have e65 := d0
      refine os_know 65 (.pointer (some ⟨b3, 0, none⟩)) e65 nu ?_
      refine os_rv (r_ld1 (v := .slice _ _ _) U22 rfl rfl (hb3.cell rfl)) ⟨Same.refl _ _, ?_, frsh_no⟩
      exact rfl
     | 2, _, hoq =>
      obtain rfl := sI hoq
      have hs0 := hs
      replace hb5 := hb5.tr0 hs
      clear hs
      refine os_rv (r_fa U28 sz26_GTgt dE rfl rfl rfl) ⟨Same.refl _ _, ?_, frsh_no⟩
      exact rfl
     | 3, _, hoq =>
      obtain rfl := sI hoq
      have hs0 := hs
      replace hb5 := hb5.tr0 hs
      clear hs
      have d2 : gg 67 = .pointer (some ⟨b5, 0, none⟩) := hd 2 (dep_of kR)
      have e67 := d2
      refine os_know 67 (.pointer (some ⟨b5, 0, none⟩)) e67 nu ?_
      refine os_rv (r_ld1 (v := .slice _ _ _) U26 rfl rfl (hb5.cell rfl)) ⟨Same.refl _ _, ?_, frsh_no⟩
      exact rfl
     | 4, _, hoq =>
      obtain rfl := sI hoq
      have hs0 := hs
      clear hs
      refine os_rv (r_mv (v := .int _ _) rfl) ⟨Same.refl _ _, ?_, frsh_no⟩
      exact rfl
     | 5, _, hoq =>
      obtain rfl := sI hoq
      have hs0 := hs
      clear hs
      have d3 : gg 68 = .slice (some ⟨nb2, no2, none⟩) gb.length c2 := hd 3 (dep_of kR)
      have e68 := d3
      have d4 : gg 69 = .int .i64 (j : Nat) := hd 4 (dep_of kR)
      have e69 := d4
      refine os_know 68 (.slice (some ⟨nb2, no2, none⟩) gb.length c2) e68 nu (os_know 69 (.int .i64 (j : Nat)) e69 nu ?_)
      refine os_rv (r_ia (i := j) U26 sz33_GTgt rfl rfl om rfl) ⟨Same.refl _ _, ?_, frsh_no⟩
      exact rfl
     | 6, _, hoq =>
      obtain rfl := sI hoq
      have hs0 := hs
      clear hs
      have d5 : gg 70 = .pointer (some ⟨nb2, no2 + j * 2, none⟩) := hd 5 (dep_of kR)
      have e70 := d5
      refine os_know 70 (.pointer (some ⟨nb2, no2 + j * 2, none⟩)) e70 nu ?_
      refine os_rv (r_fa U33 sz3_GSearch dE rfl rfl rfl) ⟨Same.refl _ _, ?_, frsh_no⟩
      exact rfl
     | 7, _, hoq =>
      obtain rfl := sI hoq
      have hs0 := hs
      replace hB := hB.tr0 hs
      clear hs
      have d6 : gg 71 = .pointer (some ⟨nb2, no2 + j * 2 + 0, none⟩) := hd 6 (dep_of kR)
      have e71 := d6
      refine os_know 71 (.pointer (some ⟨nb2, no2 + j * 2 + 0, none⟩)) e71 nu ?_
      refine os_rv (r_ld1 (v := .int _ _) U3 rfl rfl (hB.cell hnb2 (hnr2 0 _ rfl))) ⟨Same.refl _ _, ?_, frsh_no⟩
      exact rfl
     | 8, _, hoq =>
      obtain rfl := sI hoq
      have hs0 := hs
      replace hb12 := hb12.tr0 hs
      clear hs
      refine os_rv (r_fa U33 sz3_GSearch dE rfl rfl rfl) ⟨Same.refl _ _, ?_, frsh_no⟩
      exact rfl
     | 9, _, hoq =>
      obtain rfl := sI hoq
      have hs0 := hs
      replace hb12 := hb12.tr0 hs
      clear hs
      have d8 : gg 73 = .pointer (some ⟨b12, 0, none⟩) := hd 8 (dep_of kR)
      have e73 := d8
      refine os_know 73 (.pointer (some ⟨b12, 0, none⟩)) e73 nu ?_
      refine os_rv (r_ld1 (v := .int _ _) U3 rfl rfl (hb12.cell rfl)) ⟨Same.refl _ _, ?_, frsh_no⟩
      exact rfl
     | 10, _, hoq =>
      obtain rfl := sI hoq
      have hs0 := hs
      replace hB := hB.tr0 hs
      clear hs
      have d1 : gg 66 = .slice A l.length c := hd 1 (dep_of kR)
      have e66 := d1
      have d7 : gg 72 = .int .i64 (zn : Nat) := hd 7 (dep_of kR)
      have e72 := d7
      have d9 : gg 74 = .int .i64 (yn : Nat) := hd 9 (dep_of kR)
      have e74 := d9
      refine os_know 66 (.slice A l.length c) e66 nu (os_know 72 (.int .i64 (zn : Nat)) e72 nu (os_know 74 (.int .i64 (yn : Nat)) e74 nu ?_))
      refine os_cl fn24_SMapped (sub_any A c l zn yn wx (hT.mono hB) hvt hl60 hznl hynl) rfl (fun e' w2 hr => ?_)
      obtain ⟨rfl, hs⟩ := hr
      exact ⟨_, rfl, Same.of_bel hs, rfl, frsh_no⟩
     | 11, _, hoq =>
      obtain rfl := sI hoq
      have hs0 := hs
      clear hs
      have d10 : gg 75 = .bool (sub l zn yn) := hd 10 (dep_of kR)
      have e75 := d10
      refine os_know 75 (.bool (sub l zn yn)) e75 nu ?_
      refine os_rv (r_not rfl) ⟨Same.refl _ _, ?_, frsh_no⟩
      exact rfl
     | _ + 12, hix, _ => exact absurd hix om
    intro gg w14 hs hR hdis
    have hs0 := hs
    replace hB := hB.tr0 hs
    replace hb3 := hb3.tr0 hs
    replace hb4 := hb4.tr0 hs
    replace hb5 := hb5.tr0 hs
    replace hb24 := hb24.tr0 hs
    replace hb12 := hb12.tr0 hs
    replace hrw := fun i hi => (hrw i hi).tr0 hs
    clear hs
    have d11 : gg 76 = .bool (!sub l zn yn) := hR 11 dE
    have e76 := d11
    refine wl_know 76 (.bool (!sub l zn yn)) e76 nu (x_nil (e_S ?_))
    refine c_if rfl (fun c76 => ?_) (fun c76 => ?_)
    ·
     have hno : ¬ Maps l ga gb := MPP.noTy hpp2.pb hpt (by rw [hsub]; simpa using c76)
     refine c_seq (c_region (waS rfl (waB rfl (x_nil (e_S ?_)))))
     refine c_ret (e_Sr (e_Br (e_Sr (e_LSr (e_Br ?_)))))
     refine e_Br (e_Sr (e_LSr (e_Br (e_Br (e_LSr ?_)))))
     refine e_Br (e_Sr (fin2 (.inl rfl) rfl rfl rfl ?_))
     exact ⟨⟨none, 0, by rw [mapF_no hno, decide_eq_false hno]; rfl, by rw [mapF_no hno]; exact ints_nil _ _⟩, hB⟩
    have hty : sub l (nd gb j).ty.toNat (nd ga i).ty.toNat = true := by rw [hsub]; simpa using c76
    have hpk0 := MPK.start hpp2 hpt hty
    rw [← hyn] at hb12
    refine c_skip (e_S (c_seq (c_region (wl (r_fa U33 sz31_GTgt dE rfl rfl rfl) (wl (r_ld1 (v := .slice _ _ _) U31 rfl rfl (hb12.cell rfl)) ?_)))))
    refine wl (r_len U31 rfl) (wmI rfl (x_nil (e_S (c_block ?_))))
    refine c_loopS [6, 7, 10, 15, 16, 80, 81, 82, 83, 84, 85, 86, 87, 88, 89, 90, 91, 92, 93, 94, 95, 96, 97, 98, 99, 100, 101, 102, 103, 104, 105, 106, 107] (fun m g w' => ∃ (k : Nat) (p3 : Nat → Nat → Bool) (ch3 : Bool), k ≤ (ga[i]'hin).ln.length ∧ m = (ga[i]'hin).ln.length - k ∧ g 80 = .int .i64 k ∧ g 10 = .bool ch3 ∧ Bel w w' ∧ Blk w' b3 25 #[.slice A l.length c, .slice B fs.length d] ∧ Blk w' b4 28 #[.slice (some ⟨nb1, no1, none⟩) ga.length c1] ∧ Blk w' b5 28 #[.slice (some ⟨nb2, no2, none⟩) gb.length c2] ∧ Blk w' b24 73 (row ga.length (fun i => .slice (some ⟨r i, 0, none⟩) gb.length gb.length)) ∧ (∀ i, i < ga.length → Blk w' (r i) 4 (row gb.length (fun y => .bool (p3 i y)))) ∧ Blk w' b12 33 #[.int .i64 (ga[i]'hin).ty, .slice LA (ga[i]'hin).ln.length lc] ∧ MPK l ga gb p p3 ch3 i j k) ((ga[i]'hin).ln.length) ?_ (fun m g21 w15 hI => ?_)
    ·
     exact ⟨0, p2, ch2, Nat.zero_le _, rfl, rfl, rfl, hB, hb3, hb4, hb5, hb24, hrw, hb12, hpk0⟩
    obtain ⟨k, p3, ch3, hkk, hmk, h80, h10, hB, hb3, hb4, hb5, hb24, hrw, hb12, hpk⟩ := hI
    refine c_know 80 (.int .i64 k) h80 nu (c_know 10 (.bool ch3) h10 nu (c_seq (c_region (wl (r_lss rfl rfl) (x_nil ?_)))))
    refine e_S (c_seq ?_)
    refine c_ifd rfl (fun c81 => ?_) (fun c81 => ?_)
    ·
     have hkl : k < (ga[i]'hin).ln.length := by omega
     obtain ⟨lb, lof, rfl, hlb, hlr⟩ := hln.at_ hB hkl
     obtain ⟨s, hsx, hsl⟩ : ∃ t : Nat, ((ga[i]'hin).ln[k]'hkl).2 = (t : Int) ∧ t < ga.length := by
       have h1 := hk.ln i hin _ (List.getElem_mem hkl)
       exact ⟨(((ga[i]'hin).ln[k]'hkl).2).toNat, by omega, by omega⟩
     have hxm : ((ga[i]'hin).ln[k]'hkl) ∈ (nd ga i).ln := by rw [nd_eq hin]; exact List.getElem_mem hkl
     have htr := tgt_rng hkb hjl ((ga[i]'hin).ln[k]'hkl).1
     have hte : tgt (nd gb j).ln ((ga[i]'hin).ln[k]'hkl).1 = tgt (gb[j]'hjl).ln ((ga[i]'hin).ln[k]'hkl).1 := by rw [nd_eq hjl]
     have hri15 := or_hrw_b12
     refine c_skip (e_S (c_seq (c_block (c_seq (c_region ?_)))))
     refine wl (r_ia (i := k) U31 sz30_GSearch rfl rfl om rfl) (wl (r_ldS U30 rfl rfl hlr sz30_GSearch) ?_)
     refine wl_al (cs := #[.int .i64 0, .int .i64 0]) ze30_GTgt rfl (fun b15 w16 hb15 hs hr => ?_)
     have or_b3_b15 : b3 < b15 := nLL hb3.lt hr
     have or_b4_b15 : b4 < b15 := nLL hb4.lt hr
     have or_b5_b15 : b5 < b15 := nLL hb5.lt hr
     have or_b24_b15 : b24 < b15 := nLL hb24.lt hr
     have or_b12_b15 : b12 < b15 := nLL hb12.lt hr
     have or_hrw_b15 := (fun (i : Nat) (hi : i < ga.length) => nLL (hrw i hi).lt hr)
     have lo15 := nLT (Bel.size hB) hr
     replace hB := hB.tr0 hs
     replace hb3 := hb3.tr0 hs
     replace hb4 := hb4.tr0 hs
     replace hb5 := hb5.tr0 hs
     replace hb24 := hb24.tr0 hs
     replace hb12 := hb12.tr0 hs
     replace hrw := fun i hi => (hrw i hi).tr0 hs
     clear hs
     clear hr
     refine wl_stW hb15 rfl rfl sz30_GSearch rfl oneA (fun w17 hq hs => ?_)
     replace hB := hB.tr1 hs lo15
     replace hb3 := hb3.tr1 hs om
     replace hb4 := hb4.tr1 hs om
     replace hb5 := hb5.tr1 hs om
     replace hb24 := hb24.tr1 hs om
     replace hb12 := hb12.tr1 hs om
     replace hrw := fun i hi => (hrw i hi).tr1 hs (fun h => by (try have := or_hrw_b12 i hi); (try have := or_hrw_b15 i hi); have := hrl i hi; omega)
     clear hs
     replace hb15 := hq
     refine x_nil (e_S (c_seq ?_))
     rw [hsx] at hb15
     refine c_region (wl (r_ldS U28 rfl rfl hb5.range0 sz28_SFind) (wmI rfl (wl (r_fa U30 sz3_GSearch dE rfl rfl rfl) (wl (r_ld1 (v := .int _ _) U3 rfl rfl (hb15.cell rfl)) ?_))))
     refine wl_cl fn29 (rtarget_any (some ⟨nb2, no2, none⟩) c2 gb j ((ga[i]'hin).ln[k]'hkl).1 _ (hG2.mono hB) hjl) rfl (fun e' w18 hr => ?_)
     obtain ⟨rfl, hs⟩ := hr
     replace hs := Same.of_bel hs
     replace hB := hB.tr0 hs
     replace hb3 := hb3.tr0 hs
     replace hb4 := hb4.tr0 hs
     replace hb5 := hb5.tr0 hs
     replace hb24 := hb24.tr0 hs
     replace hb12 := hb12.tr0 hs
     replace hrw := fun i hi => (hrw i hi).tr0 hs
     replace hb15 := hb15.tr0 hs
     clear hs
     refine ⟨_, rfl, ?_⟩
     refine waI rfl (x_nil (e_S (c_seq (c_seq (c_region ?_)))))
     refine wmI rfl (wl (r_lss rfl rfl) (x_nil (e_S ?_)))
     refine c_ifd rfl (fun c90 => ?_) (fun c90 => ?_)
     ·
      have hno : ¬ Maps l ga gb := MPP.noLn hpp2.pb hpt hxm (by rw [hte]; exact c90)
      refine c_seq (c_region (waS rfl (waB rfl (x_nil (e_S ?_)))))
      refine c_ret (e_Sr (e_Br (e_Sr (e_LSr (e_Br ?_)))))
      refine e_Br (e_Sr (e_LSr (e_Br (e_Br (e_Sr ?_)))))
      refine e_LSr (e_Br (e_Br (e_LSr (e_Br (e_Sr ?_)))))
      refine fin2 (.inl rfl) rfl rfl rfl ?_
      exact ⟨⟨none, 0, by rw [mapF_no hno, decide_eq_false hno]; rfl, by rw [mapF_no hno]; exact ints_nil _ _⟩, hB⟩
     obtain ⟨t, htg⟩ : ∃ t : Nat, tgt (gb[j]'hjl).ln ((ga[i]'hin).ln[k]'hkl).1 = (t : Int) := ⟨(tgt (gb[j]'hjl).ln ((ga[i]'hin).ln[k]'hkl).1).toNat, by omega⟩
     have htl : t < gb.length := by omega
     have htt : tgt (nd gb j).ln ((ga[i]'hin).ln[k]'hkl).1 = (t : Int) := by rw [hte]; exact htg
     refine c_skip (e_S (c_seq (c_region (wmS rfl (wl (r_fa U30 sz3_GSearch dE rfl rfl rfl) ?_)))))
     refine wl (r_ld1 (v := .int _ _) U3 rfl rfl (hb15.cell rfl)) (wl (r_ia (i := s) U72 sz73_SMapped rfl rfl hsl rfl) (wl (r_ld1 (v := .slice _ _ _) U73 rfl rfl (hb24.cell (row_get hsl))) (wl (r_mv (v := .int .i64 (t : Nat)) (congrArg (Value.int .i64) htg)) (wl (r_ia (i := t) U73 sz4_SMapped rfl rfl htl rfl) (wl (r_ld1 (v := .bool _) U4 rfl rfl ((hrw s hsl).cell (row_get htl))) ?_)))))
     refine wl (r_not rfl) (x_nil (e_S ?_))
     refine c_if rfl (fun c99 => ?_) (fun c99 => ?_)
     ·
      have hpf3 : p3 s t = false := by simpa using c99
      refine c_seq ?_
      have hbs := hrw s hsl
      have hrs : ∀ i, i < ga.length → i ≠ s → Blk w18 (r i) 4 (row gb.length (fun y => .bool (p3 i y))) := fun i hi _ => hrw i hi
      have q1 := hrl s hsl
      have q2 := hri15 s hsl
      refine c_region (wmS rfl (wl (r_fa U30 sz3_GSearch dE rfl rfl rfl) (wl (r_ld1 (v := .int _ _) U3 rfl rfl (hb15.cell rfl)) (wl (r_ia (i := s) U72 sz73_SMapped rfl rfl hsl rfl) (wl (r_ld1 (v := .slice _ _ _) U73 rfl rfl (hb24.cell (row_get hsl))) ?_)))))
      refine wl (r_mv (v := .int .i64 (t : Nat)) (congrArg (Value.int .i64) htg)) (wl (r_ia (i := t) U73 sz4_SMapped rfl rfl htl rfl) ?_)
      refine wl_st1 (v := .bool _) hbs rfl rfl sz4_SMapped (by rw [row_size]; omega) rfl row_set (fun w19 hq hs => ?_)
      replace hB := hB.tr1 hs om
      replace hb3 := hb3.tr1 hs om
      replace hb4 := hb4.tr1 hs om
      replace hb5 := hb5.tr1 hs om
      replace hb24 := hb24.tr1 hs om
      replace hb12 := hb12.tr1 hs om
      replace hb15 := hb15.tr1 hs om
      replace hrs := fun i hi hne => (hrs i hi hne).tr1 hs (fun h => hne (hri i s hi hsl h))
      clear hs
      replace hbs := hq
      replace hbs : Blk w19 (r s) 4 (row gb.length (fun y => .bool (setP p3 s t s y))) := by
        rw [row_congr (g' := fun y => .bool (setP p3 s t s y)) (fun y _ => by by_cases e : y = t <;> simp [setP, e])] at hbs
        exact hbs
      have hrw : ∀ i, i < ga.length → Blk w19 (r i) 4 (row gb.length (fun y => .bool (setP p3 s t i y))) := fun i hi => by
        by_cases e : i = s
        · subst e; exact hbs
        · rw [row_congr (g' := fun y => .bool (p3 i y)) (fun y _ => by simp [setP, e])]
          exact hrs i hi e
      refine x_nil (e_S (c_region (waB rfl (x_nil (e_B ?_)))))
      refine e_S (c_region (wl (r_add rfl rfl rfl om) (wmI rfl (x_nil (e_LS ((ga[i]'hin).ln.length - (k + 1)) om agA ?_)))))
      first
        | exact ⟨k + 1, setP p3 s t, true, by omega, rfl, rfl, rfl, hB, hb3, hb4, hb5, hb24, hrw, hb12, hpk.new hin hkl hsx hsl htt htl hpf3⟩
        | exact ⟨k + 1, p3, ch3, by omega, rfl, rfl, rfl, hB, hb3, hb4, hb5, hb24, hrw, hb12, hpk.old hin hkl hsx htt hpt3⟩
     have hpt3 : p3 s t = true := by simpa using c99
     refine c_skip (e_B (e_S (c_region (wl (r_add rfl rfl rfl om) (wmI rfl ?_)))))
     refine x_nil (e_LS ((ga[i]'hin).ln.length - (k + 1)) om agA ?_)
     first
       | exact ⟨k + 1, setP p3 s t, true, by omega, rfl, rfl, rfl, hB, hb3, hb4, hb5, hb24, hrw, hb12, hpk.new hin hkl hsx hsl htt htl hpf3⟩
       | exact ⟨k + 1, p3, ch3, by omega, rfl, rfl, rfl, hB, hb3, hb4, hb5, hb24, hrw, hb12, hpk.old hin hkl hsx htt hpt3⟩
    have hkx : k = (ga[i]'hin).ln.length := by omega
    refine c_exit (e_Sx (e_LSx (e_Bx (e_B (e_S ?_)))))
    refine c_region (wl (r_add rfl rfl rfl om) (wmI rfl (x_nil (e_LS (gb.length - (j + 1)) om agA ?_))))
    first
      | exact ⟨j + 1, p3, ch3, by omega, rfl, rfl, rfl, hB, hb3, hb4, hb5, hb24, hrw, hb12, hpk.done hin hkx⟩
      | exact ⟨j + 1, p2, ch2, by omega, rfl, rfl, rfl, hB, hb3, hb4, hb5, hb24, hrw, hb12, hpp2.skip hpf⟩
   have hje : j = gb.length := by omega
   rw [hje] at hpp2
   refine c_exit (e_Sx (e_LSx (e_Bx (e_B (e_S ?_)))))
   refine c_region (wl (r_add rfl rfl rfl om) (wmI rfl (x_nil (e_LS (ga.length - (i + 1)) om agA ?_))))
   exact ⟨i + 1, p2, ch2, by omega, rfl, rfl, rfl, hB, hb3, hb4, hb5, hb24, hrw, hpp2.row⟩
  have hie : i = ga.length := by omega
  rw [hie] at hpp
  refine c_exit (e_Sx (e_LSx (e_Bx (e_B ?_))))
  have hmm : lackP ga.length gb.length p1 + (if ch1 = true then 1 else 0) < lackP ga.length gb.length p + 1 := by
    cases ch1 with
    | true => rw [if_pos rfl]; have := hpp.more rfl; omega
    | false => rw [if_neg dE]; have := lackP_mono (na := ga.length) (nb := gb.length) hpp.sup; omega
  refine e_LS (lackP ga.length gb.length p1 + (if ch1 = true then 1 else 0)) om agA ?_
  exact ⟨p1, ch1, rfl, rfl, hB, hb3, hb4, hb5, hb24, hrw, hpp.end_⟩
 subst c42
 refine c_exit (e_Sx (e_LSx (e_Bx (e_S (c_seq ?_)))))
 obtain ⟨z0, hz0e⟩ : ∃ b, b = w9.heap.size := ⟨_, rfl⟩
 have hz0 : z0 ≤ w9.heap.size := Nat.le_of_eq hz0e
 have hlz : w.heap.size ≤ z0 := by rw [hz0e]; exact Bel.size hB
 have lu3 : b3 < z0 := by rw [hz0e]; exact hb3.lt
 have lu4 : b4 < z0 := by rw [hz0e]; exact hb4.lt
 have lu5 : b5 < z0 := by rw [hz0e]; exact hb5.lt
 have lu24 : b24 < z0 := by rw [hz0e]; exact hb24.lt
 have hru : ∀ i, i < ga.length → r i < z0 := fun i hi => by rw [hz0e]; exact (hrw i hi).lt
 refine c_region (waS rfl (x_nil (e_S (c_seq (c_seq ?_)))))
 refine c_region (wl (r_fa U28 sz26_GTgt dE rfl rfl rfl) (wl (r_ld1 (v := .slice _ _ _) U26 rfl rfl (hb4.cell rfl)) (wl (r_len U26 rfl) (wmI rfl (x_nil ?_)))))
 refine e_S (c_block ?_)
 refine c_loopS [6, 7, 17, 18, 19, 20, 113, 114, 115, 116, 117, 118, 119, 120, 121, 122, 123, 124, 125, 126, 127, 128, 129, 130, 131, 132, 133, 134, 135, 136, 137] (fun m g w' => ∃ (i : Nat) (xs : List Int) (A17 : Option Addr) (cap17 : Nat), i ≤ ga.length ∧ m = ga.length - i ∧ g 113 = .int .i64 i ∧ g 17 = .slice A17 xs.length cap17 ∧ xs.length = i ∧ Bel w w' ∧ Blk w' b3 25 #[.slice A l.length c, .slice B fs.length d] ∧ Blk w' b4 28 #[.slice G1 ga.length c1] ∧ Blk w' b5 28 #[.slice G2 gb.length c2] ∧ Blk w' b24 73 (row ga.length (fun i => .slice (some ⟨r i, 0, none⟩) gb.length gb.length)) ∧ (∀ i, i < ga.length → Blk w' (r i) 4 (row gb.length (fun y => .bool (p i y)))) ∧ z0 ≤ w'.heap.size ∧ Own w' z0 3 1 A17 (xs).length cap17 ((xs).map (Value.int .i64)) ∧ (∀ k (hk : k < xs.length), (xs[k] = -1 ∧ ∀ y, y < gb.length → p k y = false) ∨ ∃ z : Nat, xs[k] = (z : Int) ∧ p k z = true ∧ ∀ y, y < gb.length → p k y = true → y = z)) (ga.length) ?_ (fun m g34 w20 hI => ?_)
 ·
  exact ⟨0, [], none, 0, Nat.zero_le _, rfl, rfl, rfl, rfl, hB, hb3, hb4, hb5, hb24, hrw, hz0, Own.nil _ _ _ _, fun k hk => absurd hk (Nat.not_lt_zero _)⟩
 obtain ⟨i, xs, A17, cap17, hi, hmi, h113, h17, hxl, hB, hb3, hb4, hb5, hb24, hrw, hz0, hox, hxs⟩ := hI
 have hxs := Lib.hid hxs
 refine c_know 113 (.int .i64 i) h113 nu (c_know 17 (.slice A17 xs.length cap17) h17 nu (c_seq (c_region (wl (r_lss rfl rfl) (x_nil ?_)))))
 refine e_S (c_seq ?_)
 refine c_ifd rfl (fun c114 => ?_) (fun c114 => ?_)
 ·
  have hin : i < ga.length := by omega
  refine c_skip (e_S (c_seq (c_block (c_seq (c_region ?_)))))
  refine wmI rfl (waI rfl (x_nil (e_S (c_seq (c_region ?_)))))
  refine waI rfl (x_nil (e_S (c_seq (c_seq (c_region ?_)))))
  refine wl (r_fa U28 sz26_GTgt dE rfl rfl rfl) (wl (r_ld1 (v := .slice _ _ _) U26 rfl rfl (hb5.cell rfl)) (wl (r_len U26 rfl) (wmI rfl (x_nil (e_S ?_)))))
  refine c_block ?_
  refine c_loopS [6, 7, 19, 20, 119, 120, 121, 122, 123, 124, 125, 126, 127, 128, 129, 130, 131, 132] (fun m g w' => ∃ (j : Nat) (im : Int), j ≤ gb.length ∧ m = gb.length - j ∧ g 119 = .int .i64 j ∧ g 19 = .int .i64 im ∧ w20 = w' ∧ ImgI p i j im) (gb.length) ?_ (fun m g38 w21 hI => ?_)
  ·
   exact ⟨0, -1, Nat.zero_le _, rfl, rfl, rfl, rfl, img_zero _ _⟩
  obtain ⟨j, im, hj, hmj, h119, h19, rfl, him⟩ := hI
  refine c_know 119 (.int .i64 j) h119 nu (c_know 19 (.int .i64 im) h19 nu (c_seq (c_region (wl (r_lss rfl rfl) (x_nil ?_)))))
  refine e_S (c_seq ?_)
  refine c_ifd rfl (fun c120 => ?_) (fun c120 => ?_)
  ·
   have hjl : j < gb.length := by omega
   refine c_skip (e_S (c_seq (c_block (c_seq (c_region ?_)))))
   refine wmI rfl (waI rfl (x_nil (e_S (c_seq (c_region ?_)))))
   refine wmS rfl (wmI rfl (wl (r_ia (i := i) U72 sz73_SMapped rfl rfl hin rfl) (wl (r_ld1 (v := .slice _ _ _) U73 rfl rfl (hb24.cell (row_get hin))) (wmI rfl (wl (r_ia (i := j) U73 sz4_SMapped rfl rfl hjl rfl) ?_)))))
   refine wl (r_ld1 (v := .bool _) U4 rfl rfl ((hrw i hin).cell (row_get hjl))) (x_nil (e_S ?_))
   refine c_if rfl (fun c128 => ?_) (fun c128 => ?_)
   ·
    have hpt : p i j = true := c128
    refine c_seq (c_seq (c_region (wmI rfl (wl (r_geq rfl rfl) (x_nil ?_)))))
    refine e_S ?_
    refine c_ifd rfl (fun c130 => ?_) (fun c130 => ?_)
    ·
     obtain ⟨z, hzj, hpz⟩ := img_two him c130
     have hno : ¬ Maps l ga gb := hps.two (i := i) (j := z) (k := j) hpz hpt hzj
     refine c_seq (c_region (waS rfl (waB rfl (x_nil (e_S ?_)))))
     refine c_ret (e_Sr (e_Br (e_Sr (e_LSr (e_Br ?_)))))
     refine e_Sr (e_Br (e_Sr (e_LSr (e_Br (e_Sr ?_)))))
     refine fin2 (.inl rfl) rfl rfl rfl ?_
     exact ⟨⟨none, 0, by rw [mapF_no hno, decide_eq_false hno]; rfl, by rw [mapF_no hno]; exact ints_nil _ _⟩, hB⟩
    have hng : im < 0 := by omega
    refine c_skip (e_S (c_region (wmI rfl (waI rfl (x_nil ?_)))))
    refine e_B (e_S (c_region (wl (r_add rfl rfl rfl om) (wmI rfl (x_nil ?_)))))
    refine e_LS (gb.length - (j + 1)) om agA ?_
    first
      | exact ⟨j + 1, (j : Int), by omega, rfl, rfl, rfl, rfl, img_yes him hng hpt⟩
      | exact ⟨j + 1, im, by omega, rfl, rfl, rfl, rfl, img_no him hpf⟩
   have hpf : p i j = false := c128
   refine c_skip (e_B (e_S (c_region (wl (r_add rfl rfl rfl om) (wmI rfl ?_)))))
   refine x_nil (e_LS (gb.length - (j + 1)) om agA ?_)
   first
     | exact ⟨j + 1, (j : Int), by omega, rfl, rfl, rfl, rfl, img_yes him hng hpt⟩
     | exact ⟨j + 1, im, by omega, rfl, rfl, rfl, rfl, img_no him hpf⟩
  have hje : j = gb.length := by omega
  subst hje
  refine c_exit (e_Sx (e_LSx (e_Bx (e_S (c_region ?_)))))
  refine wmS rfl (wmI rfl ?_)
  refine wl_bs (cs := #[_]) [(0, .int _ _)] rfl U46 sz3_GSearch ze3_SFind dE dE kR rfl (fun b135 w22 hb135 hs hr => ?_)
  have or_b3_b135 : b3 < b135 := nLL hb3.lt hr
  have or_b4_b135 : b4 < b135 := nLL hb4.lt hr
  have or_b5_b135 : b5 < b135 := nLL hb5.lt hr
  have or_b24_b135 : b24 < b135 := nLL hb24.lt hr
  have or_hrw_b135 := (fun (i : Nat) (hi : i < ga.length) => nLL (hrw i hi).lt hr)
  have or_hz0_b135 := (nLT hz0 hr)
  have or_hox_b135 := fun g hg => nLL (hox.lt g hg).2 hr
  have lo135 := nLT (Bel.size hB) hr
  replace hB := hB.tr0 hs
  replace hb3 := hb3.tr0 hs
  replace hb4 := hb4.tr0 hs
  replace hb5 := hb5.tr0 hs
  replace hb24 := hb24.tr0 hs
  replace hrw := fun i hi => (hrw i hi).tr0 hs
  replace hz0 := nLT hz0 (Same.size hs)
  replace hox := hox.tr0 hs
  clear hs
  clear hr
  refine wl_app U46 in3_SFind rfl dE hox hb135 rfl rfl rfl oneA dE om om om (fun g136 cap136 w23 ho136 hs hg => ?_)
  have ne_ho136_b3 : g136 ≠ b3 := fun e => by
   have hl := hb3.lt
   rcases hg with hg | hg
   · have h1 := hox.lt g136 (by rw [hg]; exact List.mem_singleton.2 rfl)
     (try have := or_hox_b3 g136 (by rw [hg]; exact List.mem_singleton.2 rfl)); omega
   · omega
  have ne_ho136_b4 : g136 ≠ b4 := fun e => by
   have hl := hb4.lt
   rcases hg with hg | hg
   · have h1 := hox.lt g136 (by rw [hg]; exact List.mem_singleton.2 rfl)
     (try have := or_hox_b4 g136 (by rw [hg]; exact List.mem_singleton.2 rfl)); omega
   · omega
  have ne_ho136_b5 : g136 ≠ b5 := fun e => by
   have hl := hb5.lt
   rcases hg with hg | hg
   · have h1 := hox.lt g136 (by rw [hg]; exact List.mem_singleton.2 rfl)
     (try have := or_hox_b5 g136 (by rw [hg]; exact List.mem_singleton.2 rfl)); omega
   · omega
  have ne_ho136_b24 : g136 ≠ b24 := fun e => by
   have hl := hb24.lt
   rcases hg with hg | hg
   · have h1 := hox.lt g136 (by rw [hg]; exact List.mem_singleton.2 rfl)
     (try have := or_hox_b24 g136 (by rw [hg]; exact List.mem_singleton.2 rfl)); omega
   · omega
  replace hB := hB.tr hs (fun g hg => nLT hlz (hox.lt g hg).1)
  replace hb3 := hb3.tr hs (fun hx => by have := (hox.lt _ hx).1; (try have := or_hox_b3 _ hx); omega)
  replace hb4 := hb4.tr hs (fun hx => by have := (hox.lt _ hx).1; (try have := or_hox_b4 _ hx); omega)
  replace hb5 := hb5.tr hs (fun hx => by have := (hox.lt _ hx).1; (try have := or_hox_b5 _ hx); omega)
  replace hb24 := hb24.tr hs (fun hx => by have := (hox.lt _ hx).1; (try have := or_hox_b24 _ hx); omega)
  replace hrw := fun i hi => (hrw i hi).tr hs (fun hx => by have := (hox.lt _ hx).1; have := hrl i hi; (try have := hru i hi); omega)
  replace hz0 := nLT hz0 (Same.size hs)
  refine waS rfl (x_nil (e_B (e_S (c_region (wl (r_add rfl rfl rfl om) ?_)))))
  refine wmI rfl (x_nil (e_LS (ga.length - (i + 1)) om agA ?_))
  refine ⟨i + 1, xs ++ [im], _, _, by omega, rfl, rfl, sl_snoc _ _ _ _, by simp [hxl], hB, hb3, hb4, hb5, hb24, hrw, hz0, own_snoc ho136, fun k hk => ?_⟩
  exact xs_snoc hxl hxs.out him k hk
 have hie : i = ga.length := by omega
 obtain ⟨hmp, hxe⟩ := maps_out hrch hn0 hps om hxs.out
 refine c_exit (e_Sx (e_LSx (e_Bx (e_S (c_seq ?_)))))
 refine c_region (wmS rfl (waS rfl (waB rfl (x_nil (e_S ?_)))))
 refine c_ret (fin2 (.inl rfl) rfl rfl rfl ?_)
 exact ⟨⟨A17, cap17, mp_ret hmp hxe, by rw [← hxe]; exact own_ints hox⟩, hB⟩
end Go.Proofs.YtfhmpbmgddaiiaaDoor
