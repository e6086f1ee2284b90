/- What these functions of the program compute, at every world: glosswright/glosswrightref4.ReadHierarchy. -/
import Derived.Test.YtegngekpmpdngaaDoorU
import Derived.Test.YtegngekpmpdngaaDoorHFnd
import Derived.Test.YtegngekpmpdngaaDoorHpl
import Derived.Test.YtegngekpmpdngaaDoorShx
import Derived.Test.YtegngekpmpdngaaDoorEng2
namespace Go.Proofs.YtegngekpmpdngaaDoor
open Go.RowKit
theorem sp_hit {r : ByteArray} {e : Nat} (he : e < r.size) (h10 : r[e]'he = 10) (hno : ¬ (10 : UInt8) ∈ (bl r).take e) : sp 10 r = stk e r :: sp 10 (sdr (e + 1) r) := by
  have hl : e < (bl r).length := by rw [bl_size]; exact he
  have h2 : bl r = (bl r).take e ++ 10 :: (bl r).drop (e + 1) := by
    have h3 : (bl r)[e]'hl = 10 := by
      have := bl_byte he
      rw [List.getElem?_eq_getElem hl] at this
      rw [Option.some.inj this, h10]
    have h4 := List.drop_eq_getElem_cons hl
    rw [h3] at h4
    rw [← h4, List.take_append_drop]
  have h5 := splitL_app hno ((bl r).drop (e + 1))
  rw [← h2] at h5
  unfold sp
  rw [h5, List.map_cons]
  rfl
theorem sp_none {r : ByteArray} (hno : ¬ (10 : UInt8) ∈ bl r) : sp 10 r = [r] := by
  unfold sp
  rw [splitL_self hno]
  exact congrArg (fun z => [z]) (bl_ext rfl)
theorem no_succ {r : ByteArray} {e : Nat} (he : e < r.size) (hno : ¬ (10 : UInt8) ∈ (bl r).take e) (h : ¬ r[e]'he = 10) : ¬ (10 : UInt8) ∈ (bl r).take (e + 1) := by
  rw [List.take_add_one, bl_byte he]
  intro hm
  rcases List.mem_append.1 hm with hm | hm
  · exact hno hm
  · exact h (List.mem_singleton.1 hm).symm
theorem cont_end {l : List Ty} {fs : List Ft} {k : Nat} {r : ByteArray} (hr : r.size = 0) : contP l fs k (sp 10 r) = finP l fs := by
  have e : r = ⟨#[]⟩ := bl_ext (List.length_eq_zero_iff.1 (by rw [bl_size]; exact hr))
  subst e
  show (if (⟨#[]⟩ : ByteArray) = ⟨#[]⟩ then finP l fs else _) = _
  rw [if_pos rfl]
theorem cont_openL {l : List Ty} {fs : List Ft} {k : Nat} {r : ByteArray} (hr : 0 < r.size) (hno : ¬ (10 : UInt8) ∈ bl r) : contP l fs k (sp 10 r) = (([], []), (11, (k : Int))) := by
  rw [sp_none hno]
  show (if r = ⟨#[]⟩ then finP l fs else _) = _
  rw [if_neg]
  intro e
  rw [e] at hr
  exact absurd hr dE
theorem cont_bad {l : List Ty} {fs : List Ft} {k : Nat} {y : ByteArray} {ys zs : List ByteArray} {c : Int} (hs : zs = y :: ys) (hy : ys ≠ []) (h : stepL l fs (sp 32 y) = .inl c) : contP l fs k zs = (([], []), (c, (k : Int))) := by
  subst hs
  cases ys with
  | nil => exact absurd rfl hy
  | cons q qs => rw [contP_cons, h]
theorem cont_go {l : List Ty} {fs : List Ft} {k : Nat} {y : ByteArray} {ys zs : List ByteArray} {p : List Ty × List Ft} (hs : zs = y :: ys) (hy : ys ≠ []) (h : stepL l fs (sp 32 y) = .inr p) : contP l fs k zs = contP p.1 p.2 (k + 1) ys := by
  subst hs
  exact cont_step hy h
def okA (ws : List ByteArray) (nf : Nat) : Bool := decide (wd ws 0 = TYPE) && decide (1 < ws.length) && decide (nf = 0) || decide (wd ws 0 = FEAT) && decide (ws.length = 4)
theorem dd (b : Bool) : decide (b = true) = b := by cases b <;> rfl
section okq
variable {ws : List ByteArray} {nf : Nat}
theorem okQ1 (t : wd ws 0 = ⟨#[116, 121, 112, 101]⟩) (l : 2 ≤ ((ws.length : Nat) : Int)) (n : ((nf : Nat) : Int) = 0) : true = decide (okA ws nf = true) := by
  rw [dd]; unfold okA; rw [decide_eq_true (show wd ws 0 = TYPE from t), decide_eq_true (show 1 < ws.length by omega), decide_eq_true (show nf = 0 by omega)]; rfl
theorem okQ2 (t : wd ws 0 = ⟨#[116, 121, 112, 101]⟩) (f : wd ws 0 = ⟨#[102, 101, 97, 116]⟩) : decide (((ws.length : Nat) : Int) = 4) = decide (okA ws nf = true) := absurd (t.symm.trans f) dE
theorem okQ3 (n : ¬ ((nf : Nat) : Int) = 0) (f : ¬ wd ws 0 = ⟨#[102, 101, 97, 116]⟩) : false = decide (okA ws nf = true) := by
  rw [dd]; unfold okA; rw [decide_eq_false (show ¬ nf = 0 by omega), decide_eq_false (show ¬ wd ws 0 = FEAT from f), Bool.and_false]; rfl
theorem okQ5 (l : ¬ 2 ≤ ((ws.length : Nat) : Int)) (f : ¬ wd ws 0 = ⟨#[102, 101, 97, 116]⟩) : false = decide (okA ws nf = true) := by
  rw [dd]; unfold okA; rw [decide_eq_false (show ¬ 1 < ws.length by omega), decide_eq_false (show ¬ wd ws 0 = FEAT from f), Bool.and_false]; rfl
theorem okQ6 (t : ¬ wd ws 0 = ⟨#[116, 121, 112, 101]⟩) (f : wd ws 0 = ⟨#[102, 101, 97, 116]⟩) : decide (((ws.length : Nat) : Int) = 4) = decide (okA ws nf = true) := by
  have e : decide (((ws.length : Nat) : Int) = 4) = decide (ws.length = 4) := decide_eq_decide.2 ⟨fun h => by omega, fun h => by omega⟩
  rw [dd]; unfold okA; rw [decide_eq_false (show ¬ wd ws 0 = TYPE from t), decide_eq_true (show wd ws 0 = FEAT from f), e]; simp
theorem okQ7 (t : ¬ wd ws 0 = ⟨#[116, 121, 112, 101]⟩) (f : ¬ wd ws 0 = ⟨#[102, 101, 97, 116]⟩) : false = decide (okA ws nf = true) := by
  rw [dd]; unfold okA; rw [decide_eq_false (show ¬ wd ws 0 = TYPE from t), decide_eq_false (show ¬ wd ws 0 = FEAT from f)]; rfl
theorem okE {j : Nat} (hj : j = ws.length) : (decide (okA ws nf = true) && !seen (ws.take j) ⟨#[]⟩) = okB ws nf := by
  rw [hj, List.take_length, dd]
  unfold okB okA
  exact Bool.and_comm _ _
end okq
theorem seen_take {c : UInt8} {s : ByteArray} {j : Nat} (hj : j < (sp c s).length) : seen ((sp c s).take (j + 1)) ⟨#[]⟩ = (seen ((sp c s).take j) ⟨#[]⟩ || decide (pc c s j = ⟨#[]⟩)) := by
  rw [List.take_succ_eq_append_getElem hj, seen_snoc, pc_get hj]
theorem okS1 {X : Bool} {c : UInt8} {s : ByteArray} {j : Nat} (hj : j < (sp c s).length) (h : (X && !seen ((sp c s).take j) ⟨#[]⟩) = true) : decide (pc c s j ≠ ⟨#[]⟩) = (X && !seen ((sp c s).take (j + 1)) ⟨#[]⟩) := by
  rw [seen_take hj]
  simp only [Bool.and_eq_true, Bool.not_eq_true'] at h
  rw [h.1, h.2]
  simp
theorem okS0 {X : Bool} {c : UInt8} {s : ByteArray} {j : Nat} (hj : j < (sp c s).length) (h : (X && !seen ((sp c s).take j) ⟨#[]⟩) = false) : false = (X && !seen ((sp c s).take (j + 1)) ⟨#[]⟩) := by
  rw [seen_take hj]
  cases X with
  | false => rfl
  | true =>
    simp only [Bool.true_and, Bool.not_eq_false'] at h
    rw [h]; rfl
def FG (l : List Ty) (x : ByteArray) (i : Nat) (q : Int) : Prop := (q = -1 ∧ ∀ j (hj : j < l.length), i ≤ j → ¬ (l[j]).name = x) ∨ ∃ n : Nat, ∃ hn : n < l.length, q = (n : Int) ∧ i ≤ n ∧ (l[n]).name = x ∧ ∀ j (hj : j < l.length), i ≤ j → j < n → ¬ (l[j]).name = x
theorem FG.start (l : List Ty) (x : ByteArray) : FG l x l.length (-1) := .inl ⟨rfl, fun j hj h => by omega⟩
theorem FG.yes {l : List Ty} {x : ByteArray} {p : Nat} (hp : p < l.length) (h : (l[p]).name = x) : FG l x p (p : Int) := .inr ⟨p, hp, rfl, Nat.le_refl _, h, fun j _ h1 h2 => by omega⟩
theorem FG.no {l : List Ty} {x : ByteArray} {p : Nat} {q : Int} (hp : p < l.length) (h : ¬ (l[p]).name = x) (hq : FG l x (p + 1) q) : FG l x p q := by
  have hj2 : ∀ j (hj : j < l.length), p ≤ j → (p + 1 ≤ j → ¬ (l[j]).name = x) → ¬ (l[j]).name = x := fun j hj h1 h2 => by
    by_cases e : j = p
    · subst e; exact h
    · exact h2 om
  rcases hq with ⟨h1, h2⟩ | ⟨n, hn, h1, h2, h3, h4⟩
  · exact .inl ⟨h1, fun j hj h5 => hj2 j hj h5 (h2 j hj)⟩
  · exact .inr ⟨n, hn, h1, by omega, h3, fun j hj h5 h6 => hj2 j hj h5 (fun h7 => h4 j hj h7 h6)⟩
theorem FG.fnd {l : List Ty} {x : ByteArray} {q : Int} (h : FG l x 0 q) : q = fnd l x := by
  rcases h with ⟨h1, h2⟩ | ⟨n, hn, h1, _, h3, h4⟩
  · rw [h1, fnd_no (fun j hj => h2 j hj (Nat.zero_le _))]
  · rw [h1, Go.Proofs.YtegngekpmpdngaaDoor.fnd_at hn h3 (fun j hj => h4 j hj (Nat.zero_le _))]
theorem fn45 : callable Tryd.prog 45 = true := by kernel_rfl
set_option maxRecDepth 100000 in
set_option maxHeartbeats 16000000 in
theorem rdh_any (s : ByteArray) (w : World) : Calls Tryd.prog 17 #[.string s] w fun e w' => (∃ At ct Af cf l fs f, prs s = ((l, fs), f) ∧ e = .returned (.tuple #[.agg #[.slice At (List.length l) ct, .slice Af (List.length fs) cf], .agg #[.int .i64 (Prod.fst f), .int .i64 f.2]]) ∧ l.length ≤ ct ∧ fs.length ≤ cf ∧ TypesIn w' At l ∧ FeatsIn w' Af fs) ∧ Bel w w' := by
 refine enter Tryd.func17 Tryd.ntmps17 rfl (Nat.le_of_ble_eq_true rfl) ?_
 have hB : Bel w w := Below.refl _ _
 refine c_seq (c_region ?_)
 refine wl_al (cs := #[.slice none 0 0, .slice none 0 0]) ze25_HRd rfl (fun b2 w1 hb2 hs hr => ?_)
 have lo2 := nLT (Bel.size hB) hr
 replace hB := hB.tr0 hs
 clear hs
 clear hr
 refine wl_al (cs := #[.int .i64 0, .int .i64 0]) ze35_GLoose rfl (fun b3 w2 hb3 hs hr => ?_)
 have or_b2_b3 : b2 < b3 := nLL hb2.lt hr
 have lo3 := nLT (Bel.size hB) hr
 replace hB := hB.tr0 hs
 replace hb2 := hb2.tr0 hs
 clear hs
 clear hr
 refine x_nil (e_S (c_seq (c_region ?_)))
 refine wl_al (cs := #[.slice none 0 0, .slice none 0 0]) ze25_HRd rfl (fun b4 w3 hb4 hs hr => ?_)
 have or_b2_b4 : b2 < b4 := nLL hb2.lt hr
 have or_b3_b4 : b3 < b4 := nLL hb3.lt hr
 have lo4 := nLT (Bel.size hB) hr
 replace hB := hB.tr0 hs
 replace hb2 := hb2.tr0 hs
 replace hb3 := hb3.tr0 hs
 clear hs
 clear hr
 refine x_nil (e_S (c_seq (c_seq (c_region (wl (r_mv (v := .string _) rfl) ?_)))))
 refine wl (r_lenS U9 rfl) (wl (r_gtr rfl rfl) (x_nil (e_S ?_)))
 refine c_ifd rfl (fun c19 => ?_) (fun c19 => ?_)
 ·
  refine c_seq (c_region (wl (r_ldS U25 rfl rfl hb4.range0 sz25) (wl (r_bd2 (v0 := .int _ _) (v1 := .int _ _) (fun v0 v1 => #[v0, v1]) rfl rfl kR) ?_)))
  refine wl_stW hb2 rfl rfl sz25 rfl oneA (fun w4 hq hs => ?_)
  replace hB := hB.tr1 hs lo2
  replace hb3 := hb3.tr1 hs om
  replace hb4 := hb4.tr1 hs om
  clear hs
  replace hb2 := hq
  refine wl_stW hb3 rfl rfl sz35_GLoose rfl oneA (fun w5 hq hs => ?_)
  replace hB := hB.tr1 hs lo3
  replace hb2 := hb2.tr1 hs om
  replace hb4 := hb4.tr1 hs om
  clear hs
  replace hb3 := hq
  refine x_nil (e_S (c_ret (e_Sr (fin2 (.inl rfl) rfl (rr_cell U25 rfl rfl hb2.range0 sz25) (rr_cell U35 rfl rfl hb3.range0 sz35_GLoose) ?_))))
  exact ⟨⟨none, 0, none, 0, [], [], _, prs_big c19, rfl, Nat.le_refl _, Nat.le_refl _, types_nil _ _, feats_nilH _ _⟩, hB⟩
 ·
  have h4 : s.size ≤ 4000 := by omega
  have hR0 : prs s = contP [] [] 0 (sp 10 s) := by unfold prs; rw [if_neg om]
  refine c_skip (e_S (c_seq (c_seq ?_)))
  have hoT : Own w3 w.heap.size 77 2 none ([] : List Ty).length 0 [] := Own.nil _ _ _ _
  have hoF : Own w3 w.heap.size 63 3 none ([] : List Ft).length 0 (ftV []) := Own.nil _ _ _ _
  refine c_region (waI rfl (x_nil (e_S (c_block ?_))))
  refine c_loopS [0, 5, 6, 7, 8, 10, 11, 13, 14, 15, 22, 23, 24, 25, 26, 27, 28, 29, 30, 31, 32, 33, 34, 35, 36, 37, 38, 39, 40, 41, 42, 43, 44, 45, 46, 47, 48, 49, 50, 51, 52, 53, 54, 55, 56, 57, 58, 59, 60, 61, 62, 63, 64, 65, 66, 67, 68, 69, 70, 71, 72, 73, 74, 75, 76, 77, 78, 79, 80, 81, 82, 83, 84, 85, 86, 87, 88, 89, 90, 91, 92, 93, 94, 95, 96, 97, 98, 99, 100, 101, 102, 103, 104, 105, 106, 107, 108, 109, 110, 111, 112, 113, 114, 115, 116, 117, 118, 119, 120, 121, 122, 123, 124, 125, 126, 127, 128, 129, 130, 131, 132, 133, 134, 135, 136, 137, 138, 139, 140, 141, 142, 143, 144, 145, 146, 147, 148, 149, 150, 151, 152, 153, 154, 155, 156, 157, 158, 159] (fun m g w' => ∃ (k : Nat) (r : ByteArray) (lT : List Ty) (lF : List Ft) (AT AF : Option Addr) (cT cF : Nat) (vs : List Value), m = r.size ∧ g 5 = .int .i64 k ∧ g 0 = .string r ∧ k + r.size ≤ 4000 ∧ lT.length ≤ k ∧ lF.length ≤ k ∧ prs s = contP lT lF k (sp 10 r) ∧ Bel w w' ∧ Blk w' b2 25 #[.slice none 0 0, .slice none 0 0] ∧ Blk w' b3 35 #[.int .i64 0, .int .i64 0] ∧ Blk w' b4 25 #[.slice AT lT.length cT, .slice AF lF.length cF] ∧ Own w' w.heap.size 77 2 AT lT.length cT vs ∧ Own w' w.heap.size 63 3 AF lF.length cF (ftV lF) ∧ RowT w.heap.size w'.heap.size w' lT vs) (s.size) ?_ (fun m g5 w6 hI => ?_)
  ·
   exact ⟨0, s, [], [], none, none, 0, 0, [], rfl, rfl, rfl, by omega, Nat.le_refl _, Nat.le_refl _, hR0, hB, hb2, hb3, hb4, hoT, hoF, RowT.nil _ _ _⟩
  obtain ⟨k, r, lT, lF, AT, AF, cT, cF, vs, hmk, h5, h0, hkr, hlT, hlF, hR, hB, hb2, hb3, hb4, hoT, hoF, hRw⟩ := hI
  obtain ⟨zlo, hzlo⟩ : ∃ z, z = w6.heap.size := ⟨_, rfl⟩
  have hzh : zlo ≤ w6.heap.size := Nat.le_of_eq hzlo
  have hwz : w.heap.size ≤ zlo := by rw [hzlo]; exact Bel.size hB
  rw [← hzlo] at hRw
  have lt2 := hb2.lt
  have lt3 := hb3.lt
  have lt4 := hb4.lt
  refine c_know 5 (.int .i64 k) h5 nu (c_know 0 (.string r) h0 nu (c_seq (c_seq (c_region (wl (r_mv (v := .string _) rfl) ?_)))))
  refine wl (r_lenS U9 rfl) (wl (r_gtr rfl rfl) (x_nil (e_S ?_)))
  refine c_ifd rfl (fun c24 => ?_) (fun c24 => ?_)
  ·
   have hr0 : 0 < r.size := by omega
   refine c_skip (e_S (c_seq (c_block (c_seq (c_region ?_)))))
   refine waI rfl (x_nil (e_S (c_seq (c_block ?_))))
   refine c_loopS [6, 27, 28, 29, 30, 31, 32, 33, 34, 35, 36, 37, 38] (fun m g w' => ∃ e : Nat, e ≤ r.size ∧ m = r.size - e ∧ g 6 = .int .i64 e ∧ ¬ (10 : UInt8) ∈ (bl r).take e ∧ Bel w w' ∧ Blk w' b2 25 #[.slice none 0 0, .slice none 0 0] ∧ Blk w' b3 35 #[.int .i64 0, .int .i64 0] ∧ Blk w' b4 25 #[.slice AT lT.length cT, .slice AF lF.length cF] ∧ Own w' w.heap.size 77 2 AT lT.length cT vs ∧ Own w' w.heap.size 63 3 AF lF.length cF (ftV lF) ∧ RowT w.heap.size zlo w' lT vs ∧ zlo ≤ w'.heap.size) (r.size) ?_ (fun m g8 w7 hI => ?_)
   ·
    exact ⟨0, Nat.zero_le _, rfl, rfl, by simp, hB, hb2, hb3, hb4, hoT, hoF, hRw, hzh⟩
   obtain ⟨e, he, hme, h6, hno, hB, hb2, hb3, hb4, hoT, hoF, hRw, hzh⟩ := hI
   refine c_know 6 (.int .i64 e) h6 nu (c_seq (c_seq (c_region (wmI rfl (wl (r_mv (v := .string _) rfl) ?_)))))
   refine wl (r_lenS U9 rfl) (wl (r_lss rfl rfl) (wmB rfl ?_))
   refine wl_casesd 31 rfl (fun g31 => ?_) (fun g31 => ?_)
   ·
    refine wl_gd 31 rfl rfl (wl (r_mv (v := .string _) rfl) (wl_gd 31 rfl rfl (wmI rfl (wl_gd 31 rfl rfl (wl (r_ixS (i := e) U9 rfl rfl om) ?_)))))
    refine wl_gd 31 rfl rfl (wl (r_neq rfl rfl) (wl (r_pt (v := .bool _) rfl rfl) (x_nil (e_S ?_))))
    refine c_ifd rfl (fun c36 => ?_) (fun c36 => ?_)
    ·
     have hel : e < r.size := by omega
     have hno2 := no_succ hel hno (byte_ne (n := 10) c36 dE)
     refine c_skip (e_S (c_block (c_region (wmI rfl (wl (r_add rfl rfl rfl om) ?_)))))
     refine waI rfl (x_nil (e_B (e_LS (r.size - (e + 1)) om agA ?_)))
     exact ⟨e + 1, by omega, rfl, rfl, hno2, hB, hb2, hb3, hb4, hoT, hoF, hRw, hzh⟩
    ·
     have hel : e < r.size := by omega
     have h10 : r[e] = 10 := byte_eq (n := 10) dE (Decidable.not_not.1 c36)
     have hsp := sp_hit hel h10 hno
     have hes := stk_size (h := e) (s := r) om
     have hwl := sp_len 32 (stk e r)
     have hwc := count_size 32 (stk e r)
     have hsk : (stk e r).size ≤ 4000 := by omega
     refine c_exit (e_Sx (e_LSx (e_Bx (e_S (c_seq ?_)))))
     refine c_seq (c_region (wmI rfl (wl (r_mv (v := .string _) rfl) (wl (r_lenS U9 rfl) (wl (r_eql rfl rfl) ?_)))))
     refine x_nil (e_S ?_)
     refine c_ifd rfl (fun c42 => ?_) (fun c42 => ?_)
     ·
      have hee : e = r.size := by omega
      have hop := hR.trans (cont_openL hr0 (by rw [hee, ← bl_size, List.take_length] at hno; exact hno))
      refine c_seq (c_region (wl (r_bd (vs := #[]) (cs := #[.slice none 0 0, .slice none 0 0]) (by simp) kR) (wmI rfl (wl (r_bd2 (v0 := .int _ _) (v1 := .int _ _) (fun v0 v1 => #[v0, v1]) rfl rfl kR) ?_))))
      refine wl_stW hb2 rfl rfl sz25 rfl oneA (fun w8 hq hs => ?_)
      replace hB := hB.tr1 hs lo2
      replace hb3 := hb3.tr1 hs om
      replace hb4 := hb4.tr1 hs om
      replace hoT := hoT.tr1 hs (own_neC hoT hb2 dE)
      replace hoF := hoF.tr1 hs (own_neC hoF hb2 dE)
      replace hRw := hRw.tr hs (fun g hg => by rw [List.mem_singleton.1 hg]; exact .inr ⟨_, _, hb2, by decide⟩)
      replace hzh := nLT hzh (Same.size hs)
      clear hs
      replace hb2 := hq
      refine wl_stW hb3 rfl rfl sz35_GLoose rfl oneA (fun w9 hq hs => ?_)
      replace hB := hB.tr1 hs lo3
      replace hb2 := hb2.tr1 hs om
      replace hb4 := hb4.tr1 hs om
      replace hoT := hoT.tr1 hs (own_neC hoT hb3 dE)
      replace hoF := hoF.tr1 hs (own_neC hoF hb3 dE)
      replace hRw := hRw.tr hs (fun g hg => by rw [List.mem_singleton.1 hg]; exact .inr ⟨_, _, hb3, by decide⟩)
      replace hzh := nLT hzh (Same.size hs)
      clear hs
      replace hb3 := hq
      refine x_nil (e_S (c_ret (e_Sr (e_Br (e_Sr ?_)))))
      refine e_LSr (e_Br (e_Sr (fin2 (.inl rfl) rfl (rr_cell U25 rfl rfl hb2.range0 sz25) (rr_cell U35 rfl rfl hb3.range0 sz35_GLoose) ?_)))
      exact ⟨⟨none, 0, none, 0, [], [], _, hop, rfl, Nat.le_refl _, Nat.le_refl _, types_nil _ _, feats_nilH _ _⟩, hB⟩
     ·
      refine c_skip (e_S (c_seq (c_region (wl (r_mv (v := .string _) rfl) (wmI rfl ?_)))))
      refine wl (r_tkS (h := e) U9 rfl rfl om) ?_
      have hz7 := hzh
      refine wl_cl fn45 (wds_any (stk e r) _ hsk) rfl (fun e' w10 hr => ?_)
      obtain ⟨⟨bW, cW, cur, rfl, hcW, loW, hbW, hcu⟩, hs⟩ := hr
      replace hs := Same.of_bel hs
      replace hB := hB.tr0 hs
      replace hb2 := hb2.tr0 hs
      replace hb3 := hb3.tr0 hs
      replace hb4 := hb4.tr0 hs
      replace hoT := hoT.tr0 hs
      replace hoF := hoF.tr0 hs
      replace hRw := hRw.tr hs (by simp)
      replace hzh := nLT hzh (Same.size hs)
      clear hs
      have hcu2 : ∀ j, 2 + j < (sp 32 (stk e r)).length → cur[2 + j * 1]? = some (.string (pc 32 (stk e r) (2 + j))) := fun j hj => by
        have h := hcu _ hj
        rwa [show 0 + (2 + j) * 1 = 2 + j * 1 by omega] at h
      refine ⟨_, rfl, ?_⟩
      refine waS rfl (x_nil (e_S (c_seq (c_region (wl (r_mv (v := .string _) rfl) ?_)))))
      refine wmI rfl (wl (r_add (c := ((e + 1 : Nat) : Int)) rfl rfl om om) (wl (r_drS (l := e + 1) U9 rfl rfl om) (wl (r_as (v := .string _) rfl) (x_nil (e_S ?_)))))
      refine c_seq ?_
      refine c_cut1 [8, 54, 55, 56, 57, 58, 59, 60, 61, 62, 63, 64, 65, 66, 67, 68, 69, 70, 71, 72, 73, 74, 75, 76, 77, 78, 79] 8 (.bool (decide (okA (sp 32 (stk e r)) lF.length = true))) nu ?_ (fun gq => ?_)
      ·
       refine c_region (wmS rfl (wl (r_ia (i := 0) U83 sz9_HFnd rfl rfl om rfl) (wl (r_ld1 (v := .string _) U9 rfl rfl (hbW.cell (hcu _ om))) (wl (r_eqlS rfl rfl) (wmB rfl ?_)))))
       refine wl_casesd 58 rfl (fun g58 => ?_) (fun g58 => ?_)
       ·
        refine wl_gd 58 rfl rfl (wmS rfl (wl_gd 58 rfl rfl (wl (r_len U83 rfl) (wl_gd 58 rfl rfl (wl (r_geq rfl rfl) ?_)))))
        refine wl (r_pt (v := .bool _) rfl rfl) (wmB rfl ?_)
        refine wl_casesd 63 rfl (fun g63 => ?_) (fun g63 => ?_)
        ·
         refine wl_gd 63 rfl rfl (wl (r_fa U25 sz23_GLoose dE rfl rfl rfl) (wl_gd 63 rfl rfl (wl (r_ld1 (v := .slice _ _ _) U23 rfl rfl (hb4.cell rfl)) (wl_gd 63 rfl rfl (wl (r_len U23 rfl) ?_)))))
         refine wl_gd 63 rfl rfl (wl (r_eql rfl rfl) (wl (r_pt (v := .bool _) rfl rfl) (wmB rfl ?_)))
         refine wl_casesd 69 rfl (fun g69 => ?_) (fun g69 => ?_)
         ·
          refine wlgn 69 rfl rfl rfl (wlgn 69 rfl rfl rfl (wlgn 69 rfl rfl rfl (wlgn 69 rfl rfl rfl (wlgn 69 rfl rfl rfl (wlgu 74 rfl rfl ?_)))))
          refine wlgu 74 rfl rfl (wlgu 74 rfl rfl (wlgn 69 rfl rfl rfl (wl (r_pt (v := .bool _) rfl rfl) (waB rfl ?_))))
          refine x_nil (e_R ⟨rfl, agA, ?_⟩)
          show Value.bool _ = Value.bool _
          first | exact congrArg Value.bool (okQ1 g58 g63 g69) | exact congrArg Value.bool (okQ2 g58 g74) | exact congrArg Value.bool (okQ6 g58 g74) | exact congrArg Value.bool (okQ7 g58 g74) | exact congrArg Value.bool (okQ3 g69 g74) | exact congrArg Value.bool (okQ5 g63 g74)
         refine wl_gd 69 rfl rfl (wmS rfl (wl_gd 69 rfl rfl (wl (r_ia (i := 0) U83 sz9_HFnd rfl rfl om rfl) (wl_gd 69 rfl rfl (wl (r_ld1 (v := .string _) U9 rfl rfl (hbW.cell (hcu _ om))) ?_)))))
         refine wl_gd 69 rfl rfl (wl (r_eqlS rfl rfl) (wl_gd 69 rfl rfl (wmB rfl ?_)))
         refine wl_casesd 74 rfl (fun g74 => ?_) (fun g74 => ?_)
         ·
          refine wl_gd 74 rfl rfl (wmS rfl (wl_gd 74 rfl rfl (wl (r_len U83 rfl) (wl_gd 74 rfl rfl (wl (r_eql rfl rfl) ?_)))))
          refine wl_gd 69 rfl rfl (wl (r_pt (v := .bool _) rfl rfl) (wl (r_pf (v := .bool _) rfl rfl) (waB rfl ?_)))
          refine x_nil (e_R ⟨rfl, agA, ?_⟩)
          show Value.bool _ = Value.bool _
          first | exact congrArg Value.bool (okQ1 g58 g63 g69) | exact congrArg Value.bool (okQ2 g58 g74) | exact congrArg Value.bool (okQ6 g58 g74) | exact congrArg Value.bool (okQ7 g58 g74) | exact congrArg Value.bool (okQ3 g69 g74) | exact congrArg Value.bool (okQ5 g63 g74)
         refine wlgn 74 rfl rfl rfl (wlgn 74 rfl rfl rfl (wlgn 74 rfl rfl rfl (wl_gd 69 rfl rfl (wl (r_pf (v := .bool _) rfl rfl) (wl (r_pf (v := .bool _) rfl rfl) ?_)))))
         refine waB rfl ?_
         refine x_nil (e_R ⟨rfl, agA, ?_⟩)
         show Value.bool _ = Value.bool _
         first | exact congrArg Value.bool (okQ1 g58 g63 g69) | exact congrArg Value.bool (okQ2 g58 g74) | exact congrArg Value.bool (okQ6 g58 g74) | exact congrArg Value.bool (okQ7 g58 g74) | exact congrArg Value.bool (okQ3 g69 g74) | exact congrArg Value.bool (okQ5 g63 g74)
        refine wlgn 63 rfl rfl rfl (wlgn 63 rfl rfl rfl (wlgn 63 rfl rfl rfl (wlgn 63 rfl rfl rfl (wl (r_pf (v := .bool _) rfl rfl) (wmB rfl ?_)))))
        refine wl_gd 69 rfl rfl (wmS rfl (wl_gd 69 rfl rfl (wl (r_ia (i := 0) U83 sz9_HFnd rfl rfl om rfl) (wl_gd 69 rfl rfl (wl (r_ld1 (v := .string _) U9 rfl rfl (hbW.cell (hcu _ om))) ?_)))))
        refine wl_gd 69 rfl rfl (wl (r_eqlS rfl rfl) (wl_gd 69 rfl rfl (wmB rfl ?_)))
        refine wl_casesd 74 rfl (fun g74 => ?_) (fun g74 => ?_)
        ·
         refine wl_gd 74 rfl rfl (wmS rfl (wl_gd 74 rfl rfl (wl (r_len U83 rfl) (wl_gd 74 rfl rfl (wl (r_eql rfl rfl) ?_)))))
         refine wl_gd 69 rfl rfl (wl (r_pt (v := .bool _) rfl rfl) (wl (r_pf (v := .bool _) rfl rfl) (waB rfl ?_)))
         refine x_nil (e_R ⟨rfl, agA, ?_⟩)
         show Value.bool _ = Value.bool _
         first | exact congrArg Value.bool (okQ1 g58 g63 g69) | exact congrArg Value.bool (okQ2 g58 g74) | exact congrArg Value.bool (okQ6 g58 g74) | exact congrArg Value.bool (okQ7 g58 g74) | exact congrArg Value.bool (okQ3 g69 g74) | exact congrArg Value.bool (okQ5 g63 g74)
        refine wlgn 74 rfl rfl rfl (wlgn 74 rfl rfl rfl (wlgn 74 rfl rfl rfl (wl_gd 69 rfl rfl (wl (r_pf (v := .bool _) rfl rfl) (wl (r_pf (v := .bool _) rfl rfl) ?_)))))
        refine waB rfl ?_
        refine x_nil (e_R ⟨rfl, agA, ?_⟩)
        show Value.bool _ = Value.bool _
        first | exact congrArg Value.bool (okQ1 g58 g63 g69) | exact congrArg Value.bool (okQ2 g58 g74) | exact congrArg Value.bool (okQ6 g58 g74) | exact congrArg Value.bool (okQ7 g58 g74) | exact congrArg Value.bool (okQ3 g69 g74) | exact congrArg Value.bool (okQ5 g63 g74)
       refine wlgn 58 rfl rfl rfl (wlgn 58 rfl rfl rfl (wlgn 58 rfl rfl rfl (wl (r_pf (v := .bool _) rfl rfl) (wmB rfl (wlgn 63 rfl rfl rfl ?_)))))
       refine wlgn 63 rfl rfl rfl (wlgn 63 rfl rfl rfl (wlgn 63 rfl rfl rfl (wl (r_pf (v := .bool _) rfl rfl) (wmB rfl (wl_gd 69 rfl rfl ?_)))))
       refine wmS rfl (wl_gd 69 rfl rfl (wl (r_ia (i := 0) U83 sz9_HFnd rfl rfl om rfl) (wl_gd 69 rfl rfl (wl (r_ld1 (v := .string _) U9 rfl rfl (hbW.cell (hcu _ om))) (wl_gd 69 rfl rfl ?_)))))
       refine wl (r_eqlS rfl rfl) (wl_gd 69 rfl rfl (wmB rfl ?_))
       refine wl_casesd 74 rfl (fun g74 => ?_) (fun g74 => ?_)
       ·
        refine wl_gd 74 rfl rfl (wmS rfl (wl_gd 74 rfl rfl (wl (r_len U83 rfl) (wl_gd 74 rfl rfl (wl (r_eql rfl rfl) ?_)))))
        refine wl_gd 69 rfl rfl (wl (r_pt (v := .bool _) rfl rfl) (wl (r_pf (v := .bool _) rfl rfl) (waB rfl ?_)))
        refine x_nil (e_R ⟨rfl, agA, ?_⟩)
        show Value.bool _ = Value.bool _
        first | exact congrArg Value.bool (okQ1 g58 g63 g69) | exact congrArg Value.bool (okQ2 g58 g74) | exact congrArg Value.bool (okQ6 g58 g74) | exact congrArg Value.bool (okQ7 g58 g74) | exact congrArg Value.bool (okQ3 g69 g74) | exact congrArg Value.bool (okQ5 g63 g74)
       refine wlgn 74 rfl rfl rfl (wlgn 74 rfl rfl rfl (wlgn 74 rfl rfl rfl (wl_gd 69 rfl rfl (wl (r_pf (v := .bool _) rfl rfl) (wl (r_pf (v := .bool _) rfl rfl) ?_)))))
       refine waB rfl ?_
       refine x_nil (e_R ⟨rfl, agA, ?_⟩)
       show Value.bool _ = Value.bool _
       first | exact congrArg Value.bool (okQ1 g58 g63 g69) | exact congrArg Value.bool (okQ2 g58 g74) | exact congrArg Value.bool (okQ6 g58 g74) | exact congrArg Value.bool (okQ7 g58 g74) | exact congrArg Value.bool (okQ3 g69 g74) | exact congrArg Value.bool (okQ5 g63 g74)
      refine e_S (c_seq (c_seq (c_region (wmS rfl (wl (r_len U83 rfl) ?_)))))
      refine wmI rfl (x_nil (e_S (c_block ?_)))
      refine c_loopS [8, 10, 82, 83, 84, 85, 86, 87, 88, 89, 90, 91] (fun m g w' => ∃ j : Nat, j ≤ (sp 32 (stk e r)).length ∧ m = (sp 32 (stk e r)).length - j ∧ g 82 = .int .i64 j ∧ g 8 = .bool (decide (okA (sp 32 (stk e r)) lF.length = true) && !seen ((sp 32 (stk e r)).take j) ⟨#[]⟩) ∧ Bel w w' ∧ Blk w' b2 25 #[.slice none 0 0, .slice none 0 0] ∧ Blk w' b3 35 #[.int .i64 0, .int .i64 0] ∧ Blk w' b4 25 #[.slice AT lT.length cT, .slice AF lF.length cF] ∧ Own w' w.heap.size 77 2 AT lT.length cT vs ∧ Own w' w.heap.size 63 3 AF lF.length cF (ftV lF) ∧ RowT w.heap.size zlo w' lT vs ∧ Blk w' bW 9 cur ∧ zlo ≤ w'.heap.size) ((sp 32 (stk e r)).length) ?_ (fun m g16 w11 hI => ?_)
      ·
       exact ⟨0, Nat.zero_le _, rfl, rfl, congrArg Value.bool (Bool.and_true _).symm, hB, hb2, hb3, hb4, hoT, hoF, hRw, hbW, hzh⟩
      obtain ⟨j, hj, hmj, h82, h8, hB, hb2, hb3, hb4, hoT, hoF, hRw, hbW, hzh⟩ := hI
      refine c_know 82 (.int .i64 j) h82 nu (c_know 8 (.bool (decide (okA (sp 32 (stk e r)) lF.length = true) && !seen ((sp 32 (stk e r)).take j) ⟨#[]⟩)) h8 nu (c_seq (c_region (wl (r_lss rfl rfl) (x_nil ?_)))))
      refine e_S (c_seq ?_)
      refine c_ifd rfl (fun c83 => ?_) (fun c83 => ?_)
      ·
       have hjl : j < (sp 32 (stk e r)).length := by omega
       refine c_skip (e_S (c_seq (c_block (c_seq (c_region ?_)))))
       refine wl (r_ia (i := j) U83 sz9_HFnd rfl rfl om rfl) (wl (r_ld1 (v := .string _) U9 rfl rfl (hbW.cell (hcu _ om))) (wl (r_as (v := .string _) rfl) (x_nil (e_S (c_region ?_)))))
       refine wmB rfl (wmB rfl ?_)
       refine wl_cases 87 rfl (fun g87 => ?_) (fun g87 => ?_)
       ·
        refine wl_gd 87 rfl rfl (wl (r_mv (v := .string _) rfl) (wl_gd 87 rfl rfl (wl (r_neqS rfl rfl) (wl (r_pt (v := .bool _) rfl rfl) (waB rfl ?_)))))
        refine x_nil (e_B (e_S (c_region (wl (r_add rfl rfl rfl om) (wmI rfl ?_)))))
        refine x_nil (e_LS ((sp 32 (stk e r)).length - (j + 1)) om agA ?_)
        exact ⟨j + 1, by omega, rfl, rfl, congrArg Value.bool (by first | exact okS1 hjl g87 | exact okS0 hjl g87), hB, hb2, hb3, hb4, hoT, hoF, hRw, hbW, hzh⟩
       refine wlgn 87 rfl rfl rfl (wlgn 87 rfl rfl rfl (wl (r_pf (v := .bool _) rfl rfl) (waB rfl (x_nil (e_B ?_)))))
       refine e_S (c_region (wl (r_add rfl rfl rfl om) (wmI rfl (x_nil (e_LS ((sp 32 (stk e r)).length - (j + 1)) om agA ?_)))))
       exact ⟨j + 1, by omega, rfl, rfl, congrArg Value.bool (by first | exact okS1 hjl g87 | exact okS0 hjl g87), hB, hb2, hb3, hb4, hoT, hoF, hRw, hbW, hzh⟩
      ·
       have hjx : j = (sp 32 (stk e r)).length := by omega
       refine c_exit (e_Sx (e_LSx (e_Bx (e_S (c_seq ?_)))))
       refine c_seq (c_region (wmB rfl (wl (r_not rfl) (x_nil (e_S ?_)))))
       refine c_if rfl (fun c93 => ?_) (fun c93 => ?_)
       ·
        have hok : okB (sp 32 (stk e r)) lF.length = false := by rw [okE hjx] at c93; simpa using c93
        have hbad := stepL_bad (l := lT) hok
        refine c_seq (c_region (wl (r_bd (vs := #[]) (cs := #[.slice none 0 0, .slice none 0 0]) (by simp) kR) (wmI rfl (wl (r_bd2 (v0 := .int _ _) (v1 := .int _ _) (fun v0 v1 => #[v0, v1]) rfl rfl kR) ?_))))
        refine wl_stW hb2 rfl rfl sz25 rfl oneA (fun w12 hq hs => ?_)
        replace hB := hB.tr1 hs lo2
        replace hb3 := hb3.tr1 hs om
        replace hb4 := hb4.tr1 hs om
        replace hbW := hbW.tr1 hs om
        replace hoT := hoT.tr1 hs (own_neC hoT hb2 dE)
        replace hoF := hoF.tr1 hs (own_neC hoF hb2 dE)
        replace hRw := hRw.tr hs (fun g hg => by rw [List.mem_singleton.1 hg]; exact .inr ⟨_, _, hb2, by decide⟩)
        replace hzh := nLT hzh (Same.size hs)
        clear hs
        replace hb2 := hq
        refine wl_stW hb3 rfl rfl sz35_GLoose rfl oneA (fun w13 hq hs => ?_)
        replace hB := hB.tr1 hs lo3
        replace hb2 := hb2.tr1 hs om
        replace hb4 := hb4.tr1 hs om
        replace hbW := hbW.tr1 hs om
        replace hoT := hoT.tr1 hs (own_neC hoT hb3 dE)
        replace hoF := hoF.tr1 hs (own_neC hoF hb3 dE)
        replace hRw := hRw.tr hs (fun g hg => by rw [List.mem_singleton.1 hg]; exact .inr ⟨_, _, hb3, by decide⟩)
        replace hzh := nLT hzh (Same.size hs)
        clear hs
        replace hb3 := hq
        refine x_nil (e_S (c_ret (e_Sr (e_Br (e_Sr ?_)))))
        refine e_LSr (e_Br (e_Sr (fin2 (.inl rfl) rfl (rr_cell U25 rfl rfl hb2.range0 sz25) (rr_cell U35 rfl rfl hb3.range0 sz35_GLoose) ?_)))
        exact ⟨⟨none, 0, none, 0, [], [], _, hR.trans (cont_bad hsp (sp_ne _ _) hbad), rfl, Nat.le_refl _, Nat.le_refl _, types_nil _ _, feats_nilH _ _⟩, hB⟩
       ·
        have hok : okB (sp 32 (stk e r)) lF.length = true := by rw [okE hjx] at c93; simpa using c93
        have hw2 := okB_two hok
        obtain ⟨AW, hAW, hSW⟩ := drop_adr (b := bW) (m := cW)
        refine c_skip (e_S (c_seq (c_region (waS rfl (x_nil ?_)))))
        refine e_S (c_seq (c_seq (c_region (wmS rfl (wl (r_slD (l := 2) U83 (sz := 1) kR hAW rfl rfl om) ?_)))))
        refine wl (r_len U83 rfl) (wmI rfl (x_nil (e_S (c_block ?_))))
        refine c_loopS [11, 13, 14, 15, 100, 101, 102, 103, 104, 105, 106, 107, 108, 109, 110, 111, 112, 113, 114, 115, 116, 117, 118, 119, 120, 121, 122, 123, 124, 125, 126, 127, 128, 129, 130] (fun m g w' => ∃ (j : Nat) (xs : List Int) (A10 : Option Addr) (c10 : Nat), j ≤ (sp 32 (stk e r)).length - 2 ∧ m = (sp 32 (stk e r)).length - 2 - j ∧ g 100 = .int .i64 j ∧ g 11 = .slice A10 xs.length c10 ∧ xs.length = j ∧ ats lT (((sp 32 (stk e r)).drop 2).take j) = some xs ∧ Bel w w' ∧ Blk w' b2 25 #[.slice none 0 0, .slice none 0 0] ∧ Blk w' b3 35 #[.int .i64 0, .int .i64 0] ∧ Blk w' b4 25 #[.slice AT lT.length cT, .slice AF lF.length cF] ∧ Own w' w.heap.size 77 2 AT lT.length cT vs ∧ Own w' w.heap.size 63 3 AF lF.length cF (ftV lF) ∧ RowT w.heap.size zlo w' lT vs ∧ Blk w' bW 9 cur ∧ Own w' zlo 3 1 A10 xs.length c10 (iV xs) ∧ zlo ≤ w'.heap.size) ((sp 32 (stk e r)).length - 2) ?_ (fun m g24 w14 hI => ?_)
        ·
         exact ⟨0, [], none, 0, Nat.zero_le _, rfl, rfl, rfl, rfl, rfl, hB, hb2, hb3, hb4, hoT, hoF, hRw, hbW, Own.nil _ _ _ _, hzh⟩
        obtain ⟨j, xs, A10, c10, hj, hmj, h100, h11, hxj, hat, hB, hb2, hb3, hb4, hoT, hoF, hRw, hbW, hoA, hzh⟩ := hI
        refine c_know 100 (.int .i64 j) h100 nu (c_know 11 (.slice A10 xs.length c10) h11 nu (c_seq (c_region (wl (r_lss rfl rfl) (x_nil ?_)))))
        refine e_S (c_seq ?_)
        refine c_ifd rfl (fun c101 => ?_) (fun c101 => ?_)
        ·
         have hjl : j < (sp 32 (stk e r)).length - 2 := by omega
         have hjd : j < ((sp 32 (stk e r)).drop 2).length := by rw [List.length_drop]; exact hjl
         obtain rfl := hSW om
         obtain ⟨hs1, hs2'⟩ := ats_step hjd hat
         rw [pc_drop hjd] at hs1 hs2'
         
         refine c_skip (e_S (c_seq (c_block (c_seq (c_region ?_)))))
         refine wl (r_ia (i := j) U83 sz9_HFnd rfl rfl om rfl) (wl (r_ld1 (v := .string _) U9 rfl rfl (hbW.cell (hcu2 _ om))) (wl (r_as (v := .string _) rfl) (x_nil (e_S (c_seq ?_)))))
         refine c_region (waI rfl (x_nil (e_S (c_seq (c_seq ?_)))))
         refine c_region (wl (r_fa U25 sz22_GLoose dE rfl rfl rfl) (wl (r_ld1 (v := .slice _ _ _) U22 rfl rfl (hb4.cell rfl)) (wl (r_len U22 rfl) (wl (r_sub (c := ((lT.length : Nat) : Int) - 1) rfl rfl rfl om) (waI rfl ?_)))))
         refine x_nil (e_S (c_block ?_))
         refine c_loopS [14, 15, 108, 109, 110, 111, 112, 113, 114, 115, 116, 117, 118, 119, 120] (fun m g w' => ∃ (i : Nat) (q : Int), i ≤ lT.length ∧ m = i ∧ g 15 = .int .i64 ((i : Int) - 1) ∧ g 14 = .int .i64 q ∧ FG lT (pc 32 (stk e r) (2 + j)) i q ∧ Bel w w' ∧ Blk w' b2 25 #[.slice none 0 0, .slice none 0 0] ∧ Blk w' b3 35 #[.int .i64 0, .int .i64 0] ∧ Blk w' b4 25 #[.slice AT lT.length cT, .slice AF lF.length cF] ∧ Own w' w.heap.size 77 2 AT lT.length cT vs ∧ Own w' w.heap.size 63 3 AF lF.length cF (ftV lF) ∧ RowT w.heap.size zlo w' lT vs ∧ Blk w' bW 9 cur ∧ Own w' zlo 3 1 A10 xs.length c10 (iV xs) ∧ zlo ≤ w'.heap.size) (lT.length) ?_ (fun m g28 w15 hI => ?_)
         ·
          exact ⟨lT.length, -1, Nat.le_refl _, rfl, rfl, rfl, FG.start _ _, hB, hb2, hb3, hb4, hoT, hoF, hRw, hbW, hoA, hzh⟩
         obtain ⟨i, q, hi, hmi, h15, h14, hFG, hB, hb2, hb3, hb4, hoT, hoF, hRw, hbW, hoA, hzh⟩ := hI
         refine c_know 15 (.int .i64 ((i : Int) - 1)) h15 nu (c_know 14 (.int .i64 q) h14 nu (c_seq (c_seq (c_region (wmI rfl ?_)))))
         refine wl (r_geq rfl rfl) (x_nil (e_S ?_))
         refine c_ifd rfl (fun c109 => ?_) (fun c109 => ?_)
         ·
          obtain ⟨p, hip⟩ : ∃ p, i = p + 1 := ⟨i - 1, by omega⟩
          have hpl : p < lT.length := by omega
          have hp1 : (i : Int) - 1 = ((p : Nat) : Int) := by omega
          obtain ⟨tb, to, PA, pcp, eA, htb, htr, _⟩ := (types_own hoT hRw rfl).at_ (Below.refl _ _ : Bel w15 w15) hpl
          subst eA
          refine c_skip (e_S (c_seq (c_block (c_seq (c_region ?_)))))
          refine wl (r_fa U25 sz22_GLoose dE rfl rfl rfl) (wl (r_ld1 (v := .slice _ _ _) U22 rfl rfl (hb4.cell rfl)) (wl (r_mv (v := .int .i64 ((p : Nat) : Int)) (congrArg (fun z : Int => Value.int .i64 z) hp1)) (wl (r_ia (i := p) U22 sz77_GLaw rfl rfl hpl rfl) (wl (r_fa U77 sz9_HFnd dE rfl rfl rfl) (wl (r_ld1 (v := .string _) U9 rfl rfl (htr 0 _ rfl)) ?_)))))
          refine wl (r_mv (v := .string _) rfl) (wl (r_eqlS rfl rfl) (x_nil (e_S ?_)))
          refine c_ifd rfl (fun c119 => ?_) (fun c119 => ?_)
          ·
           refine c_region (wl (r_mv (v := .int .i64 ((p : Nat) : Int)) (congrArg (fun z : Int => Value.int .i64 z) hp1)) (waI rfl (x_nil (e_B (e_S ?_)))))
           refine c_region (wmI rfl (wl (r_sub (c := ((p : Nat) : Int) - 1) rfl rfl om om) (waI rfl (x_nil (e_LS (p) om agA ?_)))))
           first
             | exact ⟨p, _, by omega, rfl, rfl, rfl, FG.yes hpl c119, hB, hb2, hb3, hb4, hoT, hoF, hRw, hbW, hoA, hzh⟩
             | exact ⟨p, q, by omega, rfl, rfl, rfl, FG.no hpl c119 (by rw [← hip]; exact hFG), hB, hb2, hb3, hb4, hoT, hoF, hRw, hbW, hoA, hzh⟩
          refine c_skip (e_B (e_S (c_region (wmI rfl (wl (r_sub (c := ((p : Nat) : Int) - 1) rfl rfl om om) ?_)))))
          refine waI rfl (x_nil (e_LS (p) om agA ?_))
          first
            | exact ⟨p, _, by omega, rfl, rfl, rfl, FG.yes hpl c119, hB, hb2, hb3, hb4, hoT, hoF, hRw, hbW, hoA, hzh⟩
            | exact ⟨p, q, by omega, rfl, rfl, rfl, FG.no hpl c119 (by rw [← hip]; exact hFG), hB, hb2, hb3, hb4, hoT, hoF, hRw, hbW, hoA, hzh⟩
         have hi0 : i = 0 := by omega
         rw [hi0] at hFG
         have hqf := hFG.fnd
         refine c_exit (e_Sx (e_LSx (e_Bx (e_S (c_seq ?_)))))
         refine c_seq (c_region (wmI rfl (wl (r_lss rfl rfl) (x_nil (e_S ?_)))))
         refine c_ifd rfl (fun c122 => ?_) (fun c122 => ?_)
         ·
          rw [hqf] at c122
          have hbad := stepL_no hok (hs1 c122)
          refine c_seq (c_region (wl (r_bd (vs := #[]) (cs := #[.slice none 0 0, .slice none 0 0]) (by simp) kR) (wmI rfl (wl (r_bd2 (v0 := .int _ _) (v1 := .int _ _) (fun v0 v1 => #[v0, v1]) rfl rfl kR) ?_))))
          refine wl_stW hb2 rfl rfl sz25 rfl oneA (fun w16 hq hs => ?_)
          replace hB := hB.tr1 hs lo2
          replace hb3 := hb3.tr1 hs om
          replace hb4 := hb4.tr1 hs om
          replace hbW := hbW.tr1 hs om
          replace hoT := hoT.tr1 hs (own_neC hoT hb2 dE)
          replace hoF := hoF.tr1 hs (own_neC hoF hb2 dE)
          replace hRw := hRw.tr hs (fun g hg => by rw [List.mem_singleton.1 hg]; exact .inr ⟨_, _, hb2, by decide⟩)
          replace hoA := hoA.tr1 hs (own_neC hoA hb2 dE)
          replace hzh := nLT hzh (Same.size hs)
          clear hs
          replace hb2 := hq
          refine wl_stW hb3 rfl rfl sz35_GLoose rfl oneA (fun w17 hq hs => ?_)
          replace hB := hB.tr1 hs lo3
          replace hb2 := hb2.tr1 hs om
          replace hb4 := hb4.tr1 hs om
          replace hbW := hbW.tr1 hs om
          replace hoT := hoT.tr1 hs (own_neC hoT hb3 dE)
          replace hoF := hoF.tr1 hs (own_neC hoF hb3 dE)
          replace hRw := hRw.tr hs (fun g hg => by rw [List.mem_singleton.1 hg]; exact .inr ⟨_, _, hb3, by decide⟩)
          replace hoA := hoA.tr1 hs (own_neC hoA hb3 dE)
          replace hzh := nLT hzh (Same.size hs)
          clear hs
          replace hb3 := hq
          refine x_nil (e_S (c_ret (e_Sr (e_Br (e_Sr ?_)))))
          refine e_LSr (e_Br (e_Sr (e_Br (e_Sr (e_LSr ?_)))))
          refine e_Br (e_Sr (fin2 (.inl rfl) rfl (rr_cell U25 rfl rfl hb2.range0 sz25) (rr_cell U35 rfl rfl hb3.range0 sz35_GLoose) ?_))
          exact ⟨⟨none, 0, none, 0, [], [], _, hR.trans (cont_bad hsp (sp_ne _ _) hbad), rfl, Nat.le_refl _, Nat.le_refl _, types_nil _ _, feats_nilH _ _⟩, hB⟩
         rw [hqf] at c122
         have hat2 := hs2' c122
         refine c_skip (e_S ?_)
         have or_hoA_bW := own_neC hoA hbW dE
         refine c_region (wmS rfl (wmI rfl ?_))
         refine wl_bs (cs := #[_]) [(0, .int _ _)] rfl U43 sz3_GLoose ze3_GUnr dE dE kR rfl (fun b128 w18 hb128 hs hr => ?_)
         have or_b2_b128 : b2 < b128 := nLL hb2.lt hr
         have or_b3_b128 : b3 < b128 := nLL hb3.lt hr
         have or_b4_b128 : b4 < b128 := nLL hb4.lt hr
         have or_bW_b128 : bW < b128 := nLL hbW.lt hr
         have or_hoT_b128 := (fun g hg => nLL (hoT.lt g hg).2 hr)
         have or_hoF_b128 := (fun g hg => nLL (hoF.lt g hg).2 hr)
         have or_hoA_b128 := (fun g hg => nLL (hoA.lt g hg).2 hr)
         have or_hzh_b128 := (nLT hzh hr)
         have lo128 := nLT (Bel.size hB) hr
         replace hB := hB.tr0 hs
         replace hb2 := hb2.tr0 hs
         replace hb3 := hb3.tr0 hs
         replace hb4 := hb4.tr0 hs
         replace hbW := hbW.tr0 hs
         replace hoT := hoT.tr0 hs
         replace hoF := hoF.tr0 hs
         replace hRw := hRw.tr hs (by simp)
         replace hoA := hoA.tr0 hs
         replace hzh := nLT hzh (Same.size hs)
         clear hs
         clear hr
         refine wl_app U43 in3 rfl dE hoA hb128 rfl rfl rfl oneA dE om om hzh (fun g129 cap129 w19 ho129 hs hg => ?_)
         have ne_ho129_b2 : g129 ≠ b2 := fun e => by
          have hl := hb2.lt
          rcases hg with hg | hg
          · have h1 := hoA.lt g129 (by rw [hg]; exact List.mem_singleton.2 rfl)
            (try have := or_hoA_b2 g129 (by rw [hg]; exact List.mem_singleton.2 rfl)); omega
          · omega
         have ne_ho129_b3 : g129 ≠ b3 := fun e => by
          have hl := hb3.lt
          rcases hg with hg | hg
          · have h1 := hoA.lt g129 (by rw [hg]; exact List.mem_singleton.2 rfl)
            (try have := or_hoA_b3 g129 (by rw [hg]; exact List.mem_singleton.2 rfl)); omega
          · omega
         have ne_ho129_b4 : g129 ≠ b4 := fun e => by
          have hl := hb4.lt
          rcases hg with hg | hg
          · have h1 := hoA.lt g129 (by rw [hg]; exact List.mem_singleton.2 rfl)
            (try have := or_hoA_b4 g129 (by rw [hg]; exact List.mem_singleton.2 rfl)); omega
          · omega
         have ne_ho129_bW : g129 ≠ bW := fun e => by
          have hl := hbW.lt
          rcases hg with hg | hg
          · have h1 := hoA.lt g129 (by rw [hg]; exact List.mem_singleton.2 rfl)
            (try have := or_hoA_bW g129 (by rw [hg]; exact List.mem_singleton.2 rfl)); omega
          · omega
         replace hB := hB.tr hs (fun g hg => nLT hwz (hoA.lt g hg).1)
         replace hb2 := hb2.tr hs (fun hx => by have := (hoA.lt _ hx).1; (try have := or_hoA_b2 _ hx); omega)
         replace hb3 := hb3.tr hs (fun hx => by have := (hoA.lt _ hx).1; (try have := or_hoA_b3 _ hx); omega)
         replace hb4 := hb4.tr hs (fun hx => by have := (hoA.lt _ hx).1; (try have := or_hoA_b4 _ hx); omega)
         replace hbW := hbW.tr hs (fun hx => by have := (hoA.lt _ hx).1; (try have := or_hoA_bW _ hx); omega)
         replace hoT := hoT.tr hs (own_ne hoT hoA dE)
         replace hoF := hoF.tr hs (own_ne hoF hoA dE)
         replace hRw := hRw.tr hs (fun g hg => by first | exact .inl (hoA.lt g hg).1 | (obtain ⟨cs, hc⟩ := (hoA).typ g hg; exact .inr ⟨cs, _, hc, by decide⟩))
         replace hzh := nLT hzh (Same.size hs)
         have hoA : Own w19 zlo 3 1 (some ⟨g129, 0, none⟩) (xs ++ [fnd lT (pc 32 (stk e r) (2 + j))]).length cap129 (iV (xs ++ [fnd lT (pc 32 (stk e r) (2 + j))])) := by
           have e1 : (xs ++ [fnd lT (pc 32 (stk e r) (2 + j))]).length = xs.length + 1 := by rw [List.length_append]; rfl
           have e2 : iV (xs ++ [fnd lT (pc 32 (stk e r) (2 + j))]) = iV xs ++ [.int .i64 (fnd lT (pc 32 (stk e r) (2 + j)))] := by simp [iV]
           rw [e1, e2, ← hqf]
           exact ho129
         refine waS rfl (x_nil (e_B (e_S (c_region (wl (r_add rfl rfl rfl om) ?_)))))
         refine wmI rfl (x_nil (e_LS ((sp 32 (stk e r)).length - 2 - (j + 1)) om agA ?_))
         exact ⟨j + 1, xs ++ [fnd lT (pc 32 (stk e r) (2 + j))], _, _, by omega, rfl, rfl, by rw [List.length_append]; rfl, by rw [List.length_append, hxj]; rfl, hat2, hB, hb2, hb3, hb4, hoT, hoF, hRw, hbW, hoA, hzh⟩
        have hjx : j = (sp 32 (stk e r)).length - 2 := by omega
        have hats : ats lT ((sp 32 (stk e r)).drop 2) = some xs := by
          rw [hjx, List.take_of_length_le (by rw [List.length_drop]; exact Nat.le_refl _)] at hat
          exact hat
        refine c_exit (e_Sx (e_LSx (e_Bx (e_S (c_seq ?_)))))
        obtain ⟨z2, hz2e⟩ : ∃ z, z = w14.heap.size := ⟨_, rfl⟩
        have hz2 : z2 ≤ w14.heap.size := Nat.le_of_eq hz2e
        have hpr : PrIn w.heap.size z2 w14 A10 xs := by rw [hz2e]; exact (own_pr hoA).low hwz
        replace hRw : RowT w.heap.size z2 w14 lT vs := hRw.up (by rw [hz2e]; exact hzh)
        refine c_region (wmS rfl (wl (r_ia (i := 0) U83 sz9_HFnd rfl rfl om rfl) (wl (r_ld1 (v := .string _) U9 rfl rfl (hbW.cell (hcu _ om))) (wl (r_eqlS rfl rfl) (x_nil ?_)))))
        refine e_S ?_
        refine c_ifd rfl (fun c134 => ?_) (fun c134 => ?_)
        ·
         have hst := stepL_ty hok hats c134
         have hR2 := hR.trans (cont_go hsp (sp_ne _ _) hst)
         have zo := fun g hg => (hoT.lt g hg).2
         have or_hoT_b2 := own_neC hoT hb2 dE
         have or_hoT_b3 := own_neC hoT hb3 dE
         have or_hoT_b4 := own_neC hoT hb4 dE
         have or_hoT_bW := own_neC hoT hbW dE
         refine c_monoSO 10 [135, 136, 137, 138, 139, 140, 141, 142, 143, 144] (aL AT) 8 (fun ix v wv => match ix with | 0 => v = .pointer (some ⟨b4, 0, none⟩) | 1 => v = .slice AT lT.length cT | 2 => v = .slice (some ⟨bW, 0, none⟩) (sp 32 (stk e r)).length cW | 3 => v = .pointer (some ⟨bW, 0 + 1 * 1, none⟩) | 4 => v = .string (pc 32 (stk e r) 1) | 5 => v = .slice A10 xs.length c10 | 6 => v = .agg #[.string (pc 32 (stk e r) 1), .slice A10 xs.length c10] | 7 => ∃ b, v = .slice (some ⟨b, 0, none⟩) 1 1 ∧ w14.heap.size ≤ b ∧ Blk wv b 77 #[.string (pc 32 (stk e r) 1), .slice A10 xs.length c10] | 8 => ∃ g cap, v = .slice (some ⟨g, 0, none⟩) (lT.length + 1) cap ∧ Own wv w.heap.size 77 2 (some ⟨g, 0, none⟩) (lT.length + 1) cap (vs ++ [.string (pc 32 (stk e r) 1), .slice A10 xs.length c10]) | 9 => v = .pointer (some ⟨b4, 0, none⟩) | _ => True) (fun _ => True) kR kR ?_ (fun _ _ _ _ => trivial) ?_ ?_ dE ?_
         ·
          intro ix v wv wv2 h hs
          match ix, h with
          | 0, h => exact h
          | 1, h => exact h
          | 2, h => exact h
          | 3, h => exact h
          | 4, h => exact h
          | 5, h => exact h
          | 6, h => exact h
          | 7, h =>
           obtain ⟨b142, e142, lo142, hb142⟩ := (show ∃ b, v = .slice (some ⟨b, 0, none⟩) 1 1 ∧ w14.heap.size ≤ b ∧ Blk wv b 77 #[.string (pc 32 (stk e r) 1), .slice A10 xs.length c10] from h)
           exact ⟨b142, e142, lo142, hb142.tr0 hs⟩
          | 8, h =>
           obtain ⟨g143, cap143, e143, ho143⟩ := (show ∃ g cap, v = .slice (some ⟨g, 0, none⟩) (lT.length + 1) cap ∧ Own wv w.heap.size 77 2 (some ⟨g, 0, none⟩) (lT.length + 1) cap (vs ++ [.string (pc 32 (stk e r) 1), .slice A10 xs.length c10]) from h)
           exact ⟨g143, cap143, e143, ho143.tr0 hs⟩
          | 9, h => exact h
          | _ + 10, h => exact trivial
         ·
          intro ix o hix hne hoq gg wx hs hd
          match ix, hix, hne, hoq with
          | 0, _, _, hoq =>
           obtain rfl := sI hoq
           have hs0 := hs
           replace hb4 := hb4.tr hs (fun hx => by have := (hoT.lt _ hx).1; (try have := or_hoT_b4 _ hx); omega)
           refine os_rv (r_fa U25 sz22_GLoose dE rfl rfl rfl) ⟨Same.refl _ _, ?_⟩
           exact rfl
          | 1, _, _, hoq =>
           obtain rfl := sI hoq
           have hs0 := hs
           replace hb4 := hb4.tr hs (fun hx => by have := (hoT.lt _ hx).1; (try have := or_hoT_b4 _ hx); omega)
           have d0 : gg 135 = .pointer (some ⟨b4, 0, none⟩) := hd 0 (dep_of kR)
           have e135 := d0
           refine os_know 135 (.pointer (some ⟨b4, 0, none⟩)) e135 nu ?_
           refine os_rv (r_ld1 (v := .slice _ _ _) U22 rfl rfl (hb4.cell rfl)) ⟨Same.refl _ _, ?_⟩
           exact rfl
          | 2, _, _, hoq =>
           obtain rfl := sI hoq
           have hs0 := hs
           refine os_rv (r_mv (v := .slice _ _ _) rfl) ⟨Same.refl _ _, ?_⟩
           exact rfl
          | 3, _, _, hoq =>
           obtain rfl := sI hoq
           have hs0 := hs
           have d2 : gg 137 = .slice (some ⟨bW, 0, none⟩) (sp 32 (stk e r)).length cW := hd 2 (dep_of kR)
           have e137 := d2
           refine os_know 137 (.slice (some ⟨bW, 0, none⟩) (sp 32 (stk e r)).length cW) e137 nu ?_
           refine os_rv (r_ia (i := 1) U83 sz9_HFnd rfl rfl om rfl) ⟨Same.refl _ _, ?_⟩
           exact rfl
          | 4, _, _, hoq =>
           obtain rfl := sI hoq
           have hs0 := hs
           replace hbW := hbW.tr hs (fun hx => by have := (hoT.lt _ hx).1; (try have := or_hoT_bW _ hx); omega)
           have d3 : gg 138 = .pointer (some ⟨bW, 0 + 1 * 1, none⟩) := hd 3 (dep_of kR)
           have e138 := d3
           refine os_know 138 (.pointer (some ⟨bW, 0 + 1 * 1, none⟩)) e138 nu ?_
           refine os_rv (r_ld1 (v := .string _) U9 rfl rfl (hbW.cell (hcu _ om))) ⟨Same.refl _ _, ?_⟩
           exact rfl
          | 5, _, _, hoq =>
           obtain rfl := sI hoq
           have hs0 := hs
           refine os_rv (r_mv (v := .slice _ _ _) rfl) ⟨Same.refl _ _, ?_⟩
           exact rfl
          | 6, _, _, hoq =>
           obtain rfl := sI hoq
           have hs0 := hs
           have d4 : gg 139 = .string (pc 32 (stk e r) 1) := hd 4 (dep_of kR)
           have e139 := d4
           have d5 : gg 140 = .slice A10 xs.length c10 := hd 5 (dep_of kR)
           have e140 := d5
           refine os_know 139 (.string (pc 32 (stk e r) 1)) e139 nu (os_know 140 (.slice A10 xs.length c10) e140 nu ?_)
           refine os_rv (r_bd2 (v0 := .string _) (v1 := .slice _ _ _) (fun v0 v1 => #[v0, v1]) rfl rfl kR) ⟨Same.refl _ _, ?_⟩
           exact rfl
          | 7, _, _, hoq =>
           obtain rfl := sI hoq
           have hs0 := hs
           have d6 : gg 141 = .agg #[.string (pc 32 (stk e r) 1), .slice A10 xs.length c10] := hd 6 (dep_of kR)
           have e141 := d6
           refine os_know 141 (.agg #[.string (pc 32 (stk e r) 1), .slice A10 xs.length c10]) e141 nu ?_
           refine os_wl (fun ops Q K => ?_)
           refine wl_bs (cs := #[_, _]) [(0, .agg _)] rfl U22 sz77_GLaw ze77_HRd dE dE kR rfl (fun b142 w20 hb142 hs hr => ?_)
           exact K _ _ ⟨hs, ⟨_, rfl, nLT hs0.size hr, hb142⟩⟩
          | 8, _, hne, _ => exact absurd rfl hne
          | 9, _, _, hoq =>
           obtain rfl := sI hoq
           have hs0 := hs
           replace hb4 := hb4.tr hs (fun hx => by have := (hoT.lt _ hx).1; (try have := or_hoT_b4 _ hx); omega)
           refine os_rv (r_fa U25 sz22_GLoose dE rfl rfl rfl) ⟨Same.refl _ _, ?_⟩
           exact rfl
          | _ + 10, hix, _, _ => exact absurd hix om
         ·
          intro o hoq gg wx hs hd
          obtain rfl := sI hoq
          have hs0 := hs
          replace hB := hB.tr0 hs
          replace hb2 := hb2.tr0 hs
          replace hb3 := hb3.tr0 hs
          replace hb4 := hb4.tr0 hs
          replace hbW := hbW.tr0 hs
          replace hoT := hoT.tr0 hs
          replace hoF := hoF.tr0 hs
          replace hRw := hRw.tr hs (by simp)
          replace hoA := hoA.tr0 hs
          replace hzh := nLT hzh (Same.size hs)
          replace hpr := hpr.tr hs (by simp)
          replace hz2 := nLT hz2 (Same.size hs)
          clear hs
          have d1 : gg 136 = .slice AT lT.length cT := hd 1 (dep_of kR)
          have e136 := d1
          have d7 : ∃ b, gg 142 = .slice (some ⟨b, 0, none⟩) 1 1 ∧ w14.heap.size ≤ b ∧ Blk wx b 77 #[.string (pc 32 (stk e r) 1), .slice A10 xs.length c10] := hd 7 (dep_of kR)
          obtain ⟨b142, e142, lo142, hb142⟩ := d7
          refine os_know 136 (.slice AT lT.length cT) e136 nu (os_know 142 (.slice (some ⟨b142, 0, none⟩) 1 1) e142 nu ?_)
          refine os_wl (fun ops Q K => ?_)
          refine wl_app U22 in77 rfl dE hoT hb142 rfl rfl rfl oneA dE om om (Bel.size hB) (fun g143 cap143 w2 ho143 hs2 hg143 => ?_)
          refine K _ _ ⟨hs2, ⟨_, _, rfl, ho143⟩, trivial, fun kx v hne h => ?_⟩
          match kx, hne, h with
          | 0, _, h => exact h
          | 1, _, h => exact h
          | 2, _, h => exact h
          | 3, _, h => exact h
          | 4, _, h => exact h
          | 5, _, h => exact h
          | 6, _, h => exact h
          | 7, _, h =>
           obtain ⟨b142, e142, lo142, hb142⟩ := (show ∃ b, v = .slice (some ⟨b, 0, none⟩) 1 1 ∧ w14.heap.size ≤ b ∧ Blk wx b 77 #[.string (pc 32 (stk e r) 1), .slice A10 xs.length c10] from h)
           exact ⟨b142, e142, lo142, hb142.tr hs2 (fun hx => by have := zo _ hx; omega)⟩
          | 8, hne, _ => exact absurd rfl hne
          | 9, _, h => exact h
          | _ + 10, _, _ => exact trivial
         intro gg w21 hs _ hR
         have hs0 := hs
         replace hB := hB.tr hs (fun g hg => nLT (Nat.le_refl _) (hoT.lt g hg).1)
         replace hb2 := hb2.tr hs (fun hx => by have := (hoT.lt _ hx).1; (try have := or_hoT_b2 _ hx); omega)
         replace hb3 := hb3.tr hs (fun hx => by have := (hoT.lt _ hx).1; (try have := or_hoT_b3 _ hx); omega)
         replace hb4 := hb4.tr hs (fun hx => by have := (hoT.lt _ hx).1; (try have := or_hoT_b4 _ hx); omega)
         replace hbW := hbW.tr hs (fun hx => by have := (hoT.lt _ hx).1; (try have := or_hoT_bW _ hx); omega)
         replace hoF := hoF.tr hs (own_ne hoF hoT dE)
         replace hRw := hRw.tr hs (fun g hg => by first | exact .inl (hoT.lt g hg).1 | (obtain ⟨cs, hc⟩ := (hoT).typ g hg; exact .inr ⟨cs, _, hc, by decide⟩))
         replace hoA := hoA.tr hs (own_ne hoA hoT dE)
         replace hzh := nLT hzh (Same.size hs)
         replace hpr := hpr.tr hs (fun g hg => by first | exact .inl (hoT.lt g hg).1 | (obtain ⟨cs, hc⟩ := (hoT).typ g hg; exact .inr ⟨cs, _, hc, by decide⟩))
         replace hz2 := nLT hz2 (Same.size hs)
         have d8 : ∃ g cap, gg 143 = .slice (some ⟨g, 0, none⟩) (lT.length + 1) cap ∧ Own w21 w.heap.size 77 2 (some ⟨g, 0, none⟩) (lT.length + 1) cap (vs ++ [.string (pc 32 (stk e r) 1), .slice A10 xs.length c10]) := hR 8 dE
         obtain ⟨g143, cap143, e143, ho143⟩ := d8
         have d9 : gg 144 = .pointer (some ⟨b4, 0, none⟩) := hR 9 dE
         have e144 := d9
         have e1 : (lT ++ [(⟨pc 32 (stk e r) 1, xs⟩ : Ty)]).length = lT.length + 1 := by rw [List.length_append]; rfl
         rw [← e1] at ho143
         have hoT := ho143
         replace hRw := hRw.snoc (s := pc 32 (stk e r) 1) (c := c10) hpr
         refine wl_know 143 (.slice (some ⟨g143, 0, none⟩) (lT.length + 1) cap143) e143 nu (wl_know 144 (.pointer (some ⟨b4, 0, none⟩)) e144 nu ?_)
         refine wl_st1 (v := .slice _ _ _) hb4 rfl rfl sz22_GLoose (by first | decide | simp) rfl rfl (fun w22 hq hs => ?_)
         replace hB := hB.tr1 hs lo4
         replace hb2 := hb2.tr1 hs om
         replace hb3 := hb3.tr1 hs om
         replace hbW := hbW.tr1 hs om
         replace hoF := hoF.tr1 hs (own_neC hoF hb4 dE)
         replace hRw := hRw.tr hs (fun g hg => by rw [List.mem_singleton.1 hg]; exact .inr ⟨_, _, hb4, by decide⟩)
         replace hoA := hoA.tr1 hs (own_neC hoA hb4 dE)
         replace hzh := nLT hzh (Same.size hs)
         replace hpr := hpr.tr hs (fun g hg => by rw [List.mem_singleton.1 hg]; exact .inr ⟨_, _, hb4, by decide⟩)
         replace hz2 := nLT hz2 (Same.size hs)
         replace hoT := hoT.tr1 hs (own_neC hoT hb4 dE)
         clear hs
         replace hb4 := hq
         refine x_nil (e_B (e_S (c_region (wmI rfl (wl (r_add rfl rfl rfl om) ?_)))))
         refine waI rfl (x_nil (e_LS ((sdr (e + 1) r).size) (by rw [sdr_size]; omega) agA ?_))
         first
           | exact ⟨k + 1, _, lT ++ [⟨pc 32 (stk e r) 1, xs⟩], lF, _, _, _, _, _, rfl, rfl, rfl, by rw [sdr_size]; omega, by rw [List.length_append]; exact Nat.succ_le_succ hlT, by omega, hR2, hB, hb2, hb3, (by rw [e1]; exact hb4), hoT, hoF, hRw.up hz2⟩
           | exact ⟨k + 1, _, lT, lF ++ [⟨pc 32 (stk e r) 1, xs.getD 0 0, xs.getD 1 0⟩], _, _, _, _, _, rfl, rfl, rfl, by rw [sdr_size]; omega, by omega, by rw [List.length_append]; exact Nat.succ_le_succ hlF, hR2, hB, hb2, hb3, (by rw [e1]; exact hb4), hoT, hoF, hRw.up hz2⟩
        have hst := stepL_ft hok hats c134
        have hR2 := hR.trans (cont_go hsp (sp_ne _ _) hst)
        have hx2 : xs.length = 2 := by rw [ats_len hats, List.length_drop, okB_four hok c134]
        obtain ⟨gA, rfl⟩ := own_adI hoA om
        have zo := fun g hg => (hoF.lt g hg).2
        have or_hoF_b2 := own_neC hoF hb2 dE
        have or_hoF_b3 := own_neC hoF hb3 dE
        have or_hoF_b4 := own_neC hoF hb4 dE
        have or_hoF_bW := own_neC hoF hbW dE
        refine c_monoSO 15 [145, 146, 147, 148, 149, 150, 151, 152, 153, 154, 155, 156, 157, 158, 159] (aL AF) 13 (fun ix v wv => match ix with | 0 => v = .pointer (some ⟨b4, 1, none⟩) | 1 => v = .slice AF lF.length cF | 2 => v = .slice (some ⟨bW, 0, none⟩) (sp 32 (stk e r)).length cW | 3 => v = .pointer (some ⟨bW, 0 + 1 * 1, none⟩) | 4 => v = .string (pc 32 (stk e r) 1) | 5 => v = .slice (some ⟨gA, 0, none⟩) xs.length c10 | 6 => v = .pointer (some ⟨gA, 0 + 0 * 1, none⟩) | 7 => v = .int .i64 (xs.getD 0 0) | 8 => v = .slice (some ⟨gA, 0, none⟩) xs.length c10 | 9 => v = .pointer (some ⟨gA, 0 + 1 * 1, none⟩) | 10 => v = .int .i64 (xs.getD 1 0) | 11 => v = .agg #[.string (pc 32 (stk e r) 1), .int .i64 (xs.getD 0 0), .int .i64 (xs.getD 1 0)] | 12 => ∃ b, v = .slice (some ⟨b, 0, none⟩) 1 1 ∧ w14.heap.size ≤ b ∧ Blk wv b 63 #[.string (pc 32 (stk e r) 1), .int .i64 (xs.getD 0 0), .int .i64 (xs.getD 1 0)] | 13 => ∃ g cap, v = .slice (some ⟨g, 0, none⟩) (lF.length + 1) cap ∧ Own wv w.heap.size 63 3 (some ⟨g, 0, none⟩) (lF.length + 1) cap (ftV lF ++ [.string (pc 32 (stk e r) 1), .int .i64 (xs.getD 0 0), .int .i64 (xs.getD 1 0)]) | 14 => v = .pointer (some ⟨b4, 1, none⟩) | _ => True) (fun _ => True) kR kR ?_ (fun _ _ _ _ => trivial) ?_ ?_ dE ?_
        ·
         intro ix v wv wv2 h hs
         match ix, h with
         | 0, h => exact h
         | 1, h => exact h
         | 2, h => exact h
         | 3, h => exact h
         | 4, h => exact h
         | 5, h => exact h
         | 6, h => exact h
         | 7, h => exact h
         | 8, h => exact h
         | 9, h => exact h
         | 10, h => exact h
         | 11, h => exact h
         | 12, h =>
          obtain ⟨b157, e157, lo157, hb157⟩ := (show ∃ b, v = .slice (some ⟨b, 0, none⟩) 1 1 ∧ w14.heap.size ≤ b ∧ Blk wv b 63 #[.string (pc 32 (stk e r) 1), .int .i64 (xs.getD 0 0), .int .i64 (xs.getD 1 0)] from h)
          exact ⟨b157, e157, lo157, hb157.tr0 hs⟩
         | 13, h =>
          obtain ⟨g158, cap158, e158, ho158⟩ := (show ∃ g cap, v = .slice (some ⟨g, 0, none⟩) (lF.length + 1) cap ∧ Own wv w.heap.size 63 3 (some ⟨g, 0, none⟩) (lF.length + 1) cap (ftV lF ++ [.string (pc 32 (stk e r) 1), .int .i64 (xs.getD 0 0), .int .i64 (xs.getD 1 0)]) from h)
          exact ⟨g158, cap158, e158, ho158.tr0 hs⟩
         | 14, h => exact h
         | _ + 15, h => exact trivial
        ·
         intro ix o hix hne hoq gg wx hs hd
         match ix, hix, hne, hoq with
         | 0, _, _, hoq =>
          obtain rfl := sI hoq
          have hs0 := hs
          replace hb4 := hb4.tr hs (fun hx => by have := (hoF.lt _ hx).1; (try have := or_hoF_b4 _ hx); omega)
          refine os_rv (r_fa U25 sz23_GLoose dE rfl rfl rfl) ⟨Same.refl _ _, ?_⟩
          exact rfl
         | 1, _, _, hoq =>
          obtain rfl := sI hoq
          have hs0 := hs
          replace hb4 := hb4.tr hs (fun hx => by have := (hoF.lt _ hx).1; (try have := or_hoF_b4 _ hx); omega)
          have d0 : gg 145 = .pointer (some ⟨b4, 1, none⟩) := hd 0 (dep_of kR)
          have e145 := d0
          refine os_know 145 (.pointer (some ⟨b4, 1, none⟩)) e145 nu ?_
          refine os_rv (r_ld1 (v := .slice _ _ _) U23 rfl rfl (hb4.cell rfl)) ⟨Same.refl _ _, ?_⟩
          exact rfl
         | 2, _, _, hoq =>
          obtain rfl := sI hoq
          have hs0 := hs
          refine os_rv (r_mv (v := .slice _ _ _) rfl) ⟨Same.refl _ _, ?_⟩
          exact rfl
         | 3, _, _, hoq =>
          obtain rfl := sI hoq
          have hs0 := hs
          have d2 : gg 147 = .slice (some ⟨bW, 0, none⟩) (sp 32 (stk e r)).length cW := hd 2 (dep_of kR)
          have e147 := d2
          refine os_know 147 (.slice (some ⟨bW, 0, none⟩) (sp 32 (stk e r)).length cW) e147 nu ?_
          refine os_rv (r_ia (i := 1) U83 sz9_HFnd rfl rfl om rfl) ⟨Same.refl _ _, ?_⟩
          exact rfl
         | 4, _, _, hoq =>
          obtain rfl := sI hoq
          have hs0 := hs
          replace hbW := hbW.tr hs (fun hx => by have := (hoF.lt _ hx).1; (try have := or_hoF_bW _ hx); omega)
          have d3 : gg 148 = .pointer (some ⟨bW, 0 + 1 * 1, none⟩) := hd 3 (dep_of kR)
          have e148 := d3
          refine os_know 148 (.pointer (some ⟨bW, 0 + 1 * 1, none⟩)) e148 nu ?_
          refine os_rv (r_ld1 (v := .string _) U9 rfl rfl (hbW.cell (hcu _ om))) ⟨Same.refl _ _, ?_⟩
          exact rfl
         | 5, _, _, hoq =>
          obtain rfl := sI hoq
          have hs0 := hs
          refine os_rv (r_mv (v := .slice _ _ _) rfl) ⟨Same.refl _ _, ?_⟩
          exact rfl
         | 6, _, _, hoq =>
          obtain rfl := sI hoq
          have hs0 := hs
          have d5 : gg 150 = .slice (some ⟨gA, 0, none⟩) xs.length c10 := hd 5 (dep_of kR)
          have e150 := d5
          refine os_know 150 (.slice (some ⟨gA, 0, none⟩) xs.length c10) e150 nu ?_
          refine os_rv (r_ia (i := 0) U43 sz3_GLoose rfl rfl om rfl) ⟨Same.refl _ _, ?_⟩
          exact rfl
         | 7, _, _, hoq =>
          obtain rfl := sI hoq
          have hs0 := hs
          replace hoA := hoA.tr hs (own_ne hoA hoF dE)
          have d6 : gg 151 = .pointer (some ⟨gA, 0 + 0 * 1, none⟩) := hd 6 (dep_of kR)
          have e151 := d6
          refine os_know 151 (.pointer (some ⟨gA, 0 + 0 * 1, none⟩)) e151 nu ?_
          refine os_rv (r_ld1 (v := .int _ _) U3 rfl rfl (own_cellI hoA om)) ⟨Same.refl _ _, ?_⟩
          exact rfl
         | 8, _, _, hoq =>
          obtain rfl := sI hoq
          have hs0 := hs
          refine os_rv (r_mv (v := .slice _ _ _) rfl) ⟨Same.refl _ _, ?_⟩
          exact rfl
         | 9, _, _, hoq =>
          obtain rfl := sI hoq
          have hs0 := hs
          have d8 : gg 153 = .slice (some ⟨gA, 0, none⟩) xs.length c10 := hd 8 (dep_of kR)
          have e153 := d8
          refine os_know 153 (.slice (some ⟨gA, 0, none⟩) xs.length c10) e153 nu ?_
          refine os_rv (r_ia (i := 1) U43 sz3_GLoose rfl rfl om rfl) ⟨Same.refl _ _, ?_⟩
          exact rfl
         | 10, _, _, hoq =>
          obtain rfl := sI hoq
          have hs0 := hs
          replace hoA := hoA.tr hs (own_ne hoA hoF dE)
          have d9 : gg 154 = .pointer (some ⟨gA, 0 + 1 * 1, none⟩) := hd 9 (dep_of kR)
          have e154 := d9
          refine os_know 154 (.pointer (some ⟨gA, 0 + 1 * 1, none⟩)) e154 nu ?_
          refine os_rv (r_ld1 (v := .int _ _) U3 rfl rfl (own_cellI hoA om)) ⟨Same.refl _ _, ?_⟩
          exact rfl
         | 11, _, _, hoq =>
          obtain rfl := sI hoq
          have hs0 := hs
          have d4 : gg 149 = .string (pc 32 (stk e r) 1) := hd 4 (dep_of kR)
          have e149 := d4
          have d7 : gg 152 = .int .i64 (xs.getD 0 0) := hd 7 (dep_of kR)
          have e152 := d7
          have d10 : gg 155 = .int .i64 (xs.getD 1 0) := hd 10 (dep_of kR)
          have e155 := d10
          refine os_know 149 (.string (pc 32 (stk e r) 1)) e149 nu (os_know 152 (.int .i64 (xs.getD 0 0)) e152 nu (os_know 155 (.int .i64 (xs.getD 1 0)) e155 nu ?_))
          refine os_rv (r_bd3 (v0 := .string _) (v1 := .int _ _) (v2 := .int _ _) (fun v0 v1 v2 => #[v0, v1, v2]) rfl rfl rfl kR) ⟨Same.refl _ _, ?_⟩
          exact rfl
         | 12, _, _, hoq =>
          obtain rfl := sI hoq
          have hs0 := hs
          have d11 : gg 156 = .agg #[.string (pc 32 (stk e r) 1), .int .i64 (xs.getD 0 0), .int .i64 (xs.getD 1 0)] := hd 11 (dep_of kR)
          have e156 := d11
          refine os_know 156 (.agg #[.string (pc 32 (stk e r) 1), .int .i64 (xs.getD 0 0), .int .i64 (xs.getD 1 0)]) e156 nu ?_
          refine os_wl (fun ops Q K => ?_)
          refine wl_bs (cs := #[_, _, _]) [(0, .agg _)] rfl U23 sz63_GVal ze63_GVal dE dE kR rfl (fun b157 w23 hb157 hs hr => ?_)
          exact K _ _ ⟨hs, ⟨_, rfl, nLT hs0.size hr, hb157⟩⟩
         | 13, _, hne, _ => exact absurd rfl hne
         | 14, _, _, hoq =>
          obtain rfl := sI hoq
          have hs0 := hs
          replace hb4 := hb4.tr hs (fun hx => by have := (hoF.lt _ hx).1; (try have := or_hoF_b4 _ hx); omega)
          refine os_rv (r_fa U25 sz23_GLoose dE rfl rfl rfl) ⟨Same.refl _ _, ?_⟩
          exact rfl
         | _ + 15, hix, _, _ => exact absurd hix om
        ·
         intro o hoq gg wx hs hd
         obtain rfl := sI hoq
         have hs0 := hs
         replace hB := hB.tr0 hs
         replace hb2 := hb2.tr0 hs
         replace hb3 := hb3.tr0 hs
         replace hb4 := hb4.tr0 hs
         replace hbW := hbW.tr0 hs
         replace hoT := hoT.tr0 hs
         replace hoF := hoF.tr0 hs
         replace hRw := hRw.tr hs (by simp)
         replace hoA := hoA.tr0 hs
         replace hzh := nLT hzh (Same.size hs)
         replace hpr := hpr.tr hs (by simp)
         replace hz2 := nLT hz2 (Same.size hs)
         clear hs
         have d1 : gg 146 = .slice AF lF.length cF := hd 1 (dep_of kR)
         have e146 := d1
         have d12 : ∃ b, gg 157 = .slice (some ⟨b, 0, none⟩) 1 1 ∧ w14.heap.size ≤ b ∧ Blk wx b 63 #[.string (pc 32 (stk e r) 1), .int .i64 (xs.getD 0 0), .int .i64 (xs.getD 1 0)] := hd 12 (dep_of kR)
         obtain ⟨b157, e157, lo157, hb157⟩ := d12
         refine os_know 146 (.slice AF lF.length cF) e146 nu (os_know 157 (.slice (some ⟨b157, 0, none⟩) 1 1) e157 nu ?_)
         refine os_wl (fun ops Q K => ?_)
         refine wl_app U23 in63 rfl dE hoF hb157 rfl rfl rfl oneA dE om om (Bel.size hB) (fun g158 cap158 w2 ho158 hs2 hg158 => ?_)
         refine K _ _ ⟨hs2, ⟨_, _, rfl, ho158⟩, trivial, fun kx v hne h => ?_⟩
         match kx, hne, h with
         | 0, _, h => exact h
         | 1, _, h => exact h
         | 2, _, h => exact h
         | 3, _, h => exact h
         | 4, _, h => exact h
         | 5, _, h => exact h
         | 6, _, h => exact h
         | 7, _, h => exact h
         | 8, _, h => exact h
         | 9, _, h => exact h
         | 10, _, h => exact h
         | 11, _, h => exact h
         | 12, _, h =>
          obtain ⟨b157, e157, lo157, hb157⟩ := (show ∃ b, v = .slice (some ⟨b, 0, none⟩) 1 1 ∧ w14.heap.size ≤ b ∧ Blk wx b 63 #[.string (pc 32 (stk e r) 1), .int .i64 (xs.getD 0 0), .int .i64 (xs.getD 1 0)] from h)
          exact ⟨b157, e157, lo157, hb157.tr hs2 (fun hx => by have := zo _ hx; omega)⟩
         | 13, hne, _ => exact absurd rfl hne
         | 14, _, h => exact h
         | _ + 15, _, _ => exact trivial
        intro gg w24 hs _ hR
        have hs0 := hs
        replace hB := hB.tr hs (fun g hg => nLT (Nat.le_refl _) (hoF.lt g hg).1)
        replace hb2 := hb2.tr hs (fun hx => by have := (hoF.lt _ hx).1; (try have := or_hoF_b2 _ hx); omega)
        replace hb3 := hb3.tr hs (fun hx => by have := (hoF.lt _ hx).1; (try have := or_hoF_b3 _ hx); omega)
        replace hb4 := hb4.tr hs (fun hx => by have := (hoF.lt _ hx).1; (try have := or_hoF_b4 _ hx); omega)
        replace hbW := hbW.tr hs (fun hx => by have := (hoF.lt _ hx).1; (try have := or_hoF_bW _ hx); omega)
        replace hoT := hoT.tr hs (own_ne hoT hoF dE)
        replace hRw := hRw.tr hs (fun g hg => by first | exact .inl (hoF.lt g hg).1 | (obtain ⟨cs, hc⟩ := (hoF).typ g hg; exact .inr ⟨cs, _, hc, by decide⟩))
        replace hoA := hoA.tr hs (own_ne hoA hoF dE)
        replace hzh := nLT hzh (Same.size hs)
        replace hpr := hpr.tr hs (fun g hg => by first | exact .inl (hoF.lt g hg).1 | (obtain ⟨cs, hc⟩ := (hoF).typ g hg; exact .inr ⟨cs, _, hc, by decide⟩))
        replace hz2 := nLT hz2 (Same.size hs)
        have d13 : ∃ g cap, gg 158 = .slice (some ⟨g, 0, none⟩) (lF.length + 1) cap ∧ Own w24 w.heap.size 63 3 (some ⟨g, 0, none⟩) (lF.length + 1) cap (ftV lF ++ [.string (pc 32 (stk e r) 1), .int .i64 (xs.getD 0 0), .int .i64 (xs.getD 1 0)]) := hR 13 dE
        obtain ⟨g158, cap158, e158, ho158⟩ := d13
        have d14 : gg 159 = .pointer (some ⟨b4, 1, none⟩) := hR 14 dE
        have e159 := d14
        have e1 : (lF ++ [(⟨pc 32 (stk e r) 1, xs.getD 0 0, xs.getD 1 0⟩ : Ft)]).length = lF.length + 1 := by rw [List.length_append]; rfl
        rw [← e1] at ho158
        have e3 := ftV_snoc lF ⟨pc 32 (stk e r) 1, xs.getD 0 0, xs.getD 1 0⟩
        simp only at e3
        rw [← e3] at ho158
        have hoF := ho158
        refine wl_know 158 (.slice (some ⟨g158, 0, none⟩) (lF.length + 1) cap158) e158 nu (wl_know 159 (.pointer (some ⟨b4, 1, none⟩)) e159 nu ?_)
        refine wl_st1 (v := .slice _ _ _) hb4 rfl rfl sz23_GLoose (by first | decide | simp) rfl rfl (fun w25 hq hs => ?_)
        replace hB := hB.tr1 hs lo4
        replace hb2 := hb2.tr1 hs om
        replace hb3 := hb3.tr1 hs om
        replace hbW := hbW.tr1 hs om
        replace hoT := hoT.tr1 hs (own_neC hoT hb4 dE)
        replace hRw := hRw.tr hs (fun g hg => by rw [List.mem_singleton.1 hg]; exact .inr ⟨_, _, hb4, by decide⟩)
        replace hoA := hoA.tr1 hs (own_neC hoA hb4 dE)
        replace hzh := nLT hzh (Same.size hs)
        replace hpr := hpr.tr hs (fun g hg => by rw [List.mem_singleton.1 hg]; exact .inr ⟨_, _, hb4, by decide⟩)
        replace hz2 := nLT hz2 (Same.size hs)
        replace hoF := hoF.tr1 hs (own_neC hoF hb4 dE)
        clear hs
        replace hb4 := hq
        refine x_nil (e_B (e_S (c_region (wmI rfl (wl (r_add rfl rfl rfl om) ?_)))))
        refine waI rfl (x_nil (e_LS ((sdr (e + 1) r).size) (by rw [sdr_size]; omega) agA ?_))
        first
          | exact ⟨k + 1, _, lT ++ [⟨pc 32 (stk e r) 1, xs⟩], lF, _, _, _, _, _, rfl, rfl, rfl, by rw [sdr_size]; omega, by rw [List.length_append]; exact Nat.succ_le_succ hlT, by omega, hR2, hB, hb2, hb3, (by rw [e1]; exact hb4), hoT, hoF, hRw.up hz2⟩
          | exact ⟨k + 1, _, lT, lF ++ [⟨pc 32 (stk e r) 1, xs.getD 0 0, xs.getD 1 0⟩], _, _, _, _, _, rfl, rfl, rfl, by rw [sdr_size]; omega, by omega, by rw [List.length_append]; exact Nat.succ_le_succ hlF, hR2, hB, hb2, hb3, (by rw [e1]; exact hb4), hoT, hoF, hRw.up hz2⟩
   refine wlgn 31 rfl rfl rfl (wlgn 31 rfl rfl rfl (wlgn 31 rfl rfl rfl (wlgn 31 rfl rfl rfl (wl (r_pf (v := .bool _) rfl rfl) (x_nil ?_)))))
   refine e_S (c_no rfl (c_exit (e_Sx (e_LSx (e_Bx ?_)))))
   refine e_S (c_seq (c_seq (c_region (wmI rfl (wl (r_mv (v := .string _) rfl) ?_)))))
   refine wl (r_lenS U9 rfl) (wl (r_eql rfl rfl) (x_nil (e_S ?_)))
   refine c_ifd rfl (fun c42 => ?_) (fun c42 => ?_)
   ·
    have hee : e = r.size := by omega
    have hop := hR.trans (cont_openL hr0 (by rw [hee, ← bl_size, List.take_length] at hno; exact hno))
    refine c_seq (c_region (wl (r_bd (vs := #[]) (cs := #[.slice none 0 0, .slice none 0 0]) (by simp) kR) (wmI rfl (wl (r_bd2 (v0 := .int _ _) (v1 := .int _ _) (fun v0 v1 => #[v0, v1]) rfl rfl kR) ?_))))
    refine wl_stW hb2 rfl rfl sz25 rfl oneA (fun w26 hq hs => ?_)
    replace hB := hB.tr1 hs lo2
    replace hb3 := hb3.tr1 hs om
    replace hb4 := hb4.tr1 hs om
    replace hoT := hoT.tr1 hs (own_neC hoT hb2 dE)
    replace hoF := hoF.tr1 hs (own_neC hoF hb2 dE)
    replace hRw := hRw.tr hs (fun g hg => by rw [List.mem_singleton.1 hg]; exact .inr ⟨_, _, hb2, by decide⟩)
    replace hzh := nLT hzh (Same.size hs)
    clear hs
    replace hb2 := hq
    refine wl_stW hb3 rfl rfl sz35_GLoose rfl oneA (fun w27 hq hs => ?_)
    replace hB := hB.tr1 hs lo3
    replace hb2 := hb2.tr1 hs om
    replace hb4 := hb4.tr1 hs om
    replace hoT := hoT.tr1 hs (own_neC hoT hb3 dE)
    replace hoF := hoF.tr1 hs (own_neC hoF hb3 dE)
    replace hRw := hRw.tr hs (fun g hg => by rw [List.mem_singleton.1 hg]; exact .inr ⟨_, _, hb3, by decide⟩)
    replace hzh := nLT hzh (Same.size hs)
    clear hs
    replace hb3 := hq
    refine x_nil (e_S (c_ret (e_Sr (e_Br (e_Sr ?_)))))
    refine e_LSr (e_Br (e_Sr (fin2 (.inl rfl) rfl (rr_cell U25 rfl rfl hb2.range0 sz25) (rr_cell U35 rfl rfl hb3.range0 sz35_GLoose) ?_)))
    exact ⟨⟨none, 0, none, 0, [], [], _, hop, rfl, Nat.le_refl _, Nat.le_refl _, types_nil _ _, feats_nilH _ _⟩, hB⟩
   exact absurd hno om
  have hRe := hR.trans (cont_end om)
  refine c_exit (e_Sx (e_LSx (e_Bx (e_S (c_seq ?_)))))
  refine c_seq (c_region (wl (r_ldS U25 rfl rfl hb4.range0 sz25) ?_))
  refine wl_cl fn27 (hierFault_any AT AF cT cF lT lF _ hoT.cap_le hoF.cap_le (types_own hoT hRw rfl) (feats_own hoF rfl)) rfl (fun e' w28 hr => ?_)
  obtain ⟨rfl, hs⟩ := hr
  replace hs := Same.of_bel hs
  replace hB := hB.tr0 hs
  replace hb2 := hb2.tr0 hs
  replace hb3 := hb3.tr0 hs
  replace hb4 := hb4.tr0 hs
  replace hoT := hoT.tr0 hs
  replace hoF := hoF.tr0 hs
  replace hRw := hRw.tr hs (by simp)
  replace hzh := nLT hzh (Same.size hs)
  clear hs
  refine ⟨_, rfl, ?_⟩
  refine wl_al (cs := #[.int .i64 0, .int .i64 0]) ze35_GLoose rfl (fun b16 w29 hb16 hs hr => ?_)
  have or_b2_b16 : b2 < b16 := nLL hb2.lt hr
  have or_b3_b16 : b3 < b16 := nLL hb3.lt hr
  have or_b4_b16 : b4 < b16 := nLL hb4.lt hr
  have or_hoT_b16 := (fun g hg => nLL (hoT.lt g hg).2 hr)
  have or_hoF_b16 := (fun g hg => nLL (hoF.lt g hg).2 hr)
  have or_hzh_b16 := (nLT hzh hr)
  have lo16 := nLT (Bel.size hB) hr
  replace hB := hB.tr0 hs
  replace hb2 := hb2.tr0 hs
  replace hb3 := hb3.tr0 hs
  replace hb4 := hb4.tr0 hs
  replace hoT := hoT.tr0 hs
  replace hoF := hoF.tr0 hs
  replace hRw := hRw.tr hs (by simp)
  replace hzh := nLT hzh (Same.size hs)
  clear hs
  clear hr
  refine wl_stW hb16 rfl rfl sz35_GLoose rfl oneA (fun w30 hq hs => ?_)
  replace hB := hB.tr1 hs lo16
  replace hb2 := hb2.tr1 hs om
  replace hb3 := hb3.tr1 hs om
  replace hb4 := hb4.tr1 hs om
  replace hoT := hoT.tr1 hs (own_neC hoT hb16 dE)
  replace hoF := hoF.tr1 hs (own_neC hoF hb16 dE)
  replace hRw := hRw.tr hs (fun g hg => by rw [List.mem_singleton.1 hg]; exact .inr ⟨_, _, hb16, by decide⟩)
  replace hzh := nLT hzh (Same.size hs)
  clear hs
  replace hb16 := hq
  refine x_nil (e_S (c_seq (c_region (wl (r_fa U35 sz3_GLoose dE rfl rfl rfl) (wl (r_ld1 (v := .int _ _) U3 rfl rfl (hb16.cell rfl)) ?_)))))
  refine wl (r_neq rfl rfl) (x_nil (e_S ?_))
  refine c_ifd rfl (fun c164 => ?_) (fun c164 => ?_)
  ·
   refine c_seq ?_
   refine c_all #[false, false, false, false] kR (by rfl) (fun w31 hs => ?_)
   replace hB := hB.tr0 hs
   replace hb2 := hb2.tr0 hs
   replace hb3 := hb3.tr0 hs
   replace hb4 := hb4.tr0 hs
   replace hoT := hoT.tr0 hs
   replace hoF := hoF.tr0 hs
   replace hRw := hRw.tr hs (by simp)
   replace hzh := nLT hzh (Same.size hs)
   replace hb16 := hb16.tr0 hs
   clear hs
   refine a_step [0, 1] kR rfl ⟨fun o hoq => ?_, fun o hoq => ?_, trivial⟩
   ·
    obtain rfl := sI hoq
    refine wl (r_bd (vs := #[]) (cs := #[.slice none 0 0, .slice none 0 0]) (by simp) kR) (x_nil (e_A (listed' := #[true, false, false, false]) (by rfl) ?_))
    refine a_step [1, 2] kR rfl ⟨fun o hoq => ?_, fun o hoq => ?_, trivial⟩
    ·
     obtain rfl := sI hoq
     refine wl (r_ldS U35 rfl rfl hb16.range0 sz35_GLoose) (x_nil (e_A (listed' := #[true, true, false, false]) (by rfl) ?_))
     refine a_step [2] kR rfl ⟨fun o hoq => ?_, trivial⟩
     obtain rfl := sI hoq
     refine wl_stW hb2 rfl rfl sz25 rfl oneA (fun w32 hq hs => ?_)
     replace hB := hB.tr1 hs lo2
     replace hb3 := hb3.tr1 hs om
     replace hb4 := hb4.tr1 hs om
     replace hoT := hoT.tr1 hs (own_neC hoT hb2 dE)
     replace hoF := hoF.tr1 hs (own_neC hoF hb2 dE)
     replace hRw := hRw.tr hs (fun g hg => by rw [List.mem_singleton.1 hg]; exact .inr ⟨_, _, hb2, by decide⟩)
     replace hzh := nLT hzh (Same.size hs)
     replace hb16 := hb16.tr1 hs om
     clear hs
     replace hb2 := hq
     refine x_nil (e_A (listed' := #[true, true, true, false]) (by rfl) ?_)
     refine a_step [3] kR rfl ⟨fun o hoq => ?_, trivial⟩
     obtain rfl := sI hoq
     refine wl_stW hb3 rfl rfl sz35_GLoose rfl oneA (fun w33 hq hs => ?_)
     replace hB := hB.tr1 hs lo3
     replace hb2 := hb2.tr1 hs om
     replace hb4 := hb4.tr1 hs om
     replace hoT := hoT.tr1 hs (own_neC hoT hb3 dE)
     replace hoF := hoF.tr1 hs (own_neC hoF hb3 dE)
     replace hRw := hRw.tr hs (fun g hg => by rw [List.mem_singleton.1 hg]; exact .inr ⟨_, _, hb3, by decide⟩)
     replace hzh := nLT hzh (Same.size hs)
     replace hb16 := hb16.tr1 hs om
     clear hs
     replace hb3 := hq
     refine x_nil (e_A (listed' := #[true, true, true, true]) (by rfl) (a_end kR (e_S (c_ret (e_Sr ?_)))))
     refine fin2 (.inl rfl) rfl (rr_cell U25 rfl rfl hb2.range0 sz25) (rr_cell U35 rfl rfl hb3.range0 sz35_GLoose) ?_
     exact ⟨⟨none, 0, none, 0, [], [], _, hRe.trans (fin_no c164), rfl, Nat.le_refl _, Nat.le_refl _, types_nil _ _, feats_nilH _ _⟩, hB⟩
    obtain rfl := sI hoq
    refine wl_stW hb2 rfl rfl sz25 rfl oneA (fun w34 hq hs => ?_)
    replace hB := hB.tr1 hs lo2
    replace hb3 := hb3.tr1 hs om
    replace hb4 := hb4.tr1 hs om
    replace hoT := hoT.tr1 hs (own_neC hoT hb2 dE)
    replace hoF := hoF.tr1 hs (own_neC hoF hb2 dE)
    replace hRw := hRw.tr hs (fun g hg => by rw [List.mem_singleton.1 hg]; exact .inr ⟨_, _, hb2, by decide⟩)
    replace hzh := nLT hzh (Same.size hs)
    replace hb16 := hb16.tr1 hs om
    clear hs
    replace hb2 := hq
    refine x_nil (e_A (listed' := #[true, false, true, false]) (by rfl) ?_)
    refine a_step [1] kR rfl ⟨fun o hoq => ?_, trivial⟩
    obtain rfl := sI hoq
    refine wl (r_ldS U35 rfl rfl hb16.range0 sz35_GLoose) (x_nil (e_A (listed' := #[true, true, true, false]) (by rfl) ?_))
    refine a_step [3] kR rfl ⟨fun o hoq => ?_, trivial⟩
    obtain rfl := sI hoq
    refine wl_stW hb3 rfl rfl sz35_GLoose rfl oneA (fun w35 hq hs => ?_)
    replace hB := hB.tr1 hs lo3
    replace hb2 := hb2.tr1 hs om
    replace hb4 := hb4.tr1 hs om
    replace hoT := hoT.tr1 hs (own_neC hoT hb3 dE)
    replace hoF := hoF.tr1 hs (own_neC hoF hb3 dE)
    replace hRw := hRw.tr hs (fun g hg => by rw [List.mem_singleton.1 hg]; exact .inr ⟨_, _, hb3, by decide⟩)
    replace hzh := nLT hzh (Same.size hs)
    replace hb16 := hb16.tr1 hs om
    clear hs
    replace hb3 := hq
    refine x_nil (e_A (listed' := #[true, true, true, true]) (by rfl) (a_end kR (e_S (c_ret (e_Sr ?_)))))
    refine fin2 (.inl rfl) rfl (rr_cell U25 rfl rfl hb2.range0 sz25) (rr_cell U35 rfl rfl hb3.range0 sz35_GLoose) ?_
    exact ⟨⟨none, 0, none, 0, [], [], _, hRe.trans (fin_no c164), rfl, Nat.le_refl _, Nat.le_refl _, types_nil _ _, feats_nilH _ _⟩, hB⟩
   obtain rfl := sI hoq
   refine wl (r_ldS U35 rfl rfl hb16.range0 sz35_GLoose) (x_nil (e_A (listed' := #[false, true, false, false]) (by rfl) ?_))
   refine a_step [0] kR rfl ⟨fun o hoq => ?_, trivial⟩
   obtain rfl := sI hoq
   refine wl (r_bd (vs := #[]) (cs := #[.slice none 0 0, .slice none 0 0]) (by simp) kR) (x_nil (e_A (listed' := #[true, true, false, false]) (by rfl) ?_))
   refine a_step [2] kR rfl ⟨fun o hoq => ?_, trivial⟩
   obtain rfl := sI hoq
   refine wl_stW hb2 rfl rfl sz25 rfl oneA (fun w36 hq hs => ?_)
   replace hB := hB.tr1 hs lo2
   replace hb3 := hb3.tr1 hs om
   replace hb4 := hb4.tr1 hs om
   replace hoT := hoT.tr1 hs (own_neC hoT hb2 dE)
   replace hoF := hoF.tr1 hs (own_neC hoF hb2 dE)
   replace hRw := hRw.tr hs (fun g hg => by rw [List.mem_singleton.1 hg]; exact .inr ⟨_, _, hb2, by decide⟩)
   replace hzh := nLT hzh (Same.size hs)
   replace hb16 := hb16.tr1 hs om
   clear hs
   replace hb2 := hq
   refine x_nil (e_A (listed' := #[true, true, true, false]) (by rfl) ?_)
   refine a_step [3] kR rfl ⟨fun o hoq => ?_, trivial⟩
   obtain rfl := sI hoq
   refine wl_stW hb3 rfl rfl sz35_GLoose rfl oneA (fun w37 hq hs => ?_)
   replace hB := hB.tr1 hs lo3
   replace hb2 := hb2.tr1 hs om
   replace hb4 := hb4.tr1 hs om
   replace hoT := hoT.tr1 hs (own_neC hoT hb3 dE)
   replace hoF := hoF.tr1 hs (own_neC hoF hb3 dE)
   replace hRw := hRw.tr hs (fun g hg => by rw [List.mem_singleton.1 hg]; exact .inr ⟨_, _, hb3, by decide⟩)
   replace hzh := nLT hzh (Same.size hs)
   replace hb16 := hb16.tr1 hs om
   clear hs
   replace hb3 := hq
   refine x_nil (e_A (listed' := #[true, true, true, true]) (by rfl) (a_end kR (e_S (c_ret (e_Sr ?_)))))
   refine fin2 (.inl rfl) rfl (rr_cell U25 rfl rfl hb2.range0 sz25) (rr_cell U35 rfl rfl hb3.range0 sz35_GLoose) ?_
   exact ⟨⟨none, 0, none, 0, [], [], _, hRe.trans (fin_no c164), rfl, Nat.le_refl _, Nat.le_refl _, types_nil _ _, feats_nilH _ _⟩, hB⟩
  refine c_skip (e_S (c_seq (c_region (wl (r_ldS U25 rfl rfl hb4.range0 sz25) (wl (r_bd (vs := #[]) (cs := #[.int .i64 0, .int .i64 0]) (by simp) kR) ?_)))))
  refine wl_stW hb2 rfl rfl sz25 rfl oneA (fun w38 hq hs => ?_)
  replace hB := hB.tr1 hs lo2
  replace hb3 := hb3.tr1 hs om
  replace hb4 := hb4.tr1 hs om
  replace hoT := hoT.tr1 hs (own_neC hoT hb2 dE)
  replace hoF := hoF.tr1 hs (own_neC hoF hb2 dE)
  replace hRw := hRw.tr hs (fun g hg => by rw [List.mem_singleton.1 hg]; exact .inr ⟨_, _, hb2, by decide⟩)
  replace hzh := nLT hzh (Same.size hs)
  replace hb16 := hb16.tr1 hs om
  clear hs
  replace hb2 := hq
  refine wl_stW hb3 rfl rfl sz35_GLoose rfl oneA (fun w39 hq hs => ?_)
  replace hB := hB.tr1 hs lo3
  replace hb2 := hb2.tr1 hs om
  replace hb4 := hb4.tr1 hs om
  replace hoT := hoT.tr1 hs (own_neC hoT hb3 dE)
  replace hoF := hoF.tr1 hs (own_neC hoF hb3 dE)
  replace hRw := hRw.tr hs (fun g hg => by rw [List.mem_singleton.1 hg]; exact .inr ⟨_, _, hb3, by decide⟩)
  replace hzh := nLT hzh (Same.size hs)
  replace hb16 := hb16.tr1 hs om
  clear hs
  replace hb3 := hq
  refine x_nil (e_S (c_ret (fin2 (.inl rfl) rfl (rr_cell U25 rfl rfl hb2.range0 sz25) (rr_cell U35 rfl rfl hb3.range0 sz35_GLoose) ?_)))
  exact ⟨⟨AT, cT, AF, cF, lT, lF, _, hRe.trans (fin_ok (Decidable.not_not.1 c164)), rfl, hoT.cap_le, hoF.cap_le, types_own hoT hRw rfl, feats_own hoF rfl⟩, hB⟩
end Go.Proofs.YtegngekpmpdngaaDoor
