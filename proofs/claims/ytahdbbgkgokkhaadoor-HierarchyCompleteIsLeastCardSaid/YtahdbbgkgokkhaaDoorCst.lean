/- Completing types: the sets that are added, how they are written. No program in sight. -/
import Derived.Test.YtahdbbgkgokkhaaDoorRul
import Derived.Test.YtahdbbgkgokkhaaDoorHLaw
import Derived.Lib.ItoaNum
namespace Go.Proofs.YtahdbbgkgokkhaaDoor
open Go.RowKit
/-! ## the sets that are added -/
def mt (S : List Nat) (i j : Nat) : Nat := S.getD i 0 &&& S.getD j 0
/-- the sets behind the pairs (i, j), (i, j + 1), .. -/
def clI : Nat → List Nat → Nat → Nat → Option (List Nat)
  | 0, S, _, _ => some S
  | f + 1, S, i, j => if mt S i j = 0 ∨ mt S i j ∈ S then clI f S i (j + 1) else if 60 < S.length + 1 then none else clI f (S ++ [mt S i j]) i (j + 1)
def clO : Nat → List Nat → Nat → Option (List Nat)
  | 0, _, _ => none
  | f + 1, S, i => if i < S.length then (match clI i S i 0 with | none => none | some S' => clO f S' (i + 1)) else some S
/-- in the midst of row i -/
def clK (f : Nat) (S : List Nat) (i j : Nat) : Option (List Nat) := match clI (i - j) S i j with | none => none | some S' => clO f S' (i + 1)
def base (l : List Ty) : List Nat := (List.range l.length).map (downN l)
def compS (l : List Ty) : Option (List Nat) := clO 61 (base l) 0
theorem base_len (l : List Ty) : (base l).length = l.length := by simp [base]
theorem clO_row {f i : Nat} {S : List Nat} (h : i < S.length) : clO (f + 1) S i = clK f S i 0 := by
  show (if _ then _ else _) = _
  rw [if_pos h]; rfl
theorem clO_end {f i : Nat} {S : List Nat} (h : ¬ i < S.length) : clO (f + 1) S i = some S := by
  show (if _ then _ else _) = _
  rw [if_neg h]
theorem clK_end {f i : Nat} {S : List Nat} : clK f S i i = clO f S (i + 1) := by
  unfold clK
  rw [Nat.sub_self]; rfl
theorem clK_skip {f i j : Nat} {S : List Nat} (hj : j < i) (h : mt S i j = 0 ∨ mt S i j ∈ S) : clK f S i j = clK f S i (j + 1) := by
  unfold clK
  obtain ⟨k, hk⟩ : ∃ k, i - j = k + 1 := ⟨i - j - 1, by omega⟩
  rw [hk, show i - (j + 1) = k by omega]
  show (match (if _ then _ else _ : Option (List Nat)) with | none => _ | some S' => _) = _
  rw [if_pos h]
theorem clK_full {f i j : Nat} {S : List Nat} (hj : j < i) (h : ¬ (mt S i j = 0 ∨ mt S i j ∈ S)) (h60 : 60 < S.length + 1) : clK f S i j = none := by
  unfold clK
  obtain ⟨k, hk⟩ : ∃ k, i - j = k + 1 := ⟨i - j - 1, by omega⟩
  rw [hk]
  show (match (if _ then _ else _ : Option (List Nat)) with | none => _ | some S' => _) = _
  rw [if_neg h, if_pos h60]
theorem clK_add {f i j : Nat} {S : List Nat} (hj : j < i) (h : ¬ (mt S i j = 0 ∨ mt S i j ∈ S)) (h60 : ¬ 60 < S.length + 1) : clK f S i j = clK f (S ++ [mt S i j]) i (j + 1) := by
  unfold clK
  obtain ⟨k, hk⟩ : ∃ k, i - j = k + 1 := ⟨i - j - 1, by omega⟩
  rw [hk, show i - (j + 1) = k by omega]
  show (match (if _ then _ else _ : Option (List Nat)) with | none => _ | some S' => _) = _
  rw [if_neg h, if_neg h60]
/-- closed -/
def Clo (S : List Nat) : Prop := ∀ i j, i < S.length → j < i → mt S i j = 0 ∨ mt S i j ∈ S
theorem clK_closed {S : List Nat} (hc : Clo S) {f i : Nat} (hi : i < S.length) : ∀ d j, j + d = i → clK f S i j = clO f S (i + 1)
  | 0, j, h => by
    have : j = i := by omega
    subst this; exact clK_end
  | d + 1, j, h => by
    rw [clK_skip (by omega) (hc i j hi (by omega))]
    exact clK_closed hc hi d (j + 1) (by omega)
theorem clO_closed {S : List Nat} (hc : Clo S) : ∀ d f i, i + d = S.length → d < f → clO f S i = some S
  | 0, f + 1, i, h, _ => clO_end (by omega)
  | d + 1, f + 1, i, h, hf => by
    rw [clO_row (by omega), clK_closed hc (by omega) i 0 (by omega)]
    exact clO_closed hc d f (i + 1) (by omega) (by omega)
  | _, 0, _, _, hf => by omega
/-- what is kept while sets are added to B -/
structure ClP (B S : List Nat) (i j : Nat) : Prop where
  le : S.length ≤ 60
  nd : S.Nodup
  pre : ∃ A, S = B ++ A ∧ ∀ x ∈ A, Cl B x ∧ ∃ y z, y ∈ S ∧ z ∈ S ∧ x = y &&& z ∧ x ≠ 0 ∧ x ≠ y ∧ x ≠ z
  don : ∀ i' j', i' < S.length → j' < i' → (i' < i ∨ (i' = i ∧ j' < j)) → mt S i' j' = 0 ∨ mt S i' j' ∈ S
theorem mt_app {S A : List Nat} {i j : Nat} (hi : i < S.length) (hj : j < S.length) : mt (S ++ A) i j = mt S i j := by
  unfold mt
  rw [List.getD_eq_getElem?_getD, List.getD_eq_getElem?_getD, List.getD_eq_getElem?_getD, List.getD_eq_getElem?_getD, List.getElem?_append_left hi, List.getElem?_append_left hj]
theorem ClP.skip {B S : List Nat} {i j : Nat} (h : ClP B S i j) (hx : mt S i j = 0 ∨ mt S i j ∈ S) : ClP B S i (j + 1) :=
  ⟨h.le, h.nd, h.pre, fun i' j' hi hj h2 => by
    by_cases e : i' = i ∧ j' = j
    · obtain ⟨rfl, rfl⟩ := e; exact hx
    · exact h.don i' j' hi hj (by omega)⟩
theorem getD_mem {S : List Nat} {i : Nat} (h : i < S.length) : S.getD i 0 ∈ S := by
  rw [List.getD_eq_getElem?_getD, List.getElem?_eq_getElem h]; exact List.getElem_mem h
theorem ClP.add {B S : List Nat} {i j : Nat} (h : ClP B S i j) (hi : i < S.length) (hj : j < i) (hx : ¬ (mt S i j = 0 ∨ mt S i j ∈ S)) (h60 : ¬ 60 < S.length + 1) : ClP B (S ++ [mt S i j]) i (j + 1) := by
  refine ⟨by simp; omega, ?_, ?_, fun i' j' hi' hj' h2 => ?_⟩
  · exact List.nodup_append.2 ⟨h.nd, by simp, fun a ha b hb e => hx (.inr (by rw [List.mem_singleton.1 hb] at e; rwa [← e]))⟩
  · obtain ⟨A, hA, hm⟩ := h.pre
    refine ⟨A ++ [mt S i j], by rw [hA, List.append_assoc], fun x hxm => ?_⟩
    rcases List.mem_append.1 hxm with h1 | h1
    · obtain ⟨hc, y, z, hy, hz, e⟩ := hm x h1
      exact ⟨hc, y, z, List.mem_append_left _ hy, List.mem_append_left _ hz, e⟩
    · rw [List.mem_singleton.1 h1]
      have hin : ∀ y ∈ S, Cl B y := fun y hy => by
        rw [hA] at hy
        rcases List.mem_append.1 hy with h2 | h2
        · exact .base h2
        · exact (hm y h2).1
      have m1 := getD_mem hi
      have m2 := getD_mem (S := S) (i := j) (by omega)
      refine ⟨.meet (hin _ m1) (hin _ m2) (fun e => hx (.inl e)), _, _, List.mem_append_left _ m1, List.mem_append_left _ m2, rfl, fun e => hx (.inl e), fun e => hx (.inr ?_), fun e => hx (.inr ?_)⟩
      · rw [e]; exact m1
      · rw [e]; exact m2
  · have hiT : i' < S.length := by omega
    rw [mt_app hiT (by omega)]
    by_cases e : i' = i ∧ j' = j
    · obtain ⟨rfl, rfl⟩ := e; exact .inr (List.mem_append_right _ (List.mem_singleton.2 rfl))
    · exact (h.don i' j' hiT hj' (by omega)).imp id (fun h3 => List.mem_append_left _ h3)
theorem clK_keep {B : List Nat} {f i : Nat} : ∀ d j S R, j + d = i → i < S.length → ClP B S i j → (∀ S', i < S'.length → ClP B S' i i → clO f S' (i + 1) = some R → ClP B R R.length 0) → clK f S i j = some R → ClP B R R.length 0
  | 0, j, S, R, h, hi, hp, IH, hr => by
    have : j = i := by omega
    subst this
    rw [clK_end] at hr
    exact IH S hi hp hr
  | d + 1, j, S, R, h, hi, hp, IH, hr => by
    by_cases hx : mt S i j = 0 ∨ mt S i j ∈ S
    · rw [clK_skip (by omega) hx] at hr
      exact clK_keep d (j + 1) S R (by omega) hi (hp.skip hx) IH hr
    · by_cases h60 : 60 < S.length + 1
      · rw [clK_full (by omega) hx h60] at hr; cases hr
      · rw [clK_add (by omega) hx h60] at hr
        exact clK_keep d (j + 1) _ R (by omega) (by simp; omega) (hp.add hi (by omega) hx h60) IH hr
theorem ClP.row {B S : List Nat} {i : Nat} (h : ClP B S i i) : ClP B S (i + 1) 0 := ⟨h.le, h.nd, h.pre, fun i' j' hi hj h2 => h.don i' j' hi hj (by omega)⟩
theorem clO_keep {B : List Nat} : ∀ f i S R, i ≤ S.length → ClP B S i 0 → clO f S i = some R → ClP B R R.length 0
  | 0, _, _, _, _, _, h => by cases h
  | f + 1, i, S, R, hi, hp, hr => by
    by_cases h : i < S.length
    · rw [clO_row h] at hr
      exact clK_keep i 0 S R (by omega) h hp (fun S' hS' hp' hr' => clO_keep f (i + 1) S' R hS' hp'.row hr') hr
    · rw [clO_end h] at hr
      cases hr
      exact ⟨hp.le, hp.nd, hp.pre, fun i' j' h1 h2 _ => hp.don i' j' h1 h2 (by omega)⟩
theorem ClP.clo {B R : List Nat} (h : ClP B R R.length 0) : Clo R := fun i j hi hj => h.don i j hi hj (.inl hi)
/-! ## names -/
def glb (k : Nat) : ByteArray := (⟨#[103, 108, 98, 45]⟩ : ByteArray) ++ ⟨(Lib.decDigits k).toArray⟩
def usedB (l : List Ty) (k : Nat) : Bool := seen (l.map (·.name)) (glb k)
def nxF (u : Nat → Bool) : Nat → Nat → Nat
  | 0, a => a + 1
  | f + 1, a => if u (a + 1) = true then nxF u f (a + 1) else a + 1
/-- the next number that is free -/
def nxt (u : Nat → Bool) (a : Nat) : Nat := nxF u 60 a
def cntU (u : Nat → Bool) (a : Nat) : Nat := (List.range a).countP (fun j => u (j + 1))
theorem cntU_succ (u : Nat → Bool) (a : Nat) : cntU u (a + 1) = cntU u a + (if u (a + 1) = true then 1 else 0) := by
  unfold cntU
  rw [List.range_succ, List.countP_append, List.countP_singleton]
/-- c names were written, the last one with the number a -/
def NB (u : Nat → Bool) (c a : Nat) : Prop := a ≤ c + cntU u a
theorem NB.used {u : Nat → Bool} {c a : Nat} (h : NB u c a) (hu : u (a + 1) = true) : NB u c (a + 1) := by
  unfold NB at *
  rw [cntU_succ, if_pos hu]; omega
theorem NB.free {u : Nat → Bool} {c a : Nat} (h : NB u c a) : NB u (c + 1) (a + 1) := by
  unfold NB at *
  rw [cntU_succ]; omega
theorem nodup_sub_lenB : ∀ {A B : List ByteArray}, A.Nodup → (∀ x ∈ A, x ∈ B) → A.length ≤ B.length
  | [], _, _, _ => Nat.zero_le _
  | a :: A, B, hn, hs => by
    obtain ⟨h1, h2⟩ := List.nodup_cons.1 hn
    have ih := nodup_sub_lenB (B := B.filter (fun x => !decide (x = a))) h2 (fun x hx => List.mem_filter.2 ⟨hs x (List.mem_cons_of_mem _ hx), by simp; exact fun e => h1 (by rw [← e]; exact hx)⟩)
    have hm := hs a (List.mem_cons_self ..)
    have h3 : (B.filter (fun x => !decide (x = a))).length + 1 ≤ B.length := by
      have h4 := List.length_filter_lt_length_iff_exists (l := B) (p := fun x => !decide (x = a))
      have := h4.2 ⟨a, hm, by simp⟩
      omega
    rw [List.length_cons]; omega
theorem digits_inj {a b : Nat} (h : Lib.decDigits a = Lib.decDigits b) : a = b := by
  induction a using Nat.strongRecOn generalizing b with
  | _ a ih =>
    by_cases ha : a < 10 <;> by_cases hb : b < 10
    · rw [Lib.decDigits_one ha, Lib.decDigits_one hb] at h
      have h1 := congrArg UInt8.toNat (List.head_eq_of_cons_eq h)
      simp at h1; omega
    · exfalso
      have h2 := congrArg List.length h
      rw [Lib.decDigits_one ha, Lib.decDigits_length, Lib.nDigits_big hb] at h2
      have := Lib.nDigits_pos (b / 10)
      simp at h2; omega
    · exfalso
      have h2 := congrArg List.length h
      rw [Lib.decDigits_one hb, Lib.decDigits_length, Lib.nDigits_big ha] at h2
      have := Lib.nDigits_pos (a / 10)
      simp at h2; omega
    · rw [Lib.decDigits, dif_neg ha] at h
      rw [Lib.decDigits.eq_1 b, dif_neg hb] at h
      obtain ⟨h1, h2⟩ := List.append_inj' h rfl
      have h3 := ih (a / 10) (by omega) h1
      have h4 := congrArg UInt8.toNat (List.head_eq_of_cons_eq h2)
      simp at h4; omega
theorem glb_inj {a b : Nat} (h : glb a = glb b) : a = b := by
  unfold glb at h
  have h1 := congrArg (fun s : ByteArray => s.data.toList) h
  simp only [ByteArray.data_append, Array.toList_append, List.append_cancel_left_eq] at h1
  exact digits_inj h1
theorem cntU_le (l : List Ty) (a : Nat) : cntU (usedB l) a ≤ l.length := by
  unfold cntU
  rw [List.countP_eq_length_filter, ← List.length_map (f := fun j => glb (j + 1)), show l.length = (l.map (·.name)).length from (List.length_map ..).symm]
  refine nodup_sub_lenB ?_ (fun x hx => ?_)
  · refine List.Pairwise.map _ (R := fun a b : Nat => a ≠ b) (fun a b h e => h (by have := glb_inj e; omega)) ?_
    exact List.Pairwise.filter _ List.nodup_range
  · obtain ⟨j, hj, rfl⟩ := List.mem_map.1 hx
    have := (List.mem_filter.1 hj).2
    simpa [usedB, seen] using this
/-- numbers that are looked at are small -/
theorem NB.le {l : List Ty} {c a : Nat} (h : NB (usedB l) c a) : a ≤ c + l.length := by
  have := cntU_le l a
  unfold NB at h; omega
theorem nxt_step {u : Nat → Bool} {f a : Nat} (h : u (a + 1) = true) : nxF u (f + 1) a = nxF u f (a + 1) := by
  show (if _ then _ else _) = _
  rw [if_pos h]
theorem nxt_stop {u : Nat → Bool} {f a : Nat} (h : u (a + 1) = false) : nxF u f a = a + 1 := by
  cases f with
  | zero => rfl
  | succ f =>
    show (if _ then _ else _) = _
    rw [if_neg (by rw [h]; decide)]
/-! ## the list that is written -/
def outG (dn : Nat → Nat) (nm : Nat → ByteArray) (u : Nat → Bool) : Nat → Nat → Nat → List Nat → List (Nat × ByteArray)
  | 0, _, _, _ => []
  | k + 1, i, a, [] => (dn i, nm i) :: outG dn nm u k (i + 1) a []
  | k + 1, i, a, x :: D => if tz x = i then (x, glb (nxt u a)) :: outG dn nm u k i (nxt u a) D else (dn i, nm i) :: outG dn nm u k (i + 1) a (x :: D)
theorem outG_pop {dn : Nat → Nat} {nm : Nat → ByteArray} {u : Nat → Bool} {k i a x : Nat} {D : List Nat} (h : tz x = i) : outG dn nm u (k + 1) i a (x :: D) = (x, glb (nxt u a)) :: outG dn nm u k i (nxt u a) D := by
  show (if _ then _ else _) = _
  rw [if_pos h]
theorem outG_old {dn : Nat → Nat} {nm : Nat → ByteArray} {u : Nat → Bool} {k i a : Nat} {D : List Nat} (h : ∀ x ∈ D.head?, tz x ≠ i) : outG dn nm u (k + 1) i a D = (dn i, nm i) :: outG dn nm u k (i + 1) a D := by
  cases D with
  | nil => rfl
  | cons x D =>
    show (if _ then _ else _) = _
    rw [if_neg (h x rfl)]
def nmL (l : List Ty) (i : Nat) : ByteArray := (l.getD i ⟨⟨#[]⟩, []⟩).name
def outL (l : List Ty) (D : List Nat) : List (Nat × ByteArray) := outG (downN l) (nmL l) (usedB l) (l.length + D.length) 0 0 D
theorem outG_len (dn : Nat → Nat) (nm : Nat → ByteArray) (u : Nat → Bool) : ∀ k i a D, (outG dn nm u k i a D).length = k
  | 0, _, _, _ => rfl
  | k + 1, i, a, [] => by show (_ :: _).length = _; rw [List.length_cons, outG_len dn nm u k]
  | k + 1, i, a, x :: D => by
    by_cases h : tz x = i
    · rw [outG_pop h, List.length_cons, outG_len dn nm u k]
    · rw [outG_old (by simpa using h), List.length_cons, outG_len dn nm u k]
/-! ## the parents -/
def btw (M : List Nat) (i j k : Nat) : Bool := decide (k ≠ j) && subN (M.getD i 0) (M.getD k 0) && subN (M.getD k 0) (M.getD j 0)
/-- j is the place of a least set above the one at i -/
def dirB (M : List Nat) (i j : Nat) : Bool := subN (M.getD i 0) (M.getD j 0) && !((List.range i).any (fun k => btw M i j k))
def parK (M : List Nat) (i j : Nat) : List Int := ((List.range j).filter (dirB M i)).map (fun (n : Nat) => (n : Int))
theorem parK_yes {M : List Nat} {i j : Nat} (h : dirB M i j = true) : parK M i (j + 1) = parK M i j ++ [(j : Int)] := by
  unfold parK; rw [List.range_succ, List.filter_append, List.map_append]; simp [h]
theorem parK_no {M : List Nat} {i j : Nat} (h : dirB M i j = false) : parK M i (j + 1) = parK M i j := by
  unfold parK; rw [List.range_succ, List.filter_append, List.map_append]; simp [h]
def tyO (O : List (Nat × ByteArray)) (i : Nat) : Ty := ⟨(O.getD i (0, ⟨#[]⟩)).2, parK (O.map (·.1)) i i⟩
def outT (O : List (Nat × ByteArray)) : List Ty := (List.range O.length).map (tyO O)
end Go.Proofs.YtahdbbgkgokkhaaDoor
