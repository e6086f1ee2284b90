/- Completed types: a hierarchy with the old types in their order, new types that are meets, complete. No program in sight. -/
import Derived.Test.YtahdbbgkgokkhaaDoorCeq
namespace Go.Proofs.YtahdbbgkgokkhaaDoor
open Go.RowKit
/-! ## names that are written -/
theorem dec_ch (u : Nat) : ∀ c, c ∈ Lib.decDigits u → nameCh c = true := by
  induction u using Nat.strongRecOn with
  | _ u ih =>
    intro c hc
    have key : ∀ d : Nat, d < 10 → nameCh (UInt8.ofNat (48 + d)) = true := fun d hd => by
      rw [nameCh_iff]
      have : (UInt8.ofNat (48 + d)).toNat = 48 + d := by
        rw [UInt8.toNat_ofNat']; omega
      omega
    by_cases h : u < 10
    · rw [Lib.decDigits_one h] at hc
      rw [List.mem_singleton.1 hc]
      exact key u h
    · rw [Lib.decDigits, dif_neg h] at hc
      rcases List.mem_append.1 hc with h1 | h1
      · exact ih (u / 10) (by omega) c h1
      · rw [List.mem_singleton.1 h1]
        exact key _ (by omega)
theorem glb_name {k : Nat} (h : k < 10000) : isName (glb k) = true := by
  have hl : (Lib.decDigits k).length ≤ 4 := by
    rw [Lib.decDigits_length]
    by_cases h1 : k < 10
    · rw [Lib.nDigits_small h1]; omega
    · rw [Lib.nDigits_big h1]
      by_cases h2 : k / 10 < 10
      · rw [Lib.nDigits_small h2]; omega
      · rw [Lib.nDigits_big h2]
        by_cases h3 : k / 10 / 10 < 10
        · rw [Lib.nDigits_small h3]; omega
        · rw [Lib.nDigits_big h3, Lib.nDigits_small (by omega)]; omega
  have hd : (glb k).data.toList = [103, 108, 98, 45] ++ Lib.decDigits k := by
    unfold glb; simp
  have hs : (glb k).size = (glb k).data.toList.length := by simp
  unfold isName
  rw [hs, hd]
  simp only [Bool.and_eq_true, decide_eq_true_eq]
  refine ⟨⟨by rw [List.length_append]; show 4 + _ ≤ 30; omega, rfl⟩, ?_⟩
  rw [List.all_append, Bool.and_eq_true]
  exact ⟨by decide, List.all_eq_true.2 (dec_ch k)⟩
theorem nxF_free {u : Nat → Bool} : ∀ (f a : Nat), (∃ b, a < b ∧ b ≤ a + f + 1 ∧ u b = false) → u (nxF u f a) = false ∧ a < nxF u f a ∧ nxF u f a ≤ a + f + 1
  | 0, a, ⟨b, h1, h2, h3⟩ => by
    have e : b = a + 1 := by omega
    subst e
    exact ⟨h3, Nat.lt_succ_self _, Nat.le_refl _⟩
  | f + 1, a, ⟨b, h1, h2, h3⟩ => by
    cases hu : u (a + 1) with
    | false => rw [nxt_stop hu]; exact ⟨hu, by omega, by omega⟩
    | true =>
      rw [nxt_step hu]
      have hne : b ≠ a + 1 := fun e => by rw [e, hu] at h3; cases h3
      obtain ⟨i1, i2, i3⟩ := nxF_free f (a + 1) ⟨b, by omega, by omega, h3⟩
      exact ⟨i1, by omega, by omega⟩
theorem free_ex {l : List Ty} (h60 : l.length ≤ 60) (a : Nat) : ∃ b, a < b ∧ b ≤ a + 60 + 1 ∧ usedB l b = false := by
  refine Classical.byContradiction (fun hc => ?_)
  have hall : ∀ j, j < 61 → usedB l (a + 1 + j) = true := fun j hj => by
    cases h : usedB l (a + 1 + j) with
    | true => rfl
    | false => exact absurd ⟨a + 1 + j, by omega, by omega, h⟩ hc
  have h1 := nodup_sub_lenB (A := (List.range 61).map (fun j => glb (a + 1 + j))) (B := l.map (·.name)) ?_ (fun x hx => ?_)
  · simp only [List.length_map, List.length_range] at h1; omega
  · refine List.Pairwise.map _ (R := fun a b : Nat => a ≠ b) (fun a b h e => h (by have := glb_inj e; omega)) ?_
    exact List.nodup_range
  · obtain ⟨j, hj, rfl⟩ := List.mem_map.1 hx
    have := hall j (List.mem_range.1 hj)
    simpa [usedB, seen] using this
theorem nxt_free {l : List Ty} (h60 : l.length ≤ 60) (a : Nat) : usedB l (nxt (usedB l) a) = false ∧ a < nxt (usedB l) a ∧ nxt (usedB l) a ≤ a + 61 := nxF_free 60 a (free_ex h60 a)
/-! ## the list that is written -/
theorem outG_ind {l : List Ty} {nm : Nat → ByteArray} {u : Nat → Bool} {P : Nat → Nat → List Nat → List (Nat × ByteArray) → Prop} (h0 : ∀ a, P l.length a [] [])
    (hp : ∀ i a x D O, i < l.length → tz x = i → P i (nxt u a) D O → P i a (x :: D) ((x, glb (nxt u a)) :: O))
    (ho : ∀ i a D O, i < l.length → (∀ x ∈ D, i + 1 ≤ tz x) → P (i + 1) a D O → P i a D ((downN l i, nm i) :: O)) :
    ∀ (k i a : Nat) (D : List Nat), k = (l.length - i) + D.length → i ≤ l.length → (∀ x ∈ D, i ≤ tz x ∧ tz x < l.length) → D.Pairwise (fun x y => tz x ≤ tz y) → P i a D (outG (downN l) nm u k i a D)
  | 0, i, a, D, hk, hi, hD, hs => by
    have e1 : D = [] := List.eq_nil_of_length_eq_zero (by omega)
    have e2 : i = l.length := by omega
    rw [e1, e2]
    exact h0 a
  | k + 1, i, a, D, hk, hi, hD, hs => by
    by_cases hpop : ∃ x D', D = x :: D' ∧ tz x = i
    · obtain ⟨x, D', rfl, ht⟩ := hpop
      rw [outG_pop ht]
      have h1 := (hD x (List.mem_cons_self ..)).2
      exact hp i a x D' _ (by omega) ht (outG_ind h0 hp ho k i (nxt u a) D' (by rw [List.length_cons] at hk; omega) hi (fun y hy => hD y (List.mem_cons_of_mem _ hy)) (List.pairwise_cons.1 hs).2)
    · have hno : ∀ x ∈ D.head?, tz x ≠ i := fun x hx e => by
        cases D with
        | nil => cases hx
        | cons y D' => cases hx; exact hpop ⟨_, _, rfl, e⟩
      have hgt : ∀ x ∈ D, i + 1 ≤ tz x := fun x hx => by
        cases D with
        | nil => cases hx
        | cons y D' =>
          have h1 := hno y rfl
          have h2 := (hD y (List.mem_cons_self ..)).1
          rcases List.mem_cons.1 hx with rfl | hx
          · omega
          · have := (List.pairwise_cons.1 hs).1 x hx
            omega
      have hil : i < l.length := by
        refine Nat.lt_of_not_le (fun h => ?_)
        have : 0 < D.length := by omega
        obtain ⟨x, hx⟩ := List.exists_mem_of_length_pos this
        have h1 := hgt x hx
        have h2 := (hD x hx).2
        omega
      rw [outG_old hno]
      exact ho i a D _ hil hgt (outG_ind h0 hp ho k (i + 1) a D (by omega) hil (fun y hy => ⟨hgt y hy, (hD y hy).2⟩) hs)
theorem outG_mem {l : List Ty} {nm : Nat → ByteArray} {u : Nat → Bool} (k i a : Nat) (D : List Nat) (hk : k = (l.length - i) + D.length) (hi : i ≤ l.length) (hD : ∀ x ∈ D, i ≤ tz x ∧ tz x < l.length) (hs : D.Pairwise (fun x y => tz x ≤ tz y)) :
    ∀ y, y ∈ (outG (downN l) nm u k i a D).map Prod.fst ↔ y ∈ D ∨ ∃ q, i ≤ q ∧ q < l.length ∧ y = downN l q := by
  refine outG_ind (P := fun i _ D O => ∀ y, y ∈ O.map Prod.fst ↔ y ∈ D ∨ ∃ q, i ≤ q ∧ q < l.length ∧ y = downN l q) (fun a y => ?_) (fun i a x D O hi ht ih y => ?_) (fun i a D O hi hg ih y => ?_) k i a D hk hi hD hs
  · constructor
    · intro h; cases h
    · rintro (h | ⟨q, h1, h2, _⟩)
      · cases h
      · omega
  · rw [List.map_cons, List.mem_cons, List.mem_cons, ih y]
    constructor
    · rintro (h | h | h)
      · exact .inl (.inl h)
      · exact .inl (.inr h)
      · exact .inr h
    · rintro ((h | h) | h)
      · exact .inl h
      · exact .inr (.inl h)
      · exact .inr (.inr h)
  · rw [List.map_cons, List.mem_cons, ih y]
    constructor
    · rintro (h | h | ⟨q, h1, h2, h3⟩)
      · exact .inr ⟨i, Nat.le_refl _, hi, h⟩
      · exact .inl h
      · exact .inr ⟨q, by omega, h2, h3⟩
    · rintro (h | ⟨q, h1, h2, h3⟩)
      · exact .inr (.inl h)
      · by_cases e : q = i
        · subst e; exact .inl h3
        · exact .inr (.inr ⟨q, by omega, h2, h3⟩)
theorem outG_sub {l : List Ty} {nm : Nat → ByteArray} {u : Nat → Bool} (k i a : Nat) (D : List Nat) (hk : k = (l.length - i) + D.length) (hi : i ≤ l.length) (hD : ∀ x ∈ D, i ≤ tz x ∧ tz x < l.length) (hs : D.Pairwise (fun x y => tz x ≤ tz y)) :
    ((List.range' i (l.length - i)).map (fun q => (downN l q, nm q))).Sublist (outG (downN l) nm u k i a D) := by
  refine outG_ind (P := fun i _ _ O => ((List.range' i (l.length - i)).map (fun q => (downN l q, nm q))).Sublist O) (fun a => ?_) (fun i a x D O hi ht ih => ih.cons _) (fun i a D O hi hg ih => ?_) k i a D hk hi hD hs
  · rw [Nat.sub_self]; exact List.Sublist.slnil
  · obtain ⟨d, hd⟩ : ∃ d, l.length - i = d + 1 := ⟨l.length - i - 1, by omega⟩
    rw [hd, List.range'_succ, List.map_cons]
    rw [show l.length - (i + 1) = d by omega] at ih
    exact ih.cons_cons _
theorem outG_nms {l : List Ty} {nm : Nat → ByteArray} (h60 : l.length ≤ 60) (hnm : ∀ i j, i < j → j < l.length → nm i ≠ nm j) (hu : ∀ i b, i < l.length → usedB l b = false → nm i ≠ glb b) (k i a : Nat) (D : List Nat) (hk : k = (l.length - i) + D.length) (hi : i ≤ l.length) (hD : ∀ x ∈ D, i ≤ tz x ∧ tz x < l.length) (hs : D.Pairwise (fun x y => tz x ≤ tz y)) :
    a + 61 * D.length ≤ 3660 → (∀ s ∈ (outG (downN l) nm (usedB l) k i a D).map Prod.snd, (∃ q, i ≤ q ∧ q < l.length ∧ s = nm q) ∨ ∃ b, a < b ∧ b ≤ 3660 ∧ usedB l b = false ∧ s = glb b) ∧ ((outG (downN l) nm (usedB l) k i a D).map Prod.snd).Nodup := by
  refine outG_ind (P := fun i a D O => a + 61 * D.length ≤ 3660 → (∀ s ∈ O.map Prod.snd, (∃ q, i ≤ q ∧ q < l.length ∧ s = nm q) ∨ ∃ b, a < b ∧ b ≤ 3660 ∧ usedB l b = false ∧ s = glb b) ∧ (O.map Prod.snd).Nodup) (fun a _ => ⟨(fun s h => by cases h), List.Pairwise.nil⟩) (fun i a x D O hi ht ih ha => ?_) (fun i a D O hi hg ih ha => ?_) k i a D hk hi hD hs
  · obtain ⟨f1, f2, f3⟩ := nxt_free h60 a
    rw [List.length_cons] at ha
    obtain ⟨i1, i2⟩ := ih (by omega)
    refine ⟨fun s hs => ?_, ?_⟩
    · rw [List.map_cons] at hs
      rcases List.mem_cons.1 hs with h | h
      · exact .inr ⟨_, f2, by omega, f1, h⟩
      · rcases i1 s h with h2 | ⟨b, b1, b2, b3, b4⟩
        · exact .inl h2
        · exact .inr ⟨b, by omega, b2, b3, b4⟩
    · rw [List.map_cons]
      refine List.nodup_cons.2 ⟨fun h => ?_, i2⟩
      rcases i1 _ h with ⟨q, q1, q2, q3⟩ | ⟨b, b1, b2, b3, b4⟩
      · exact hu q _ q2 f1 q3.symm
      · have := glb_inj b4; omega
  · obtain ⟨i1, i2⟩ := ih ha
    refine ⟨fun s hs => ?_, ?_⟩
    · rw [List.map_cons] at hs
      rcases List.mem_cons.1 hs with h | h
      · exact .inl ⟨i, Nat.le_refl _, hi, h⟩
      · rcases i1 s h with ⟨q, q1, q2, q3⟩ | h2
        · exact .inl ⟨q, by omega, q2, q3⟩
        · exact .inr h2
    · rw [List.map_cons]
      refine List.nodup_cons.2 ⟨fun h => ?_, i2⟩
      rcases i1 _ h with ⟨q, q1, q2, q3⟩ | ⟨b, b1, b2, b3, b4⟩
      · exact hnm i q (by omega) q2 q3
      · exact hu i b hi b3 b4
/-! ## a list of sets and names that is written as types -/
abbrev mO (O : List (Nat × ByteArray)) (i : Nat) : Nat := (O.map Prod.fst).getD i 0
structure OutP (O : List (Nat × ByteArray)) : Prop where
  pos : 0 < O.length
  le : O.length ≤ 60
  fwd : Fwd (O.map Prod.fst)
  nz : ∀ i, i < O.length → mO O i ≠ 0
  top : ∀ i, i < O.length → subN (mO O i) (mO O 0) = true
  cl : ∀ i j, i < O.length → j < O.length → mO O i &&& mO O j = 0 ∨ ∃ m, m < O.length ∧ mO O m = mO O i &&& mO O j
  nm : ∀ s ∈ O.map Prod.snd, isName s = true
  nd : (O.map Prod.snd).Nodup
theorem subN_refl (x : Nat) : subN x x = true := subN_iff.2 (fun _ h => h)
theorem OutP.fw {O : List (Nat × ByteArray)} (h : OutP O) {a b : Nat} (hb : b < O.length) (_ha : a < O.length) (hs : subN (mO O a) (mO O b) = true) : b ≤ a :=
  Nat.le_of_not_lt (fun hab => h.fwd a b hab (by rw [List.length_map]; exact hb) hs)
theorem OutP.inj {O : List (Nat × ByteArray)} (h : OutP O) {a b : Nat} (hb : b < O.length) (ha : a < O.length) (e : mO O a = mO O b) : a = b :=
  Nat.le_antisymm (h.fw ha hb (by rw [e]; exact subN_refl _)) (h.fw hb ha (by rw [e]; exact subN_refl _))
theorem max_ex (P : Nat → Prop) (j : Nat) (hP : P j) : ∀ i, j < i → ∃ k, k < i ∧ P k ∧ ∀ k', k < k' → k' < i → ¬ P k'
  | 0, h => by omega
  | i + 1, h => by
    by_cases hi : P i
    · exact ⟨i, Nat.lt_succ_self _, hi, fun k' h1 h2 => by omega⟩
    · by_cases e : j = i
      · subst e; exact absurd hP hi
      · obtain ⟨k, h1, h2, h3⟩ := max_ex P j hP i (by omega)
        refine ⟨k, by omega, h2, fun k' h4 h5 => ?_⟩
        by_cases e2 : k' = i
        · subst e2; exact hi
        · exact h3 k' h4 (by omega)
theorem OutP.cover {O : List (Nat × ByteArray)} (h : OutP O) {i j : Nat} (hi : i < O.length) (hji : j < i) (hs : subN (mO O i) (mO O j) = true) : ∃ k, k < i ∧ dirB (O.map Prod.fst) i k = true ∧ subN (mO O k) (mO O j) = true := by
  obtain ⟨k, h1, ⟨h2, h3⟩, h4⟩ := max_ex (fun k => subN (mO O i) (mO O k) = true ∧ subN (mO O k) (mO O j) = true) j ⟨hs, subN_refl _⟩ i hji
  refine ⟨k, h1, ?_, h3⟩
  unfold dirB
  rw [Bool.and_eq_true]
  refine ⟨h2, ?_⟩
  rw [Bool.not_eq_true', List.any_eq_false]
  intro q hq hb
  have hqi := List.mem_range.1 hq
  unfold btw at hb
  simp only [Bool.and_eq_true, decide_eq_true_eq] at hb
  obtain ⟨⟨b1, b2⟩, b3⟩ := hb
  have hkq := h.fw (a := q) (b := k) (by omega) (by omega) b3
  exact h4 q (by omega) hqi ⟨b2, subN_trans b3 h3⟩
theorem outT_get {O : List (Nat × ByteArray)} {i : Nat} (hi : i < (outT O).length) : (outT O)[i] = tyO O i := by
  simp only [outT, List.getElem_map, List.getElem_range]
theorem outT_len' (O : List (Nat × ByteArray)) : (outT O).length = O.length := by simp [outT]
theorem par_out {O : List (Nat × ByteArray)} {i : Nat} (hi : i < O.length) : parN (outT O) i = (List.range i).filter (dirB (O.map Prod.fst) i) := by
  unfold parN
  rw [List.getElem?_eq_getElem (by rw [outT_len']; exact hi), outT_get]
  show (parK (O.map Prod.fst) i i).map Int.toNat = _
  unfold parK
  rw [List.map_map]
  exact (List.map_congr_left (fun a _ => by simp)).trans (List.map_id _)
theorem vt_out (O : List (Nat × ByteArray)) : VT (outT O) := fun i hi p hp => by
  rw [outT_get] at hp
  have hp : p ∈ parK (O.map Prod.fst) i i := hp
  unfold parK at hp
  obtain ⟨q, hq, rfl⟩ := List.mem_map.1 hp
  have := List.mem_range.1 (List.mem_filter.1 hq).1
  omega
theorem OutP.sb {O : List (Nat × ByteArray)} (h : OutP O) {i j : Nat} (hi : i < O.length) (hj : j < O.length) : sub (outT O) i j = subN (mO O i) (mO O j) := by
  have hv := vt_out O
  rw [Bool.eq_iff_iff]
  constructor
  · have key : ∀ n i, i ≤ n → i < O.length → sub (outT O) i j = true → subN (mO O i) (mO O j) = true := by
      intro n
      induction n with
      | zero =>
        intro i hn hi hs
        rcases (sub_iff hv i j).1 hs with rfl | ⟨p, hp, _⟩
        · exact subN_refl _
        · have := hv.par hp; omega
      | succ n ih =>
        intro i hn hi hs
        rcases (sub_iff hv i j).1 hs with rfl | ⟨p, hp, hps⟩
        · exact subN_refl _
        · have hlt := hv.par hp
          rw [par_out hi] at hp
          have hd := (List.mem_filter.1 hp).2
          unfold dirB at hd
          rw [Bool.and_eq_true] at hd
          exact subN_trans hd.1 (ih p (by omega) (by omega) hps)
    exact key i i (Nat.le_refl _) hi
  · have key : ∀ n i, i ≤ n → i < O.length → subN (mO O i) (mO O j) = true → sub (outT O) i j = true := by
      intro n
      induction n with
      | zero =>
        intro i hn hi hs
        have := h.fw hj hi hs
        have e : i = j := by omega
        rw [e]; exact sub_refl hv j
      | succ n ih =>
        intro i hn hi hs
        by_cases e : i = j
        · rw [e]; exact sub_refl hv j
        · have := h.fw hj hi hs
          obtain ⟨k, h1, h2, h3⟩ := h.cover hi (by omega) hs
          refine (sub_iff hv i j).2 (.inr ⟨k, ?_, ih k (by omega) (by omega) h3⟩)
          rw [par_out hi]
          exact List.mem_filter.2 ⟨List.mem_range.2 h1, h2⟩
    exact key i i (Nat.le_refl _) hi
theorem parFault_asc {i : Int} : ∀ (ps : List Int) (last : Int), (∀ p ∈ ps, 0 ≤ p ∧ p < i ∧ last < p) → ps.Pairwise (· < ·) → parFault i last ps = 0
  | [], _, _, _ => rfl
  | p :: ps, last, h, hs => by
    obtain ⟨h1, h2, h3⟩ := h p (List.mem_cons_self ..)
    obtain ⟨s1, s2⟩ := List.pairwise_cons.1 hs
    show (if _ then _ else if _ then _ else _ : Int) = 0
    rw [if_neg (by omega), if_neg (by omega)]
    exact parFault_asc ps p (fun q hq => ⟨(h q (List.mem_cons_of_mem _ hq)).1, (h q (List.mem_cons_of_mem _ hq)).2.1, s1 q hq⟩) s2
theorem firstF_none {f : Nat → Int} : ∀ (m i : Nat), (∀ j, i ≤ j → j < i + m → f j = 0) → firstF f i m = (0, 0)
  | 0, _, _ => rfl
  | m + 1, i, h => by
    show (if f i ≠ 0 then _ else firstF f (i + 1) m) = _
    rw [if_neg (fun hn => hn (h i (Nat.le_refl _) (by omega)))]
    exact firstF_none m (i + 1) (fun j h1 h2 => h j (by omega) (by omega))
theorem outT_names (O : List (Nat × ByteArray)) : (outT O).map (·.name) = O.map Prod.snd := by
  unfold outT
  rw [List.map_map]
  refine List.ext_getElem (by simp) (fun i h1 h2 => ?_)
  simp only [List.length_map, List.length_range] at h1
  simp [tyO, h1]
theorem seen_nodup {L : List Ty} {k : Nat} (hk : k < L.length) (hn : (L.map (·.name)).Nodup) : seen ((L.take k).map (·.name)) (L[k]).name = false := by
  cases h : seen ((L.take k).map (·.name)) (L[k]).name with
  | false => rfl
  | true =>
    unfold seen at h
    obtain ⟨u, hu, e⟩ := List.any_eq_true.1 h
    have e := of_decide_eq_true e
    rw [← List.take_append_drop k L, List.map_append] at hn
    refine absurd e ((List.nodup_append.1 hn).2.2 u hu (L[k]).name ?_)
    rw [List.drop_eq_getElem_cons hk, List.map_cons]
    exact List.mem_cons_self ..
theorem OutP.types {O : List (Nat × ByteArray)} (h : OutP O) : (typesFault (outT O)).1 = 0 := by
  have hp := h.pos
  have hle := h.le
  unfold typesFault
  rw [if_neg (by rw [outT_len']; omega), firstF_none]
  intro k _ hk
  have hk : k < (outT O).length := by omega
  have hkO : k < O.length := by rw [outT_len'] at hk; exact hk
  have hnm : (outT O)[k].name ∈ O.map Prod.snd := by rw [← outT_names]; exact List.mem_map.2 ⟨_, List.getElem_mem hk, rfl⟩
  have hpar : (outT O)[k].par = parK (O.map Prod.fst) k k := by rw [outT_get]; rfl
  rw [tyF_par (outT O) k hk (h.nm _ hnm) (seen_nodup hk (by rw [outT_names]; exact h.nd)) ?_, List.drop_zero, hpar]
  · refine parFault_asc _ _ (fun p hp => ?_) ?_
    · unfold parK at hp
      obtain ⟨q, hq, rfl⟩ := List.mem_map.1 hp
      have := List.mem_range.1 (List.mem_filter.1 hq).1
      omega
    · unfold parK
      refine List.Pairwise.map _ (R := fun a b : Nat => a < b) (fun a b h => by omega) ?_
      exact List.Pairwise.filter _ List.pairwise_lt_range
  · rw [hpar]
    by_cases e : k = 0
    · subst e; rfl
    · obtain ⟨q, h1, h2, _⟩ := h.cover hkO (show 0 < k by omega) (h.top k hkO)
      have hm : (q : Int) ∈ parK (O.map Prod.fst) k k := List.mem_map.2 ⟨q, List.mem_filter.2 ⟨List.mem_range.2 h1, h2⟩, rfl⟩
      cases hx : parK (O.map Prod.fst) k k with
      | nil => rw [hx] at hm; cases hm
      | cons a as' => rw [decide_eq_false e]; rfl
theorem OutP.meet_of {O : List (Nat × ByteArray)} (h : OutP O) {a b m : Nat} (ha : a < O.length) (hb : b < O.length) (hm : m < O.length) (e : mO O m = mO O a &&& mO O b) : meet (outT O) a b = (m, true, false) := by
  have hsa : subN (mO O m) (mO O a) = true := by rw [e]; exact subN_and _ _
  have hsb : subN (mO O m) (mO O b) = true := by rw [e, Nat.and_comm]; exact subN_and _ _
  refine meet_is (vt_out O) (by rw [outT_len']; exact h.le) (by rw [outT_len']; exact hm) ?_ (fun i hi hc => ?_)
  · unfold comm
    rw [h.sb hm ha, h.sb hm hb, hsa, hsb]; rfl
  · rw [outT_len'] at hi
    unfold comm at hc
    rw [h.sb hi ha, h.sb hi hb, Bool.and_eq_true] at hc
    rw [h.sb hi hm, e]
    refine subN_iff.2 (fun j hj => ?_)
    rw [Nat.testBit_and, subN_iff.1 hc.1 j hj, subN_iff.1 hc.2 j hj]; rfl
theorem OutP.meet_no {O : List (Nat × ByteArray)} (h : OutP O) {a b : Nat} (ha : a < O.length) (hb : b < O.length) (e : mO O a &&& mO O b = 0) : commN (outT O) a b = 0 := by
  refine mask_eq_zero.2 (fun i hi => ?_)
  rw [outT_len'] at hi
  cases hc : comm (outT O) a b i with
  | false => rfl
  | true =>
    unfold comm at hc
    rw [h.sb hi ha, h.sb hi hb, Bool.and_eq_true] at hc
    refine absurd (Nat.eq_of_testBit_eq (fun j => ?_)) (h.nz i hi)
    rw [Nat.zero_testBit]
    cases hj : (mO O i).testBit j with
    | false => rfl
    | true =>
      have := congrArg (fun x => x.testBit j) e
      simp only [Nat.testBit_and, subN_iff.1 hc.1 j hj, subN_iff.1 hc.2 j hj, Nat.zero_testBit] at this
      cases this
theorem OutP.meet2 {O : List (Nat × ByteArray)} (h : OutP O) {a b : Nat} (ha : a < O.length) (hb : b < O.length) : (meet (outT O) a b).2.2 = false := by
  rcases h.cl a b ha hb with e | ⟨m, hm, e⟩
  · unfold meet
    rw [if_pos (h.meet_no ha hb e)]
  · rw [h.meet_of ha hb hm e]
theorem OutP.hier {O : List (Nat × ByteArray)} (h : OutP O) : (hierFault (outT O) []).1 = 0 := by
  have hu : unmetF (outT O) = (0, 0) := firstF_none _ _ (fun b _ hb => unmF_no (fun a hab => by
    rw [outT_len'] at hb
    exact h.meet2 (by omega) (by omega)))
  rw [hf_rest (by decide) h.types hu]; rfl
theorem sub_down {l : List Ty} (hv : VT l) {a b : Nat} (ha : a < l.length) : subN (downN l a) (downN l b) = sub l a b := by
  rw [Bool.eq_iff_iff]
  constructor
  · intro h
    have := subN_iff.1 h a (by rw [down_bit]; simp [ha, sub_refl hv])
    rw [down_bit] at this
    simp only [Bool.and_eq_true, decide_eq_true_eq] at this
    exact this.2
  · intro h
    refine subN_iff.2 (fun j hj => ?_)
    rw [down_bit] at hj ⊢
    simp only [Bool.and_eq_true, decide_eq_true_eq] at hj ⊢
    exact ⟨hj.1, sub_tr hv hj.2 h⟩
theorem base_get {l : List Ty} {i : Nat} (hi : i < l.length) : (base l).getD i 0 = downN l i := by
  unfold base
  rw [List.getD_eq_getElem?_getD, List.getElem?_map, List.getElem?_range hi]; rfl
theorem OutP.comp {O : List (Nat × ByteArray)} (h : OutP O) : compS (outT O) = some (base (outT O) ++ []) := by
  have hc : Clo (base (outT O)) := fun i j hi hj => by
    rw [base_len, outT_len'] at hi
    have hjO : j < O.length := by omega
    unfold mt
    rw [base_get (by rw [outT_len']; exact hi), base_get (by rw [outT_len']; exact hjO), comm_and]
    by_cases h0 : commN (outT O) i j = 0
    · exact .inl h0
    · refine .inr ?_
      have h2 := h.meet2 hi hjO
      by_cases hd : downN (outT O) (Lib.ctz 64 (commN (outT O) i j)) ≠ commN (outT O) i j
      · simp only [meet, if_neg h0, if_pos hd] at h2; cases h2
      · rw [← Decidable.not_not.1 hd]
        have hz := (ctz_mask (by rw [outT_len']; exact h.le) h0).1
        exact List.mem_map.2 ⟨_, List.mem_range.2 hz, rfl⟩
  have hle := h.le
  rw [List.append_nil]
  exact clO_closed hc O.length 61 0 (by rw [base_len, outT_len']; omega) (by omega)
theorem outG_nil (dn : Nat → Nat) (nm : Nat → ByteArray) (u : Nat → Bool) : ∀ k i a, outG dn nm u k i a [] = (List.range' i k).map (fun q => (dn q, nm q))
  | 0, _, _ => rfl
  | k + 1, i, a => by
    rw [List.range'_succ, List.map_cons, ← outG_nil dn nm u k (i + 1) a]; rfl
theorem OutP.fix {O : List (Nat × ByteArray)} (h : OutP O) : outT (outL (outT O) []) = outT O := by
  have hv := vt_out O
  have hO : outL (outT O) [] = (List.range O.length).map (fun q => (downN (outT O) q, nmL (outT O) q)) := by
    unfold outL
    rw [outG_nil, outT_len', List.range_eq_range']; rfl
  have hlen : (outL (outT O) []).length = O.length := by rw [hO]; simp
  have hM : ∀ i, i < O.length → mO (outL (outT O) []) i = downN (outT O) i := fun i hi => by
    unfold mO
    rw [hO, List.map_map, List.getD_eq_getElem?_getD, List.getElem?_map, List.getElem?_range hi]; rfl
  have hsub : ∀ a b, a < O.length → b < O.length → subN (mO (outL (outT O) []) a) (mO (outL (outT O) []) b) = subN (mO O a) (mO O b) := fun a b ha hb => by
    rw [hM a ha, hM b hb, sub_down hv (by rw [outT_len']; exact ha), h.sb ha hb]
  show (List.range (outL (outT O) []).length).map (tyO (outL (outT O) [])) = (List.range O.length).map (tyO O)
  rw [hlen]
  refine List.map_congr_left (fun i hi => ?_)
  have hi := List.mem_range.1 hi
  have hn : ((outL (outT O) []).getD i (0, ⟨#[]⟩)).2 = (O.getD i (0, ⟨#[]⟩)).2 := by
    rw [hO, List.getD_eq_getElem?_getD, List.getElem?_map, List.getElem?_range hi]
    show nmL (outT O) i = _
    unfold nmL
    have hiT : i < (outT O).length := by rw [outT_len']; exact hi
    rw [List.getD_eq_getElem?_getD, List.getElem?_eq_getElem hiT, Option.getD_some, outT_get]
    rfl
  have hp : parK ((outL (outT O) []).map Prod.fst) i i = parK (O.map Prod.fst) i i := by
    unfold parK
    congr 1
    refine List.filter_congr (fun j hj => ?_)
    have hj := List.mem_range.1 hj
    have e1 := hsub i j hi (by omega)
    have e2 : (List.range i).any (fun k => btw ((outL (outT O) []).map Prod.fst) i j k) = (List.range i).any (fun k => btw (O.map Prod.fst) i j k) := any_congr' (fun k hk => by
      have hk := List.mem_range.1 hk
      have e3 := hsub i k hi (by omega)
      have e4 := hsub k j (by omega) (by omega)
      unfold btw
      unfold mO at e3 e4
      rw [e3, e4])
    unfold dirB
    unfold mO at e1
    rw [e1, e2]
  unfold tyO
  rw [hn, hp]
/-! ## what Complete writes is such a list -/
theorem top_all {l : List Ty} (ht : (typesFault l).1 = 0) : ∀ n i, i ≤ n → i < l.length → sub l i 0 = true
  | 0, i, hn, hi => by
    have e : i = 0 := by omega
    rw [e]; exact sub_refl (vt_of ht) 0
  | n + 1, i, hn, hi => by
    have hv := vt_of ht
    by_cases e : i = 0
    · rw [e]; exact sub_refl hv 0
    · obtain ⟨_, _, h3, _⟩ := tyFault_ok hi (types_ok ht hi)
      cases hp : (l[i]).par with
      | nil => rw [hp, decide_eq_false e] at h3; cases h3
      | cons p ps =>
        have hm : p.toNat ∈ parN l i := by
          unfold parN
          rw [List.getElem?_eq_getElem hi]
          show p.toNat ∈ List.map Int.toNat (l[i]).par
          rw [hp]
          exact List.mem_cons_self ..
        have := hv.par hm
        exact (sub_iff hv i 0).2 (.inr ⟨_, hm, top_all ht n p.toNat (by omega) (by omega)⟩)
theorem AddD.tz1 {l : List Ty} {D : List Nat} (ht : (typesFault l).1 = 0) (hA : AddD l D) : ∀ x ∈ D, 1 ≤ tz x ∧ tz x < l.length := fun x hx => by
  have hv := vt_of ht
  have hb := types_len ht
  have hd := hA.dn x hx
  obtain ⟨h1, h2, _⟩ := hd.tz (by omega)
  refine ⟨?_, h1⟩
  by_cases e : tz x = 0
  · rw [e] at h2
    refine absurd ?_ (hA.new x hx)
    refine List.mem_map.2 ⟨0, List.mem_range.2 (by omega), (Nat.eq_of_testBit_eq (fun j => ?_))⟩
    rw [down_bit]
    by_cases hj : j < l.length
    · have hs := top_all ht j j (Nat.le_refl _) hj
      rw [hs, hd.dn 0 j hj h2 hs, decide_eq_true hj]; rfl
    · rw [decide_eq_false hj]
      cases hc : x.testBit j with
      | false => rfl
      | true => exact absurd (hd.lt j hc) hj
  · omega
theorem AddD.tzs {l : List Ty} {D : List Nat} (hA : AddD l D) : D.Pairwise (fun x y => tz x ≤ tz y) := hA.so.imp (fun h => by
  rcases h with h | ⟨h, _⟩ <;> omega)
theorem outL_len (l : List Ty) (D : List Nat) : (outL l D).length = l.length + D.length := outG_len ..
theorem AddD.mem {l : List Ty} {D : List Nat} (ht : (typesFault l).1 = 0) (hA : AddD l D) (y : Nat) : y ∈ (outL l D).map Prod.fst ↔ y ∈ D ∨ y ∈ base l := by
  refine (outG_mem (nm := nmL l) (u := usedB l) (l.length + D.length) 0 0 D (by omega) (Nat.zero_le _) (fun x hx => ⟨Nat.zero_le _, (hA.tz1 ht x hx).2⟩) hA.tzs y).trans (or_congr_right ?_)
  constructor
  · rintro ⟨q, _, h1, rfl⟩; exact List.mem_map.2 ⟨q, List.mem_range.2 h1, rfl⟩
  · intro h
    obtain ⟨q, h1, h2⟩ := List.mem_map.1 h
    exact ⟨q, Nat.zero_le _, List.mem_range.1 h1, h2.symm⟩
theorem mO_mem {O : List (Nat × ByteArray)} {i : Nat} (hi : i < O.length) : mO O i ∈ O.map Prod.fst := getD_mem (by rw [List.length_map]; exact hi)
theorem mem_mO {O : List (Nat × ByteArray)} {y : Nat} (h : y ∈ O.map Prod.fst) : ∃ i, i < O.length ∧ mO O i = y := by
  obtain ⟨i, hi, e⟩ := List.mem_iff_getElem.1 h
  rw [List.length_map] at hi
  refine ⟨i, hi, ?_⟩
  unfold mO
  rw [List.getD_eq_getElem?_getD, List.getElem?_eq_getElem (by rw [List.length_map]; exact hi), Option.getD_some]
  exact e
theorem nmL_get {l : List Ty} {i : Nat} (hi : i < l.length) : nmL l i = (l[i]).name := by unfold nmL; simp [List.getD, hi]
theorem AddD.outP {l : List Ty} {ds D : List Nat} (ht : (typesFault l).1 = 0) (h : compS l = some (base l ++ ds)) (hp : D.Perm ds) (hA : AddD l D) : OutP (outL l D) := by
  have hv := vt_of ht
  have hb := types_len ht
  have hsz := hA.sz
  have h60 : l.length ≤ 60 := by omega
  have hlen := outL_len l D
  have hdn : ∀ y, y ∈ (outL l D).map Prod.fst → DnS l y := fun y hy => by
    rcases (hA.mem ht y).1 hy with h1 | h1
    · exact hA.dn y h1
    · exact dns_base hv h1
  have hnm : ∀ i j, i < j → j < l.length → nmL l i ≠ nmL l j := fun i j hij hj e => by
    obtain ⟨_, h2, _⟩ := tyFault_ok hj (types_ok ht hj)
    rw [nmL_get hj, nmL_get (by omega)] at e
    have : seen ((l.take j).map (·.name)) (l[j]).name = true := by
      unfold seen
      refine List.any_eq_true.2 ⟨(l[i]).name, List.mem_map.2 ⟨l[i], ?_, rfl⟩, decide_eq_true e⟩
      exact List.mem_take_iff_getElem.2 ⟨i, by omega, rfl⟩
    rw [h2] at this; cases this
  have hu : ∀ i b, i < l.length → usedB l b = false → nmL l i ≠ glb b := fun i b hi hub e => by
    rw [nmL_get hi] at e
    have : usedB l b = true := by
      unfold usedB seen
      exact List.any_eq_true.2 ⟨(l[i]).name, List.mem_map.2 ⟨l[i], List.getElem_mem hi, rfl⟩, decide_eq_true e⟩
    rw [hub] at this; cases this
  obtain ⟨n1, n2⟩ := outG_nms (l := l) (nm := nmL l) h60 hnm hu (l.length + D.length) 0 0 D (by omega) (Nat.zero_le _) (fun x hx => ⟨Nat.zero_le _, (hA.tz1 ht x hx).2⟩) hA.tzs (by omega)
  have hm0 : mO (outL l D) 0 = downN l 0 := by
    have hO : outL l D = outG (downN l) (nmL l) (usedB l) (l.length - 1 + D.length + 1) 0 0 D := by unfold outL; congr 1; omega
    rw [hO, outG_old (fun x hx => by
      have := (hA.tz1 ht x (List.mem_of_mem_head? hx)).1
      omega)]
    rfl
  refine ⟨by omega, by omega, hA.fwd hv h60, fun i hi => (hdn _ (mO_mem hi)).ne, fun i hi => ?_, fun i j hi hj => ?_, fun s hs => ?_, n2⟩
  · rw [hm0]
    refine subN_iff.2 (fun j hj => ?_)
    have hjl := (hdn _ (mO_mem hi)).lt j hj
    rw [down_bit, decide_eq_true hjl, top_all ht j j (Nat.le_refl _) hjl]; rfl
  · have hc := (comp_keep hv h60 h).clo
    have hin : ∀ y, y ∈ (outL l D).map Prod.fst ↔ y ∈ base l ++ ds := fun y => by
      rw [hA.mem ht y, List.mem_append, hp.mem_iff]
      exact or_comm
    obtain ⟨i', hi', ei⟩ := List.mem_iff_getElem.1 ((hin _).1 (mO_mem hi))
    obtain ⟨j', hj', ej⟩ := List.mem_iff_getElem.1 ((hin _).1 (mO_mem hj))
    have gi : (base l ++ ds).getD i' 0 = mO (outL l D) i := by rw [List.getD_eq_getElem?_getD, List.getElem?_eq_getElem hi', Option.getD_some, ei]
    have gj : (base l ++ ds).getD j' 0 = mO (outL l D) j := by rw [List.getD_eq_getElem?_getD, List.getElem?_eq_getElem hj', Option.getD_some, ej]
    have key : mO (outL l D) i &&& mO (outL l D) j = 0 ∨ mO (outL l D) i &&& mO (outL l D) j ∈ base l ++ ds := by
      rcases Nat.lt_trichotomy j' i' with e | e | e
      · have := hc i' j' hi' e
        unfold mt at this
        rwa [gi, gj] at this
      · subst e
        have e2 : mO (outL l D) i = mO (outL l D) j := gi.symm.trans gj
        rw [e2, Nat.and_self]
        exact .inr ((hin _).1 (mO_mem hj))
      · have := hc j' i' hj' e
        unfold mt at this
        rwa [gi, gj, Nat.and_comm] at this
    rcases key with e | e
    · exact .inl e
    · exact .inr (mem_mO ((hin _).2 e))
  · rcases n1 s hs with ⟨q, _, q2, rfl⟩ | ⟨b, _, b2, _, rfl⟩
    · rw [nmL_get q2]; exact (tyFault_ok q2 (types_ok ht q2)).1
    · exact glb_name (by omega)
/-- every place is an old type's, or the meet of two others -/
theorem AddD.made {l : List Ty} {ds D : List Nat} (ht : (typesFault l).1 = 0) (h : compS l = some (base l ++ ds)) (hp : D.Perm ds) (hA : AddD l D) (hO : OutP (outL l D)) {k : Nat} (hk : k < (outL l D).length) :
    (∃ q, q < l.length ∧ mO (outL l D) k = downN l q) ∨ ∃ i j, i < (outL l D).length ∧ j < i ∧ meet (outT (outL l D)) i j = (k, true, false) ∧ k ≠ i ∧ k ≠ j := by
  have hv := vt_of ht
  have hb := types_len ht
  rcases (hA.mem ht _).1 (mO_mem hk) with h1 | h1
  · obtain ⟨A, eA, hm⟩ := (comp_keep hv (by omega) h).pre
    have eA := List.append_cancel_left eA
    subst eA
    obtain ⟨_, y, z, hy, hz, e, h0, n1, n2⟩ := hm _ (hp.mem_iff.1 h1)
    have hin : ∀ y, y ∈ base l ++ ds → ∃ i, i < (outL l D).length ∧ mO (outL l D) i = y := fun y hy => mem_mO ((hA.mem ht y).2 (by
      rcases List.mem_append.1 hy with h | h
      · exact .inr h
      · exact .inl (hp.mem_iff.2 h)))
    obtain ⟨i, hi, ei⟩ := hin y hy
    obtain ⟨j, hj, ej⟩ := hin z hz
    have ki : k ≠ i := fun e2 => n1 (by rw [← ei, e2])
    have kj : k ≠ j := fun e2 => n2 (by rw [← ej, e2])
    refine .inr ?_
    rcases Nat.lt_trichotomy j i with e2 | e2 | e2
    · exact ⟨i, j, hi, e2, hO.meet_of hi hj hk (by rw [e, ei, ej]), ki, kj⟩
    · exfalso
      rw [e2, ei] at ej
      rw [ej, Nat.and_self] at e
      exact n2 e
    · exact ⟨j, i, hj, e2, hO.meet_of hj hi hk (by rw [e, ei, ej, Nat.and_comm]), kj, ki⟩
  · obtain ⟨q, h1, h2⟩ := List.mem_map.1 h1
    exact .inl ⟨q, List.mem_range.1 h1, h2.symm⟩
/-! ## the places of the old types -/
def oldL (l : List Ty) : List (Nat × ByteArray) := (List.range l.length).map (fun q => (downN l q, nmL l q))
structure AtI (l : List Ty) (O : List (Nat × ByteArray)) (i : Nat) (ks : List Nat) : Prop where
  le : ks.length ≤ l.length
  at' : ∀ q (h : q < ks.length), ks[q] < i ∧ mO O (ks[q]) = downN l q
  rest : ((oldL l).drop ks.length).Sublist (O.drop i)
theorem AddD.at0 {l : List Ty} {D : List Nat} (ht : (typesFault l).1 = 0) (hA : AddD l D) : AtI l (outL l D) 0 [] := by
  refine ⟨Nat.zero_le _, fun q h => by simp at h, ?_⟩
  have := outG_sub (nm := nmL l) (u := usedB l) (l.length + D.length) 0 0 D (by omega) (Nat.zero_le _) (fun x hx => ⟨Nat.zero_le _, (hA.tz1 ht x hx).2⟩) hA.tzs
  rw [Nat.sub_zero, ← List.range_eq_range'] at this
  exact this
theorem oldL_len (l : List Ty) : (oldL l).length = l.length := by simp [oldL]
theorem oldL_get {l : List Ty} {q : Nat} (h : q < (oldL l).length) : (oldL l)[q] = (downN l q, nmL l q) := by simp [oldL]
theorem AtI.yes {l : List Ty} {O : List (Nat × ByteArray)} {i : Nat} {ks : List Nat} (h : AtI l O i ks) (hO : OutP O) (hi : i < O.length) (hl : ks.length < l.length) (e : (O[i]).2 = nmL l ks.length) : AtI l O (i + 1) (ks ++ [i]) := by
  have hlo : ks.length < (oldL l).length := by rw [oldL_len]; exact hl
  have hr := h.rest
  rw [List.drop_eq_getElem_cons hi, List.drop_eq_getElem_cons hlo, oldL_get] at hr
  have hhd : O[i] = (downN l ks.length, nmL l ks.length) ∧ ((oldL l).drop (ks.length + 1)).Sublist (O.drop (i + 1)) := by
    rcases List.sublist_cons_iff.1 hr with h1 | ⟨r, h1, h2⟩
    · exfalso
      have hm : (downN l ks.length, nmL l ks.length) ∈ O.drop (i + 1) := h1.subset (List.mem_cons_self ..)
      have hn := hO.nd
      rw [← List.take_append_drop (i + 1) O, List.map_append] at hn
      refine (List.nodup_append.1 hn).2.2 (O[i]).2 (List.mem_map.2 ⟨O[i], List.mem_take_iff_getElem.2 ⟨i, by omega, rfl⟩, rfl⟩) (nmL l ks.length) (List.mem_map.2 ⟨_, hm, rfl⟩) e
    · obtain ⟨h3, h4⟩ := List.cons_eq_cons.1 h1
      exact ⟨h3.symm, by rw [h4]; exact h2⟩
  refine ⟨by simp; omega, fun q hq => ?_, by simpa using hhd.2⟩
  rw [List.length_append] at hq
  by_cases hql : q < ks.length
  · rw [List.getElem_append_left hql]
    have := h.at' q hql
    exact ⟨by omega, this.2⟩
  · have e2 : q = ks.length := by simp at hq; omega
    subst e2
    rw [List.getElem_append_right (Nat.le_refl _)]
    simp only [Nat.sub_self, List.getElem_cons_zero]
    refine ⟨Nat.lt_succ_self _, ?_⟩
    unfold mO
    rw [List.getD_eq_getElem?_getD, List.getElem?_map, List.getElem?_eq_getElem hi, hhd.1]; rfl
theorem AtI.no {l : List Ty} {O : List (Nat × ByteArray)} {i : Nat} {ks : List Nat} (h : AtI l O i ks) (hi : i < O.length) (hn : ¬ (ks.length < l.length ∧ (O[i]).2 = nmL l ks.length)) : AtI l O (i + 1) ks := by
  refine ⟨h.le, fun q hq => ⟨by have := (h.at' q hq).1; omega, (h.at' q hq).2⟩, ?_⟩
  have hr := h.rest
  by_cases hl : ks.length < l.length
  · have hlo : ks.length < (oldL l).length := by rw [oldL_len]; exact hl
    rw [List.drop_eq_getElem_cons hi, List.drop_eq_getElem_cons hlo, oldL_get] at hr
    rw [List.drop_eq_getElem_cons hlo, oldL_get]
    rcases List.sublist_cons_iff.1 hr with h1 | ⟨r, h1, h2⟩
    · exact h1
    · obtain ⟨h3, h4⟩ := List.cons_eq_cons.1 h1
      exact absurd ⟨hl, by rw [← h3]⟩ hn
  · rw [List.drop_eq_nil_of_le (by rw [oldL_len]; omega)]
    exact List.nil_sublist _
theorem AtI.full {l : List Ty} {O : List (Nat × ByteArray)} {ks : List Nat} (h : AtI l O O.length ks) : ks.length = l.length := by
  have := h.rest.length_le
  have := h.le
  simp only [List.length_drop, oldL_len, Nat.sub_self] at *
  omega
theorem AtI.sub {l : List Ty} {O : List (Nat × ByteArray)} {ks : List Nat} (h : AtI l O O.length ks) (hv : VT l) (hO : OutP O) {i j : Nat} (hi : i < ks.length) (hj : j < ks.length) : _root_.Go.Proofs.YtahdbbgkgokkhaaDoor.sub l i j = _root_.Go.Proofs.YtahdbbgkgokkhaaDoor.sub (outT O) (ks[i]) (ks[j]) := by
  have hf := h.full
  rw [hO.sb (h.at' i hi).1 (h.at' j hj).1, (h.at' i hi).2, (h.at' j hj).2, sub_down hv (by omega)]
/-- the places that are marked -/
structure MkI (l : List Ty) (O : List (Nat × ByteArray)) (ks : List Nat) (i j : Nat) (mk : Nat → Bool) : Prop where
  old : ∀ q (h : q < ks.length), mk (ks[q]) = true
  new : ∀ i' j' m, i' < O.length → j' < i' → (i' < i ∨ (i' = i ∧ j' < j)) → meet (outT O) i' j' = (m, true, false) → m ≠ i' → m ≠ j' → mk m = true
theorem MkI.all {l : List Ty} {ds D : List Nat} {ks : List Nat} {mk : Nat → Bool} (ht : (typesFault l).1 = 0) (h : compS l = some (base l ++ ds)) (hp : D.Perm ds) (hA : AddD l D) (hO : OutP (outL l D)) (hk : AtI l (outL l D) (outL l D).length ks) (hm : MkI l (outL l D) ks (outL l D).length 0 mk) {k : Nat} (hkl : k < (outL l D).length) : mk k = true := by
  rcases hA.made ht h hp hO hkl with ⟨q, h1, h2⟩ | ⟨i, j, h1, h2, h3, h4, h5⟩
  · have hq : q < ks.length := by rw [hk.full]; exact h1
    have e := hk.at' q hq
    rw [hO.inj e.1 hkl (h2.trans e.2.symm)]
    exact hm.old q hq
  · exact hm.new i j k h1 h2 (.inl h1) h3 h4 h5
end Go.Proofs.YtahdbbgkgokkhaaDoor
