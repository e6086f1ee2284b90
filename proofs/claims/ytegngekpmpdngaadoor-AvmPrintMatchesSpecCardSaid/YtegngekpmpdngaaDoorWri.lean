/- Circles in a graph: the search with three colours, and the closure by Warshall, both tell whether a node reaches itself; and the paths of a graph. No program in sight. The text of a graph: which nodes have numbers, what is written, and why no node is written twice. No program in sight. -/
import Derived.Test.YtegngekpmpdngaaDoorGNodes
import Derived.Lib.ItoaNum
namespace Go.Proofs.YtegngekpmpdngaaDoor
open Go.RowKit
inductive Pth (g : List Nd) : Nat → Nat → Prop
  | one {i t : Nat} (h : t ∈ succN g i) : Pth g i t
  | step {i t u : Nat} (h : Pth g i t) (h2 : u ∈ succN g t) : Pth g i u
theorem Pth.trans {g : List Nd} {i t u : Nat} (h : Pth g i t) (k : Pth g t u) : Pth g i u := by
  induction k with
  | one h2 => exact .step h h2
  | step _ h2 ih => exact .step ih h2
def Cyc (g : List Nd) : Prop := ∃ x, Pth g x x
theorem succ_lt {g : List Nd} {i t : Nat} (h : t ∈ succN g i) : i < g.length := by
  refine Classical.byContradiction (fun hc => ?_)
  have e : nd g i = ⟨0, []⟩ := by simp [nd, List.getD, List.getElem?_eq_none (Nat.le_of_not_lt hc)]
  unfold succN at h
  rw [e] at h
  cases h
def setK (k : Nat → Nat) (i c x : Nat) : Nat := if x = i then c else k x
theorem setK_self (k : Nat → Nat) (i c : Nat) : setK k i c i = c := by simp [setK]
theorem setK_ne {k : Nat → Nat} {i c x : Nat} (h : ¬ x = i) : setK k i c x = k x := by simp [setK, h]
structure CS (g : List Nd) (k : Nat → Nat) (i : Nat) : Prop where
  clo : ∀ x, k x = 2 → ∀ t ∈ succN g x, k t = 2
  acy : ∀ x, k x = 2 → ¬ Pth g x x
  opn : ∀ y, k y = 1 → Pth g y i
structure CR (g : List Nd) (k k' : Nat → Nat) (i : Nat) : Prop where
  clo : ∀ x, k' x = 2 → ∀ t ∈ succN g x, k' t = 2
  acy : ∀ x, k' x = 2 → ¬ Pth g x x
  op : ∀ y, k' y = 1 ↔ k y = 1
  dn : ∀ y, k y = 2 → k' y = 2
  nz : ∀ y, k y ≠ 0 → k' y ≠ 0
  le : ∀ y, k' y ≤ 2
  me : k' i = 2
structure CL2 (g : List Nd) (k k2 : Nat → Nat) (i j : Nat) : Prop where
  clo : ∀ x, k2 x = 2 → ∀ t ∈ succN g x, k2 t = 2
  acy : ∀ x, k2 x = 2 → ¬ Pth g x x
  op : ∀ y, k2 y = 1 ↔ (y = i ∨ k y = 1)
  dn : ∀ y, k y = 2 → k2 y = 2
  nz : ∀ y, k y ≠ 0 → k2 y ≠ 0
  le : ∀ y, k2 y ≤ 2
  ln : ∀ t ∈ (succN g i).take j, k2 t = 2
theorem CS.old {g : List Nd} {k : Nat → Nat} {i : Nat} (h : CS g k i) (hl : ∀ y, k y ≤ 2) (h0 : ¬ k i = 0) (h1 : ¬ k i = 1) : CR g k k i :=
  ⟨h.clo, h.acy, fun _ => Iff.rfl, fun _ h => h, fun _ h => h, hl, by have := hl i; omega⟩
theorem CS.loop {g : List Nd} {k : Nat → Nat} {i : Nat} (h : CS g k i) (h1 : k i = 1) : Cyc g := ⟨i, h.opn i h1⟩
theorem CL2.enter {g : List Nd} {k k2 : Nat → Nat} {i j t : Nat} (h : CL2 g k k2 i j) (hs : CS g k i) (ht : t ∈ succN g i) : CS g k2 t :=
  ⟨h.clo, h.acy, fun y hy => by
    rcases (h.op y).1 hy with e | e
    · subst e; exact .one ht
    · exact .step (hs.opn y e) ht⟩
theorem CL2.next {g : List Nd} {k k2 k3 : Nat → Nat} {i j t : Nat} (h : CL2 g k k2 i j) (h3 : CR g k2 k3 t) (hj : (succN g i).take (j + 1) = (succN g i).take j ++ [t]) : CL2 g k k3 i (j + 1) :=
  ⟨h3.clo, h3.acy, fun y => (h3.op y).trans (h.op y), fun y hy => h3.dn y (h.dn y hy), fun y hy => h3.nz y (h.nz y hy), h3.le, fun t2 ht2 => by
    rw [hj] at ht2
    rcases List.mem_append.1 ht2 with h4 | h4
    · exact h3.dn _ (h.ln t2 h4)
    · rw [List.mem_singleton.1 h4]; exact h3.me⟩
theorem CL2.done {g : List Nd} {k k2 : Nat → Nat} {i j : Nat} (h : CL2 g k k2 i j) (h0 : k i = 0) (hj : (succN g i).take j = succN g i) : CR g k (setK k2 i 2) i := by
  have hln : ∀ t ∈ succN g i, k2 t = 2 := fun t ht => h.ln t (by rw [hj]; exact ht)
  have hi1 : k2 i = 1 := (h.op i).2 (.inl rfl)
  have hup : ∀ x, k2 x = 2 → setK k2 i 2 x = 2 := fun x hx => by unfold setK; split <;> first | rfl | exact hx
  have hdn : ∀ x, setK k2 i 2 x = 2 → x = i ∨ k2 x = 2 := fun x hx => by
    unfold setK at hx
    split at hx
    · exact .inl (by assumption)
    · exact .inr hx
  refine ⟨fun x hx t ht => ?_, fun x hx hp => ?_, fun y => ?_, fun y hy => hup y (h.dn y hy), fun y hy => ?_, fun y => ?_, setK_self _ _ _⟩
  · rcases hdn x hx with e | e
    · subst e; exact hup _ (hln t ht)
    · exact hup _ (h.clo x e t ht)
  · rcases hdn x hx with e | e
    · subst e
      have h2 : k2 x = 2 := by
        have key : ∀ u, Pth g x u → k2 u = 2 := fun u hu => by
          induction hu with
          | one h3 => exact hln _ h3
          | step _ h3 ih => exact h.clo _ ih _ h3
        exact key x hp
      omega
    · exact h.acy x e hp
  · by_cases e : y = i
    · subst e; rw [setK_self]; constructor
      · intro h3; cases h3
      · intro h3; omega
    · rw [setK_ne e, h.op y]
      exact ⟨fun h3 => h3.resolve_left e, .inr⟩
  · by_cases e : y = i
    · subst e; rw [setK_self]; decide
    · rw [setK_ne e]; exact h.nz y hy
  · by_cases e : y = i
    · subst e; rw [setK_self]; decide
    · rw [setK_ne e]; exact h.le y
inductive PK (g : List Nd) (k : Nat) : Nat → Nat → Prop
  | one {i t : Nat} (h : t ∈ succN g i) : PK g k i t
  | cat {i m t : Nat} (h : PK g k i m) (hm : m < k) (h2 : PK g k m t) : PK g k i t
theorem PK.cut {g : List Nd} {k a b : Nat} (h : PK g (k + 1) a b) : PK g k a b ∨ (PK g k a k ∧ PK g k k b) := by
  induction h with
  | one h => exact .inl (.one h)
  | cat h hm h2 ih1 ih2 =>
    rename_i i m t
    by_cases e : m = k
    · subst e
      refine .inr ⟨?_, ?_⟩
      · rcases ih1 with h | h
        · exact h
        · exact h.1
      · rcases ih2 with h | h
        · exact h
        · exact h.2
    · have hm' : m < k := by omega
      rcases ih1 with h1 | h1 <;> rcases ih2 with h3 | h3
      · exact .inl (.cat h1 hm' h3)
      · exact .inr ⟨.cat h1 hm' h3.1, h3.2⟩
      · exact .inr ⟨h1.1, .cat h1.2 hm' h3⟩
      · exact .inr ⟨h1.1, h3.2⟩
theorem PK.up {g : List Nd} {k a b : Nat} (h : PK g k a b) : PK g (k + 1) a b := by
  induction h with
  | one h => exact .one h
  | cat _ hm _ ih1 ih2 => exact .cat ih1 om ih2
theorem PK.all {g : List Nd} {a b : Nat} (h : Pth g a b) : PK g g.length a b := by
  induction h with
  | one h => exact .one h
  | step _ h2 ih => exact .cat ih (succ_lt h2) (.one h2)
structure WrS (g : List Nd) (R : Nat → Nat → Bool) (k i j : Nat) : Prop where
  snd : ∀ a b, R a b = true → Pth g a b
  old : ∀ a b, a < g.length → b < g.length → PK g k a b → R a b = true
  new : ∀ a b, a < g.length → b < g.length → (a < i ∨ (a = i ∧ b < j)) → PK g (k + 1) a b → R a b = true
structure W0 (g : List Nd) (R : Nat → Nat → Bool) (i j : Nat) : Prop where
  snd : ∀ a b, R a b = true → Pth g a b
  has : ∀ a t, a < i → t ∈ succN g a → R a t = true
  now : ∀ t ∈ (succN g i).take j, R i t = true
theorem W0.start (g : List Nd) : W0 g (fun _ _ => false) 0 0 := ⟨fun _ _ h => (by cases h), fun a t h => om, fun t h => (by simp at h)⟩
theorem W0.put {g : List Nd} {R : Nat → Nat → Bool} {i j t : Nat} (h : W0 g R i j) (ht : t ∈ succN g i) (hj : (succN g i).take (j + 1) = (succN g i).take j ++ [t]) : W0 g (fun a b => if a = i ∧ b = t then true else R a b) i (j + 1) := by
  refine ⟨fun a b hab => ?_, fun a u ha hu => ?_, fun u hu => ?_⟩
  · by_cases e : a = i ∧ b = t
    · rw [e.1, e.2]; exact .one ht
    · rw [if_neg e] at hab; exact h.snd a b hab
  · show (if _ then _ else _) = _
    split
    · rfl
    · exact h.has a u ha hu
  · show (if _ then _ else _) = _
    rw [hj] at hu
    rcases List.mem_append.1 hu with h4 | h4
    · split
      · rfl
      · exact h.now u h4
    · rw [if_pos ⟨rfl, List.mem_singleton.1 h4⟩]
theorem W0.row {g : List Nd} {R : Nat → Nat → Bool} {i j : Nat} (h : W0 g R i j) (hj : (succN g i).take j = succN g i) : W0 g R (i + 1) 0 :=
  ⟨h.snd, fun a t ha ht => by
    by_cases e : a = i
    · subst e; exact h.now t (by rw [hj]; exact ht)
    · exact h.has a t om ht, fun t ht => by simp at ht⟩
theorem W0.end_ {g : List Nd} {R : Nat → Nat → Bool} (h : W0 g R g.length 0) : WrS g R 0 0 0 :=
  ⟨h.snd, fun a b ha _ hp => by
    cases hp with
    | one h2 => exact h.has a b ha h2
    | cat _ hm _ => omega, fun a b _ _ hc => by omega⟩
theorem WrS.put {g : List Nd} {R : Nat → Nat → Bool} {k i j : Nat} (h : WrS g R k i j) (hk : k < g.length) : WrS g (fun a b => if a = i ∧ b = j then (R i j || R i k && R k j) else R a b) k i (j + 1) := by
  have up : ∀ a b, R a b = true → (if a = i ∧ b = j then (R i j || R i k && R k j) else R a b) = true := fun a b hab => by
    by_cases e : a = i ∧ b = j
    · rw [if_pos e, ← e.1, ← e.2, hab]; rfl
    · rw [if_neg e]; exact hab
  refine ⟨fun a b hab => ?_, fun a b ha hb hp => up a b (h.old a b ha hb hp), fun a b ha hb hc hp => ?_⟩
  · by_cases e : a = i ∧ b = j
    · rw [if_pos e] at hab
      rw [e.1, e.2]
      rcases (Bool.or_eq_true _ _).mp hab with h1 | h1
      · exact h.snd _ _ h1
      · rw [Bool.and_eq_true] at h1
        exact (h.snd _ _ h1.1).trans (h.snd _ _ h1.2)
    · rw [if_neg e] at hab; exact h.snd a b hab
  · by_cases e : a = i ∧ b = j
    · show (if _ then _ else _) = _
      rw [if_pos e]
      obtain ⟨rfl, rfl⟩ := e
      rcases hp.cut with h1 | ⟨h1, h2⟩
      · rw [h.old a b ha hb h1]; rfl
      · rw [h.old a k ha hk h1, h.old k b hk hb h2]; simp
    · exact up a b (h.new a b ha hb om hp)
theorem WrS.row {g : List Nd} {R : Nat → Nat → Bool} {k i : Nat} (h : WrS g R k i g.length) : WrS g R k (i + 1) 0 :=
  ⟨h.snd, h.old, fun a b ha hb hc hp => h.new a b ha hb om hp⟩
theorem WrS.yes {g : List Nd} {R : Nat → Nat → Bool} {k i j x : Nat} (h : WrS g R k i j) (hx : R x x = true) : Cyc g := ⟨x, h.snd x x hx⟩
theorem WrS.no {g : List Nd} {R : Nat → Nat → Bool} (h : WrS g R g.length 0 0) (hx : ∀ x, x < g.length → R x x = false) : ¬ Cyc g := fun ⟨x, hp⟩ => by
  have hl : ∀ {a b : Nat}, Pth g a b → a < g.length := fun h3 => by
    induction h3 with
    | one h => exact succ_lt h
    | step _ _ ih => exact ih
  have := h.old x x (hl hp) (hl hp) (PK.all hp)
  rw [hx x (hl hp)] at this
  cases this
end Go.Proofs.YtegngekpmpdngaaDoor
namespace Go.Proofs.YtegngekpmpdngaaDoor
open Go.RowKit
theorem nm_of {l : List Ty} {fs : List Ft} (h : (hierFault l fs).1 = 0) : (∀ i (hi : i < l.length), isName (l[i]).name = true) ∧ ∀ i (hi : i < fs.length), isName (fs[i]).name = true := by
  unfold hierFault at h
  by_cases h4 : 40 < fs.length
  · rw [if_pos h4] at h; cases h
  rw [if_neg h4] at h
  by_cases ht : (typesFault l).1 ≠ 0
  · rw [if_pos ht] at h; exact absurd h ht
  rw [if_neg ht] at h
  by_cases hu : (unmetF l).1 ≠ 0
  · rw [if_pos hu] at h; exact absurd h hu
  rw [if_neg hu] at h
  refine ⟨fun i hi => ?_, fun i hi => ?_⟩
  · have ht0 : (typesFault l).1 = 0 := Decidable.not_not.1 ht
    unfold typesFault at ht0
    by_cases hl : l.length = 0 ∨ 60 < l.length
    · rw [if_pos hl] at ht0; cases ht0
    rw [if_neg hl] at ht0
    have h1 := firstF_zero ht0 i (Nat.zero_le _) om
    by_cases hn : isName (l[i]).name = false
    · rw [ty10 l i hi hn] at h1; cases h1
    · simpa using hn
  · have h1 := firstF_zero h i (Nat.zero_le _) om
    by_cases hn : isName (fs[i]).name = false
    · rw [ft10 l.length fs i hi hn] at h1; cases h1
    · simpa using hn
theorem isName_len {s : ByteArray} (h : isName s = true) : s.data.toList.length ≤ 30 := by
  unfold isName at h
  simp only [Bool.and_eq_true, decide_eq_true_eq] at h
  have := h.1.1
  simpa using this
def allT (g : List Nd) : List Nat := (List.range g.length).flatMap (succN g)
def befT (g : List Nd) (i j : Nat) : List Nat := (List.range i).flatMap (succN g) ++ (succN g i).take j
theorem befT_zero (g : List Nd) (i : Nat) : befT g i 0 = (List.range i).flatMap (succN g) := by simp [befT]
theorem befT_put {g : List Nd} {i j t : Nat} (h : (succN g i).take (j + 1) = (succN g i).take j ++ [t]) : befT g i (j + 1) = befT g i j ++ [t] := by unfold befT; rw [h, List.append_assoc]
theorem befT_row {g : List Nd} {i j : Nat} (h : (succN g i).take j = succN g i) : befT g i j = befT g (i + 1) 0 := by
  unfold befT
  rw [h, List.range_succ, List.flatMap_append]; simp
theorem befT_all (g : List Nd) : befT g g.length 0 = allT g := befT_zero g g.length
def one0 (t : Nat) : Nat := if t = 0 then 1 else 0
def inc (g : List Nd) (t : Nat) : Nat := one0 t + (allT g).count t
def tgs (g : List Nd) (t : Nat) : Nat := if 1 < inc g t then (List.range (t + 1)).countP (fun x => decide (1 < inc g x)) else 0
def lastN (g : List Nd) (t : Nat) : Nat := (List.range t).countP (fun x => decide (1 < inc g x))
theorem last_yes {g : List Nd} {t : Nat} (h : 1 < inc g t) : lastN g (t + 1) = lastN g t + 1 ∧ tgs g t = lastN g t + 1 := by
  have e : lastN g (t + 1) = lastN g t + 1 := by unfold lastN; rw [List.range_succ, List.countP_append]; simp [h]
  refine ⟨e, ?_⟩
  unfold tgs
  rw [if_pos h]
  exact e
theorem last_no {g : List Nd} {t : Nat} (h : ¬ 1 < inc g t) : lastN g (t + 1) = lastN g t ∧ tgs g t = 0 := by
  refine ⟨?_, ?_⟩
  · unfold lastN; rw [List.range_succ, List.countP_append]; simp [h]
  · unfold tgs; rw [if_neg h]
theorem last_le (g : List Nd) (t : Nat) : lastN g t ≤ t := by
  unfold lastN
  have := List.countP_le_length (p := fun x => decide (1 < inc g x)) (l := List.range t)
  simpa using this
theorem tgs_le (g : List Nd) (t : Nat) : tgs g t ≤ t + 1 := by
  by_cases h : 1 < inc g t
  · rw [(last_yes h).2]; have := last_le g t; omega
  · rw [(last_no h).2]; omega
theorem tgs_pos {g : List Nd} {t : Nat} (h : 1 < inc g t) : 0 < tgs g t := by rw [(last_yes h).2]; omega
theorem two_count {xs : List Nat} {p q t : Nat} (hp : xs[p]? = some t) (hq : xs[q]? = some t) (h : p < q) : 2 ≤ xs.count t := by
  have hq' := (List.getElem?_eq_some_iff.1 hq).1
  rw [← List.take_append_drop q xs, List.count_append]
  have h1 : t ∈ xs.take q := List.mem_of_getElem? (i := p) (by rw [List.getElem?_take_of_lt h]; exact hp)
  have h2 : t ∈ xs.drop q := List.mem_of_getElem? (i := 0) (by rw [List.getElem?_drop]; exact hq)
  have := List.count_pos_iff.2 h1
  have := List.count_pos_iff.2 h2
  omega
def offN (g : List Nd) (i : Nat) : Nat := ((List.range i).flatMap (succN g)).length
theorem offN_succ (g : List Nd) (i : Nat) : offN g (i + 1) = offN g i + (succN g i).length := by
  unfold offN; rw [List.range_succ, List.flatMap_append]; simp
theorem offN_mono (g : List Nd) {i j : Nat} (h : i ≤ j) : offN g i ≤ offN g j := by
  induction h with
  | refl => exact Nat.le_refl _
  | step _ ih => rw [offN_succ]; omega
theorem all_at {g : List Nd} {i k t : Nat} (hi : i < g.length) (hk : (succN g i)[k]? = some t) : (allT g)[offN g i + k]? = some t := by
  have hkl := (List.getElem?_eq_some_iff.1 hk).1
  have e : allT g = (List.range i).flatMap (succN g) ++ (succN g i ++ ((List.range g.length).drop (i + 1)).flatMap (succN g)) := by
    unfold allT
    have h1 : List.range g.length = List.range i ++ i :: (List.range g.length).drop (i + 1) := by
      have h2 := (List.take_append_drop i (List.range g.length)).symm
      have h3 : (List.range g.length).take i = List.range i := by rw [List.take_range]; congr 1; omega
      have h4 : (List.range g.length).drop i = i :: (List.range g.length).drop (i + 1) := by
        rw [List.drop_eq_getElem_cons (by simpa using hi)]; simp
      rw [h3, h4] at h2; exact h2
    rw [h1, List.flatMap_append, List.flatMap_cons]
    have h5 : (List.range i ++ i :: (List.range g.length).drop (i + 1)).drop (i + 1) = (List.range g.length).drop (i + 1) := by rw [← h1]
    rw [h5]
  rw [e, List.getElem?_append_right (by unfold offN; omega)]
  unfold offN
  rw [show ((List.range i).flatMap (succN g)).length + k - ((List.range i).flatMap (succN g)).length = k by omega, List.getElem?_append_left hkl]
  exact hk
theorem link_two {g : List Nd} {i k i' k' t : Nat} (hi : i < g.length) (hi' : i' < g.length) (hk : (succN g i)[k]? = some t) (hk' : (succN g i')[k']? = some t) (hne : ¬ (i = i' ∧ k = k')) : 1 < inc g t := by
  have h1 := all_at hi hk
  have h2 := all_at hi' hk'
  have hkl := (List.getElem?_eq_some_iff.1 hk).1
  have hkl' := (List.getElem?_eq_some_iff.1 hk').1
  have hd : offN g i + k ≠ offN g i' + k' := fun e => by
    rcases Nat.lt_trichotomy i i' with h | h | h
    · have := offN_mono g (show i + 1 ≤ i' by omega)
      rw [offN_succ] at this; omega
    · subst h; exact hne ⟨rfl, by omega⟩
    · have := offN_mono g (show i' + 1 ≤ i by omega)
      rw [offN_succ] at this; omega
  unfold inc
  rcases Nat.lt_or_ge (offN g i + k) (offN g i' + k') with h | h
  · have := two_count h1 h2 h; omega
  · have := two_count h2 h1 om; omega
theorem link_root {g : List Nd} {i k : Nat} (hi : i < g.length) (hk : (succN g i)[k]? = some 0) : 1 < inc g 0 := by
  have h1 := List.count_pos_iff.2 (List.mem_of_getElem? (all_at hi hk))
  unfold inc one0
  rw [if_pos rfl]; omega
section wri
variable (l : List Ty) (fs : List Ft) (g : List Nd)
def nmB (i : Nat) : List UInt8 := (l.getD (nd g i).ty.toNat ⟨⟨#[]⟩, []⟩).name.data.toList
def ftB (f : Int) : List UInt8 := (ftAt fs f).name.data.toList
def tagB (t : Nat) : List UInt8 := 35 :: Lib.decDigits t
def sepB (j : Nat) : List UInt8 := if j = 0 then [40] else [44, 32]
def preB (t : Nat) : List UInt8 := if 0 < t then tagB t ++ [32] else []
def cloB (n : Nat) : List UInt8 := if 0 < n then [41] else []
abbrev Wr := (Nat → Bool) → Nat → List UInt8 × (Nat → Bool)
def lnAt (i j : Nat) : Int × Int := (nd g i).ln.getD j (0, 0)
def wL (f : Wr) (i : Nat) : Nat → (Nat → Bool) → List UInt8 × (Nat → Bool)
  | 0, sn => ([], sn)
  | j + 1, sn => ((wL f i j sn).1 ++ (sepB j ++ ftB fs (lnAt g i j).1 ++ [61] ++ (f (wL f i j sn).2 (lnAt g i j).2.toNat).1), (f (wL f i j sn).2 (lnAt g i j).2.toNat).2)
def wN : Nat → Wr
  | 0 => fun sn _ => ([], sn)
  | m + 1 => fun sn i => if 0 < tgs g i ∧ sn i = true then (tagB (tgs g i), sn) else (preB (tgs g i) ++ nmB l g i ++ (wL fs g (wN m) i (nd g i).ln.length (setB sn i)).1 ++ cloB (nd g i).ln.length, (wL fs g (wN m) i (nd g i).ln.length (setB sn i)).2)
def txtB : List UInt8 := (wN l fs g (g.length + 1) (fun _ => false) 0).1
end wri
structure KS (g : List Nd) (sn : Nat → Bool) (pr : Nat → Nat) : Prop where
  inn : ∀ t, sn t = true → t = 0 ∨ ∃ i k, i < g.length ∧ k < pr i ∧ (succN g i)[k]? = some t
  zer : ∀ i, sn i = false → pr i = 0
structure WI (g : List Nd) (sn : Nat → Bool) (pr : Nat → Nat) (t : Nat) : Prop where
  ks : KS g sn pr
  lk : t = 0 ∨ ∃ i k, i < g.length ∧ k < pr i ∧ (succN g i)[k]? = some t
  tg : sn t = true → 0 < tgs g t
theorem WI.start (g : List Nd) : WI g (fun _ => false) (fun _ => 0) 0 := ⟨⟨fun t h => (by cases h), fun _ _ => rfl⟩, .inl rfl, fun h => (by cases h)⟩
theorem digs_le {t : Nat} (h : t ≤ 61) : (Lib.decDigits t).length ≤ 2 := by
  by_cases h1 : t < 10
  · rw [Lib.decDigits_one h1]; exact Nat.le_succ 1
  · rw [Lib.decDigits_two h1 om]; exact Nat.le_refl _
theorem tagB_le {t : Nat} (h : t ≤ 61) : (tagB t).length ≤ 3 := by
  have := digs_le h
  unfold tagB; rw [List.length_cons]; omega
theorem preB_le {t : Nat} (h : t ≤ 61) : (preB t).length ≤ 4 := by
  have := tagB_le h
  unfold preB; split
  · rw [List.length_append]; simp only [List.length_cons, List.length_nil]; omega
  · exact Nat.zero_le _
structure GW (l : List Ty) (fs : List Ft) (g : List Nd) : Prop where
  le : g.length ≤ 60
  few : ∀ i, (nd g i).ln.length ≤ 40
  rng : ∀ i, i < g.length → ∀ t ∈ succN g i, t < g.length
  nm : ∀ i, (nmB l g i).length ≤ 30
  ft : ∀ i j, (ftB fs (lnAt g i j).1).length ≤ 30
theorem succ_at {g : List Nd} {i j : Nat} (hj : j < (nd g i).ln.length) : (succN g i)[j]? = some (lnAt g i j).2.toNat := by
  unfold succN lnAt
  rw [List.getElem?_map, List.getElem?_eq_getElem hj]
  simp [List.getD, hj]
structure LI (l : List Ty) (fs : List Ft) (g : List Nd) (m t j : Nat) (sn : Nat → Bool) (pr : Nat → Nat) : Prop where
  ks : ∃ pr', KS g (wL fs g (wN l fs g m) t j (setB sn t)).2 pr' ∧ pr' t = j ∧ (∀ i, sn i = true → pr' i = pr i)
  up : ∀ i, setB sn t i = true → (wL fs g (wN l fs g m) t j (setB sn t)).2 i = true
  le : (wL fs g (wN l fs g m) t j (setB sn t)).1.length + 2000 * lackN g.length (wL fs g (wN l fs g m) t j (setB sn t)).2 ≤ 37 * j + 2000 * lackN g.length (setB sn t)
theorem lack_up {n : Nat} {a b : Nat → Bool} (h : ∀ i, a i = true → b i = true) : lackN n b ≤ lackN n a := by
  unfold lackN
  refine List.countP_mono_left (fun x _ hx => ?_)
  simp only [Bool.not_eq_true'] at hx ⊢
  cases hb : a x with
  | false => rfl
  | true => rw [h x hb] at hx; cases hx
structure WOk (g : List Nd) (sn : Nat → Bool) (pr : Nat → Nat) (q : List UInt8 × (Nat → Bool)) : Prop where
  ks : ∃ pr', KS g q.2 pr' ∧ (∀ i, sn i = true → pr' i = pr i)
  up : ∀ i, sn i = true → q.2 i = true
  le : q.1.length + 2000 * lackN g.length q.2 ≤ 4 + 2000 * lackN g.length sn
theorem LI.child {l : List Ty} {fs : List Ft} {g : List Nd} {m t j : Nat} {sn : Nat → Bool} {pr : Nat → Nat} (h : LI l fs g m t j sn pr) (ht : t < g.length) (hs : sn t = false) (hj : j < (nd g t).ln.length) : ∃ pr1, WI g (wL fs g (wN l fs g m) t j (setB sn t)).2 pr1 (lnAt g t j).2.toNat ∧ pr1 t = j + 1 ∧ (∀ i, sn i = true → pr1 i = pr i) ∧ (lackN g.length sn < m + 1 → lackN g.length (wL fs g (wN l fs g m) t j (setB sn t)).2 < m) := by
  obtain ⟨pr', hk, hp, hold⟩ := h.ks
  have hst := h.up t (setB_self sn t)
  have hsa := succ_at hj
  refine ⟨fun x => if x = t then j + 1 else pr' x, ⟨⟨fun u hu => ?_, fun i hi => ?_⟩, .inr ⟨t, j, ht, by simp, hsa⟩, fun hu => ?_⟩, by simp, fun i hi => ?_, fun hl => ?_⟩
  · rcases hk.inn u hu with h1 | ⟨i, k, h1, h2, h3⟩
    · exact .inl h1
    · refine .inr ⟨i, k, h1, ?_, h3⟩
      by_cases e : i = t
      · subst e; simp only [if_true]; omega
      · simp only [if_neg e]; exact h2
  · have hne : ¬ i = t := fun e => by rw [e, hst] at hi; cases hi
    show (if i = t then j + 1 else pr' i) = 0
    rw [if_neg hne]; exact hk.zer i hi
  · rcases hk.inn _ hu with h1 | ⟨i, k, h1, h2, h3⟩
    · rw [h1] at hsa ⊢; exact tgs_pos (link_root ht hsa)
    · exact tgs_pos (link_two ht h1 hsa h3 (fun ⟨e1, e2⟩ => by subst e1; omega))
  · have hne : ¬ i = t := fun e => by rw [e, hs] at hi; cases hi
    show (if i = t then j + 1 else pr' i) = pr i
    rw [if_neg hne]; exact hold i hi
  · have h1 := lack_up (n := g.length) h.up
    have h2 := lack_set ht hs
    omega
theorem wN_both {l : List Ty} {fs : List Ft} {g : List Nd} (hg : GW l fs g) : ∀ m : Nat, (∀ (sn : Nat → Bool) (pr : Nat → Nat) (t : Nat), lackN g.length sn < m → t < g.length → WI g sn pr t → WOk g sn pr (wN l fs g m sn t)) ∧ ∀ (sn : Nat → Bool) (pr : Nat → Nat) (t : Nat), lackN g.length sn < m + 1 → t < g.length → WI g sn pr t → sn t = false → ∀ j, j ≤ (nd g t).ln.length → LI l fs g m t j sn pr := by
  intro m
  induction m with
  | zero =>
    refine ⟨fun sn pr t h => by omega, fun sn pr t hl ht hw hs j hj => ?_⟩
    have h2 := lack_set ht hs
    omega
  | succ m ih =>
    have hN : ∀ (sn : Nat → Bool) (pr : Nat → Nat) (t : Nat), lackN g.length sn < m + 1 → t < g.length → WI g sn pr t → WOk g sn pr (wN l fs g (m + 1) sn t) := by
      intro sn pr t hl ht hw
      have htg := tgs_le g t
      have h60 := hg.le
      by_cases hc : 0 < tgs g t ∧ sn t = true
      · have e : wN l fs g (m + 1) sn t = (tagB (tgs g t), sn) := by show (if _ then _ else _) = _; rw [if_pos hc]
        rw [e]
        refine ⟨⟨pr, hw.ks, fun _ _ => rfl⟩, fun _ h => h, ?_⟩
        have := tagB_le (t := tgs g t) om
        show (tagB (tgs g t)).length + 2000 * lackN g.length sn ≤ _
        omega
      · have hs : sn t = false := by
          cases hq : sn t with
          | false => rfl
          | true => exact absurd ⟨hw.tg hq, hq⟩ hc
        have e : wN l fs g (m + 1) sn t = (preB (tgs g t) ++ nmB l g t ++ (wL fs g (wN l fs g m) t (nd g t).ln.length (setB sn t)).1 ++ cloB (nd g t).ln.length, (wL fs g (wN l fs g m) t (nd g t).ln.length (setB sn t)).2) := by
          show (if _ then _ else _) = _; rw [if_neg hc]
        have hL := ih.2 sn pr t hl ht hw hs _ (Nat.le_refl _)
        rw [e]
        refine ⟨?_, fun i hi => hL.up i (setB_mono hi), ?_⟩
        · obtain ⟨pr', h1, _, h3⟩ := hL.ks
          exact ⟨pr', h1, h3⟩
        · have h1 := hL.le
          have h2 := lack_set ht hs
          have h3 := preB_le (t := tgs g t) om
          have h4 := hg.nm t
          have h5 := hg.few t
          have h6 : (cloB (nd g t).ln.length).length ≤ 1 := by unfold cloB; split <;> simp
          simp only [List.length_append]
          omega
    refine ⟨hN, fun sn pr t hl ht hw hs j => ?_⟩
    induction j with
    | zero =>
      intro _
      refine ⟨⟨pr, ⟨fun u hu => ?_, fun i hi => ?_⟩, hw.ks.zer t hs, fun _ _ => rfl⟩, fun _ h => h, ?_⟩
      · rcases setB_cases hu with h | h
        · rw [h]; exact hw.lk
        · exact hw.ks.inn u h
      · cases hq : sn i with
        | false => exact hw.ks.zer i hq
        | true => have h : setB sn t i = false := hi
                  rw [setB_mono hq] at h; cases h
      · show 0 + 2000 * lackN g.length (setB sn t) ≤ _
        omega
    | succ j ihj =>
      intro hj
      have hL := ihj om
      obtain ⟨pr1, hw1, hp1, ho1, hl1⟩ := hL.child ht hs om
      have hsa := succ_at (g := g) (i := t) (j := j) om
      have hu : (lnAt g t j).2.toNat < g.length := hg.rng t ht _ (List.mem_of_getElem? hsa)
      have hq := hN _ pr1 _ (hl1 hl) hu hw1
      refine ⟨?_, fun i hi => hq.up i (hL.up i hi), ?_⟩
      · obtain ⟨pr2, h1, h2⟩ := hq.ks
        refine ⟨pr2, h1, (h2 t (hL.up t (setB_self sn t))).trans hp1, fun i hi => (h2 i (hL.up i (setB_mono hi))).trans (ho1 i hi)⟩
      · have h1 := hq.le
        have h2 := hL.le
        have h3 := hg.ft t j
        have h4 : (sepB j).length ≤ 2 := by unfold sepB; split <;> simp
        show List.length ((wL fs g (wN l fs g (m + 1)) t j (setB sn t)).1 ++ (sepB j ++ ftB fs (lnAt g t j).1 ++ [61] ++ (wN l fs g (m + 1) (wL fs g (wN l fs g (m + 1)) t j (setB sn t)).2 (lnAt g t j).2.toNat).1)) + 2000 * lackN g.length (wN l fs g (m + 1) (wL fs g (wN l fs g (m + 1)) t j (setB sn t)).2 (lnAt g t j).2.toNat).2 ≤ _
        simp only [List.length_append, List.length_cons, List.length_nil]
        omega
end Go.Proofs.YtegngekpmpdngaaDoor
