/- Circles in a graph: the search with three colours, and the closure by Warshall, both tell whether a node reaches itself; and the paths of a graph. No program in sight. Paths, as they lie in a world. No program in sight. What these functions of the program compute, at every world: glosswright/graph.Cyclic$1. -/
import Derived.Test.YtegngekpmpdngaaDoorCanon
import Derived.Test.YtegngekpmpdngaaDoorEng2
import Derived.Test.YtegngekpmpdngaaDoorU
import Derived.Test.YtegngekpmpdngaaDoorGVal
namespace Go.Proofs.YtegngekpmpdngaaDoor
open Go.RowKit
inductive Pth (g : List Nd) : Nat → Nat → Prop
  | one {i t : Nat} (h : t ∈ succN g i) : Pth g i t
  | step {i t u : Nat} (h : Pth g i t) (h2 : u ∈ succN g t) : Pth g i u
theorem Pth.trans {g : List Nd} {i t u : Nat} (h : Pth g i t) (k : Pth g t u) : Pth g i u := by
  induction k with
  | one h2 => exact .step h h2
  | step _ h2 ih => exact .step ih h2
def Cyc (g : List Nd) : Prop := ∃ x, Pth g x x
noncomputable def cycB (g : List Nd) : Bool := @decide (Cyc g) (Classical.propDecidable _)
theorem cycB_yes {g : List Nd} (h : Cyc g) : true = cycB g := (@decide_eq_true _ (Classical.propDecidable _) h).symm
theorem cycB_no {g : List Nd} (h : ¬ Cyc g) : false = cycB g := (@decide_eq_false _ (Classical.propDecidable _) h).symm
theorem succ_lt {g : List Nd} {i t : Nat} (h : t ∈ succN g i) : i < g.length := by
  refine Classical.byContradiction (fun hc => ?_)
  have e : nd g i = ⟨0, []⟩ := by simp [nd, List.getD, List.getElem?_eq_none (Nat.le_of_not_lt hc)]
  unfold succN at h
  rw [e] at h
  cases h
def setK (k : Nat → Nat) (i c x : Nat) : Nat := if x = i then c else k x
theorem setK_self (k : Nat → Nat) (i c : Nat) : setK k i c i = c := by simp [setK]
theorem setK_ne {k : Nat → Nat} {i c x : Nat} (h : ¬ x = i) : setK k i c x = k x := by simp [setK, h]
structure CS (g : List Nd) (k : Nat → Nat) (i : Nat) : Prop where
  clo : ∀ x, k x = 2 → ∀ t ∈ succN g x, k t = 2
  acy : ∀ x, k x = 2 → ¬ Pth g x x
  opn : ∀ y, k y = 1 → Pth g y i
structure CR (g : List Nd) (k k' : Nat → Nat) (i : Nat) : Prop where
  clo : ∀ x, k' x = 2 → ∀ t ∈ succN g x, k' t = 2
  acy : ∀ x, k' x = 2 → ¬ Pth g x x
  op : ∀ y, k' y = 1 ↔ k y = 1
  dn : ∀ y, k y = 2 → k' y = 2
  nz : ∀ y, k y ≠ 0 → k' y ≠ 0
  le : ∀ y, k' y ≤ 2
  me : k' i = 2
structure CL2 (g : List Nd) (k k2 : Nat → Nat) (i j : Nat) : Prop where
  clo : ∀ x, k2 x = 2 → ∀ t ∈ succN g x, k2 t = 2
  acy : ∀ x, k2 x = 2 → ¬ Pth g x x
  op : ∀ y, k2 y = 1 ↔ (y = i ∨ k y = 1)
  dn : ∀ y, k y = 2 → k2 y = 2
  nz : ∀ y, k y ≠ 0 → k2 y ≠ 0
  le : ∀ y, k2 y ≤ 2
  ln : ∀ t ∈ (succN g i).take j, k2 t = 2
theorem CS.old {g : List Nd} {k : Nat → Nat} {i : Nat} (h : CS g k i) (hl : ∀ y, k y ≤ 2) (h0 : ¬ k i = 0) (h1 : ¬ k i = 1) : CR g k k i :=
  ⟨h.clo, h.acy, fun _ => Iff.rfl, fun _ h => h, fun _ h => h, hl, by have := hl i; omega⟩
theorem CS.loop {g : List Nd} {k : Nat → Nat} {i : Nat} (h : CS g k i) (h1 : k i = 1) : Cyc g := ⟨i, h.opn i h1⟩
theorem CS.open_ {g : List Nd} {k : Nat → Nat} {i : Nat} (h : CS g k i) (hl : ∀ y, k y ≤ 2) (h0 : k i = 0) : CL2 g k (setK k i 1) i 0 := by
  have hne : ∀ x, setK k i 1 x = 2 → k x = 2 := fun x hx => by
    unfold setK at hx
    split at hx
    · cases hx
    · exact hx
  have hup : ∀ x, k x = 2 → setK k i 1 x = 2 := fun x hx => by
    rw [setK_ne (fun e => by rw [e] at hx; omega)]; exact hx
  refine ⟨fun x hx t ht => hup t (h.clo x (hne x hx) t ht), fun x hx => h.acy x (hne x hx), fun y => ?_, hup, fun y hy => ?_, fun y => ?_, fun t ht => by simp at ht⟩
  · unfold setK
    by_cases e : y = i
    · simp [e]
    · simp [e]
  · unfold setK; split
    · omega
    · exact hy
  · unfold setK; split
    · omega
    · exact hl y
theorem CL2.enter {g : List Nd} {k k2 : Nat → Nat} {i j t : Nat} (h : CL2 g k k2 i j) (hs : CS g k i) (ht : t ∈ succN g i) : CS g k2 t :=
  ⟨h.clo, h.acy, fun y hy => by
    rcases (h.op y).1 hy with e | e
    · subst e; exact .one ht
    · exact .step (hs.opn y e) ht⟩
theorem CL2.next {g : List Nd} {k k2 k3 : Nat → Nat} {i j t : Nat} (h : CL2 g k k2 i j) (h3 : CR g k2 k3 t) (hj : (succN g i).take (j + 1) = (succN g i).take j ++ [t]) : CL2 g k k3 i (j + 1) :=
  ⟨h3.clo, h3.acy, fun y => (h3.op y).trans (h.op y), fun y hy => h3.dn y (h.dn y hy), fun y hy => h3.nz y (h.nz y hy), h3.le, fun t2 ht2 => by
    rw [hj] at ht2
    rcases List.mem_append.1 ht2 with h4 | h4
    · exact h3.dn _ (h.ln t2 h4)
    · rw [List.mem_singleton.1 h4]; exact h3.me⟩
theorem CL2.done {g : List Nd} {k k2 : Nat → Nat} {i j : Nat} (h : CL2 g k k2 i j) (h0 : k i = 0) (hj : (succN g i).take j = succN g i) : CR g k (setK k2 i 2) i := by
  have hln : ∀ t ∈ succN g i, k2 t = 2 := fun t ht => h.ln t (by rw [hj]; exact ht)
  have hi1 : k2 i = 1 := (h.op i).2 (.inl rfl)
  have hup : ∀ x, k2 x = 2 → setK k2 i 2 x = 2 := fun x hx => by unfold setK; split <;> first | rfl | exact hx
  have hdn : ∀ x, setK k2 i 2 x = 2 → x = i ∨ k2 x = 2 := fun x hx => by
    unfold setK at hx
    split at hx
    · exact .inl (by assumption)
    · exact .inr hx
  refine ⟨fun x hx t ht => ?_, fun x hx hp => ?_, fun y => ?_, fun y hy => hup y (h.dn y hy), fun y hy => ?_, fun y => ?_, setK_self _ _ _⟩
  · rcases hdn x hx with e | e
    · subst e; exact hup _ (hln t ht)
    · exact hup _ (h.clo x e t ht)
  · rcases hdn x hx with e | e
    · subst e
      have h2 : k2 x = 2 := by
        have key : ∀ u, Pth g x u → k2 u = 2 := fun u hu => by
          induction hu with
          | one h3 => exact hln _ h3
          | step _ h3 ih => exact h.clo _ ih _ h3
        exact key x hp
      omega
    · exact h.acy x e hp
  · by_cases e : y = i
    · subst e; rw [setK_self]; constructor
      · intro h3; cases h3
      · intro h3; omega
    · rw [setK_ne e, h.op y]
      exact ⟨fun h3 => h3.resolve_left e, .inr⟩
  · by_cases e : y = i
    · subst e; rw [setK_self]; decide
    · rw [setK_ne e]; exact h.nz y hy
  · by_cases e : y = i
    · subst e; rw [setK_self]; decide
    · rw [setK_ne e]; exact h.le y
def memK (k : Nat → Nat) (x : Nat) : Bool := decide (k x ≠ 0)
theorem lackK_open {n i : Nat} {k : Nat → Nat} (hi : i < n) (h : k i = 0) : lackN n (memK (setK k i 1)) < lackN n (memK k) := by
  have e : memK (setK k i 1) = setB (memK k) i := by
    funext x
    unfold memK setB setK
    by_cases e : x = i <;> simp [e]
  rw [e]
  exact lack_set hi (by simp [memK, h])
theorem lackK_le {n : Nat} {k k' : Nat → Nat} (h : ∀ y, k y ≠ 0 → k' y ≠ 0) : lackN n (memK k') ≤ lackN n (memK k) := by
  unfold lackN
  refine List.countP_mono_left (fun x _ hx => ?_)
  simp only [memK, Bool.not_eq_true', decide_eq_false_iff_not] at hx ⊢
  exact fun h2 => hx (h x h2)
theorem cyc_no {g : List Nd} {k' : Nat → Nat} (h : CR g (fun _ => 0) k' 0) (hr : ∀ x, x < g.length → Rch g x) : ¬ Cyc g := fun ⟨x, hx⟩ => by
  have hl : x < g.length := by
    cases hx with
    | one h => exact succ_lt h
    | step h1 h2 =>
      have : ∀ {a b : Nat}, Pth g a b → a < g.length := fun h3 => by
        induction h3 with
        | one h => exact succ_lt h
        | step _ _ ih => exact ih
      exact this h1
  have key : ∀ y, Rch g y → k' y = 2 := fun y hy => by
    induction hy with
    | zero => exact h.me
    | step h1 h2 h3 ih =>
      refine h.clo _ ih _ ?_
      unfold succN
      rw [nd_eq h2]
      exact List.mem_map.2 ⟨_, h3, rfl⟩
  exact h.acy x (key x (hr x hl)) hx
theorem cs_start (g : List Nd) : CS g (fun _ => 0) 0 := ⟨fun x hx => (by cases hx), fun x hx => (by cases hx), fun y hy => (by cases hy)⟩
inductive PK (g : List Nd) (k : Nat) : Nat → Nat → Prop
  | one {i t : Nat} (h : t ∈ succN g i) : PK g k i t
  | cat {i m t : Nat} (h : PK g k i m) (hm : m < k) (h2 : PK g k m t) : PK g k i t
theorem PK.cut {g : List Nd} {k a b : Nat} (h : PK g (k + 1) a b) : PK g k a b ∨ (PK g k a k ∧ PK g k k b) := by
  induction h with
  | one h => exact .inl (.one h)
  | cat h hm h2 ih1 ih2 =>
    rename_i i m t
    by_cases e : m = k
    · subst e
      refine .inr ⟨?_, ?_⟩
      · rcases ih1 with h | h
        · exact h
        · exact h.1
      · rcases ih2 with h | h
        · exact h
        · exact h.2
    · have hm' : m < k := by omega
      rcases ih1 with h1 | h1 <;> rcases ih2 with h3 | h3
      · exact .inl (.cat h1 hm' h3)
      · exact .inr ⟨.cat h1 hm' h3.1, h3.2⟩
      · exact .inr ⟨h1.1, .cat h1.2 hm' h3⟩
      · exact .inr ⟨h1.1, h3.2⟩
theorem PK.up {g : List Nd} {k a b : Nat} (h : PK g k a b) : PK g (k + 1) a b := by
  induction h with
  | one h => exact .one h
  | cat _ hm _ ih1 ih2 => exact .cat ih1 om ih2
theorem PK.all {g : List Nd} {a b : Nat} (h : Pth g a b) : PK g g.length a b := by
  induction h with
  | one h => exact .one h
  | step _ h2 ih => exact .cat ih (succ_lt h2) (.one h2)
structure WrS (g : List Nd) (R : Nat → Nat → Bool) (k i j : Nat) : Prop where
  snd : ∀ a b, R a b = true → Pth g a b
  old : ∀ a b, a < g.length → b < g.length → PK g k a b → R a b = true
  new : ∀ a b, a < g.length → b < g.length → (a < i ∨ (a = i ∧ b < j)) → PK g (k + 1) a b → R a b = true
structure W0 (g : List Nd) (R : Nat → Nat → Bool) (i j : Nat) : Prop where
  snd : ∀ a b, R a b = true → Pth g a b
  has : ∀ a t, a < i → t ∈ succN g a → R a t = true
  now : ∀ t ∈ (succN g i).take j, R i t = true
theorem W0.start (g : List Nd) : W0 g (fun _ _ => false) 0 0 := ⟨fun _ _ h => (by cases h), fun a t h => om, fun t h => (by simp at h)⟩
theorem W0.put {g : List Nd} {R : Nat → Nat → Bool} {i j t : Nat} (h : W0 g R i j) (ht : t ∈ succN g i) (hj : (succN g i).take (j + 1) = (succN g i).take j ++ [t]) : W0 g (fun a b => if a = i ∧ b = t then true else R a b) i (j + 1) := by
  refine ⟨fun a b hab => ?_, fun a u ha hu => ?_, fun u hu => ?_⟩
  · by_cases e : a = i ∧ b = t
    · rw [e.1, e.2]; exact .one ht
    · rw [if_neg e] at hab; exact h.snd a b hab
  · show (if _ then _ else _) = _
    split
    · rfl
    · exact h.has a u ha hu
  · show (if _ then _ else _) = _
    rw [hj] at hu
    rcases List.mem_append.1 hu with h4 | h4
    · split
      · rfl
      · exact h.now u h4
    · rw [if_pos ⟨rfl, List.mem_singleton.1 h4⟩]
theorem W0.row {g : List Nd} {R : Nat → Nat → Bool} {i j : Nat} (h : W0 g R i j) (hj : (succN g i).take j = succN g i) : W0 g R (i + 1) 0 :=
  ⟨h.snd, fun a t ha ht => by
    by_cases e : a = i
    · subst e; exact h.now t (by rw [hj]; exact ht)
    · exact h.has a t om ht, fun t ht => by simp at ht⟩
theorem W0.end_ {g : List Nd} {R : Nat → Nat → Bool} (h : W0 g R g.length 0) : WrS g R 0 0 0 :=
  ⟨h.snd, fun a b ha _ hp => by
    cases hp with
    | one h2 => exact h.has a b ha h2
    | cat _ hm _ => omega, fun a b _ _ hc => by omega⟩
theorem WrS.put {g : List Nd} {R : Nat → Nat → Bool} {k i j : Nat} (h : WrS g R k i j) (hk : k < g.length) : WrS g (fun a b => if a = i ∧ b = j then (R i j || R i k && R k j) else R a b) k i (j + 1) := by
  have up : ∀ a b, R a b = true → (if a = i ∧ b = j then (R i j || R i k && R k j) else R a b) = true := fun a b hab => by
    by_cases e : a = i ∧ b = j
    · rw [if_pos e, ← e.1, ← e.2, hab]; rfl
    · rw [if_neg e]; exact hab
  refine ⟨fun a b hab => ?_, fun a b ha hb hp => up a b (h.old a b ha hb hp), fun a b ha hb hc hp => ?_⟩
  · by_cases e : a = i ∧ b = j
    · rw [if_pos e] at hab
      rw [e.1, e.2]
      rcases (Bool.or_eq_true _ _).mp hab with h1 | h1
      · exact h.snd _ _ h1
      · rw [Bool.and_eq_true] at h1
        exact (h.snd _ _ h1.1).trans (h.snd _ _ h1.2)
    · rw [if_neg e] at hab; exact h.snd a b hab
  · by_cases e : a = i ∧ b = j
    · show (if _ then _ else _) = _
      rw [if_pos e]
      obtain ⟨rfl, rfl⟩ := e
      rcases hp.cut with h1 | ⟨h1, h2⟩
      · rw [h.old a b ha hb h1]; rfl
      · rw [h.old a k ha hk h1, h.old k b hk hb h2]; simp
    · exact up a b (h.new a b ha hb om hp)
theorem WrS.row {g : List Nd} {R : Nat → Nat → Bool} {k i : Nat} (h : WrS g R k i g.length) : WrS g R k (i + 1) 0 :=
  ⟨h.snd, h.old, fun a b ha hb hc hp => h.new a b ha hb om hp⟩
theorem WrS.stage {g : List Nd} {R : Nat → Nat → Bool} {k : Nat} (h : WrS g R k g.length 0) : WrS g R (k + 1) 0 0 :=
  ⟨h.snd, fun a b ha hb hp => h.new a b ha hb (.inl ha) hp, fun a b _ _ hc => by omega⟩
theorem WrS.yes {g : List Nd} {R : Nat → Nat → Bool} {k i j x : Nat} (h : WrS g R k i j) (hx : R x x = true) : Cyc g := ⟨x, h.snd x x hx⟩
theorem WrS.no {g : List Nd} {R : Nat → Nat → Bool} (h : WrS g R g.length 0 0) (hx : ∀ x, x < g.length → R x x = false) : ¬ Cyc g := fun ⟨x, hp⟩ => by
  have hl : ∀ {a b : Nat}, Pth g a b → a < g.length := fun h3 => by
    induction h3 with
    | one h => exact succ_lt h
    | step _ _ ih => exact ih
  have := h.old x x (hl hp) (hl hp) (PK.all hp)
  rw [hx x (hl hp)] at this
  cases this
def pthsN (g : List Nd) : Nat → Nat → List (List Int)
  | 0, _ => [[]]
  | m + 1, at_ => [] :: (nd g at_).ln.flatMap (fun x => (pthsN g m x.2.toNat).map (fun p => x.1 :: p))
theorem pthsN_succ (g : List Nd) (m a : Nat) : pthsN g (m + 1) a = [] :: (nd g a).ln.flatMap (fun x => (pthsN g m x.2.toNat).map (fun p => x.1 :: p)) := rfl
def pthsJ (g : List Nd) (m at_ j : Nat) : List (List Int) := [] :: ((nd g at_).ln.take j).flatMap (fun x => (pthsN g m x.2.toNat).map (fun p => x.1 :: p))
theorem pthsJ_zero (g : List Nd) (m a : Nat) : pthsJ g m a 0 = [[]] := rfl
theorem pthsJ_succ {g : List Nd} {m a j : Nat} (hj : j < (nd g a).ln.length) : pthsJ g m a (j + 1) = pthsJ g m a j ++ (pthsN g m ((nd g a).ln[j]).2.toNat).map (fun p => ((nd g a).ln[j]).1 :: p) := by
  unfold pthsJ
  rw [List.take_add_one, List.getElem?_eq_getElem hj, List.flatMap_append]
  simp
theorem pthsJ_all {g : List Nd} {m a j : Nat} (hj : (nd g a).ln.length ≤ j) : pthsJ g m a j = pthsN g (m + 1) a := by
  rw [pthsN_succ]; unfold pthsJ
  rw [List.take_of_length_le hj]
theorem pthsJ_le (g : List Nd) (m a j : Nat) : (pthsJ g m a j).length ≤ (pthsN g (m + 1) a).length := by
  rw [pthsN_succ]; unfold pthsJ
  have h : ((nd g a).ln.take j).flatMap (fun x => (pthsN g m x.2.toNat).map (fun p => x.1 :: p)) ++ ((nd g a).ln.drop j).flatMap (fun x => (pthsN g m x.2.toNat).map (fun p => x.1 :: p)) = (nd g a).ln.flatMap (fun x => (pthsN g m x.2.toNat).map (fun p => x.1 :: p)) := by
    rw [← List.flatMap_append, List.take_append_drop]
  rw [List.length_cons, List.length_cons, ← h, List.length_append]
  omega
theorem pthsN_pos (g : List Nd) (m a : Nat) : 0 < (pthsN g m a).length := by
  cases m <;> simp [pthsN]
theorem take_snocP {α : Type} {xs ys : List α} {n k : Nat} (hk : k < ys.length) (hl : (xs ++ ys.take k).length < n) : (xs ++ ys.take (k + 1)).take n = (xs ++ ys.take k).take n ++ [ys[k]] := by
  have e : ys.take (k + 1) = ys.take k ++ [ys[k]] := by rw [List.take_add_one, List.getElem?_eq_getElem hk]; rfl
  rw [e, ← List.append_assoc, List.take_of_length_le (l := xs ++ ys.take k) om, List.take_of_length_le]
  rw [List.length_append]
  simp only [List.length_cons, List.length_nil]
  omega
theorem take_fullP {α : Type} {xs ys : List α} {n : Nat} (h : n ≤ xs.length) : (xs ++ ys).take n = xs.take n := by
  rw [List.take_append_of_le_length h]
end Go.Proofs.YtegngekpmpdngaaDoor
namespace Go.Proofs.YtegngekpmpdngaaDoor
open Go.RowKit
def PthIn (lo : Nat) (w : World) (A : Option Addr) (xs : List Int) : Prop := xs.length ≤ 1000 ∧ ((A = none ∧ xs = []) ∨ (xs ≠ [] ∧ ∃ g cs, A = some ⟨g, 0, none⟩ ∧ lo ≤ g ∧ Blk w g 3 cs ∧ cs.toList.take xs.length = iV xs))
theorem PthIn.nil (lo : Nat) (w : World) : PthIn lo w none [] := ⟨Nat.zero_le _, .inl ⟨rfl, rfl⟩⟩
theorem PthIn.tr {lo : Nat} {w w' : World} {A : Option Addr} {xs : List Int} {X : List Nat} (h : PthIn lo w A xs) (hs : Same X w w') (hx : ∀ g ∈ X, ∃ cs t, Blk w g t cs ∧ t ≠ 3) : PthIn lo w' A xs := by
  refine ⟨h.1, h.2.imp id (fun ⟨hn, g, cs, e, hlo, hb, ht⟩ => ⟨hn, g, cs, e, hlo, hb.tr hs (fun hm => ?_), ht⟩)⟩
  obtain ⟨cs2, t, hb2, hne⟩ := hx g hm
  exact hne (blk_type hb2 hb)
theorem PthIn.chG {lo : Nat} {w w' : World} {A : Option Addr} {xs : List Int} {Z : Nat → Prop} (h : PthIn lo w A xs) (hc : ChG Z w w') (hz : ∀ g, Z g → ∃ cs t, Blk w g t cs ∧ t ≠ 3) : PthIn lo w' A xs := by
  refine ⟨h.1, h.2.imp id (fun ⟨hn, g, cs, e, hlo, hb, ht⟩ => ⟨hn, g, cs, e, hlo, hb.chG hc (fun hm => ?_), ht⟩)⟩
  obtain ⟨cs2, t, hb2, hne⟩ := hz g hm
  exact hne (blk_type hb2 hb)
theorem PthIn.cell {lo : Nat} {w : World} {A : Option Addr} {xs : List Int} (h : PthIn lo w A xs) (hn : xs ≠ []) : ∃ g, A = some ⟨g, 0, none⟩ ∧ g < w.heap.size ∧ ∀ j v, (iV xs)[j]? = some v → w.cell? ⟨g, j, none⟩ = some v := by
  rcases h.2 with ⟨_, e⟩ | ⟨_, g, cs, e, _, hb, ht⟩
  · exact absurd e hn
  · refine ⟨g, e, hb.lt, fun j v hj => hb.cell ?_⟩
    rw [← ht] at hj
    have hj2 := (List.getElem?_eq_some_iff.1 hj).1
    rw [List.length_take] at hj2
    rw [List.getElem?_take_of_lt om, Array.getElem?_toList] at hj
    exact hj
theorem PthIn.ints {lo : Nat} {w : World} {A : Option Addr} {xs : List Int} (h : PthIn lo w A xs) : IntsIn w A xs := by
  have := h.1
  refine ⟨by unfold maxI; omega, fun hn => ?_⟩
  obtain ⟨g, e, hl, hc⟩ := h.cell hn
  refine ⟨g, 0, e, hl, fun k hk => ?_⟩
  rw [Nat.zero_add, Nat.mul_one]
  exact hc k (.int .i64 xs[k]) (by simp [iV, hk])
theorem own_pth {w : World} {base cap : Nat} {A : Option Addr} {xs : List Int} (h : Own w base 3 1 A xs.length cap (iV xs)) (hn : xs ≠ []) (hl : xs.length ≤ 1000) : PthIn base w A xs := by
  obtain ⟨g, cur, e, hlo, hb, _, _, ht⟩ := h.whole (List.length_pos_iff.2 hn)
  rw [Nat.mul_one] at ht
  exact ⟨hl, .inr ⟨hn, g, cur, e, hlo, hb, ht⟩⟩
def RowsI (lo : Nat) (w : World) (ps : List (List Int)) (vs : List Value) : Prop := vs.length = ps.length ∧ ∀ k (hk : k < ps.length), ∃ A c, vs[k]? = some (.slice A (ps[k]).length c) ∧ PthIn lo w A ps[k]
theorem RowsI.nil (lo : Nat) (w : World) : RowsI lo w [] [] := ⟨rfl, fun k hk => by simp at hk⟩
theorem RowsI.tr {lo : Nat} {w w' : World} {ps : List (List Int)} {vs : List Value} {X : List Nat} (h : RowsI lo w ps vs) (hs : Same X w w') (hx : ∀ g ∈ X, ∃ cs t, Blk w g t cs ∧ t ≠ 3) : RowsI lo w' ps vs :=
  ⟨h.1, fun k hk => by obtain ⟨A, c, e, hp⟩ := h.2 k hk; exact ⟨A, c, e, hp.tr hs hx⟩⟩
theorem RowsI.chG {lo : Nat} {w w' : World} {ps : List (List Int)} {vs : List Value} {Z : Nat → Prop} (h : RowsI lo w ps vs) (hc : ChG Z w w') (hz : ∀ g, Z g → ∃ cs t, Blk w g t cs ∧ t ≠ 3) : RowsI lo w' ps vs :=
  ⟨h.1, fun k hk => by obtain ⟨A, c, e, hp⟩ := h.2 k hk; exact ⟨A, c, e, hp.chG hc hz⟩⟩
theorem RowsI.snoc {lo : Nat} {w : World} {ps : List (List Int)} {vs : List Value} {p : List Int} {A : Option Addr} {c : Nat} (h : RowsI lo w ps vs) (hp : PthIn lo w A p) : RowsI lo w (ps ++ [p]) (vs ++ [.slice A p.length c]) := by
  have h1 := h.1
  refine ⟨by simp [h1], fun k hk => ?_⟩
  by_cases e : k < ps.length
  · obtain ⟨A2, c2, e2, hp2⟩ := h.2 k e
    refine ⟨A2, c2, ?_, ?_⟩
    · rw [List.getElem?_append_left om, List.getElem_append_left e]; exact e2
    · rw [List.getElem_append_left e]; exact hp2
  · have e2 : k = ps.length := by simp at hk; omega
    subst e2
    refine ⟨A, c, ?_, ?_⟩
    · rw [List.getElem?_append_right om, h1]; simp
    · simpa using hp
theorem out_mat {lo : Nat} {w : World} {base cap : Nat} {A : Option Addr} {ps : List (List Int)} {vs : List Value} (ho : Own w base 43 1 A ps.length cap vs) (h : RowsI lo w ps vs) (hl : ps.length ≤ 1000) : MatIn w A ps := by
  refine ⟨by unfold maxI; omega, fun hn => ?_⟩
  have hv : vs ≠ [] := fun e => hn (List.length_eq_zero_iff.1 (by rw [← h.1, e]; rfl))
  obtain ⟨g, e, _, hlt, hc⟩ := ho.cell hv
  refine ⟨g, 0, e, hlt, fun k hk => ?_⟩
  obtain ⟨A', c, e2, hp⟩ := h.2 k hk
  exact ⟨A', c, by rw [Nat.zero_add, Nat.mul_one]; exact hc k _ e2, hp.ints⟩
theorem PthIn.fr {lo lo' : Nat} {w w' : World} {A : Option Addr} {xs : List Int} (h : PthIn lo w A xs) (hl : lo' ≤ lo) (hf : FrSame lo' w w') : PthIn lo w' A xs :=
  ⟨h.1, h.2.imp id (fun ⟨hn, g, cs, e, hlo, hb, ht⟩ => ⟨hn, g, cs, e, hlo, hf.at_ hb (nLT hl hlo), ht⟩)⟩
theorem RowsI.fr {lo lo' : Nat} {w w' : World} {ps : List (List Int)} {vs : List Value} (h : RowsI lo w ps vs) (hl : lo' ≤ lo) (hf : FrSame lo' w w') : RowsI lo w' ps vs :=
  ⟨h.1, fun k hk => by obtain ⟨A, c, e, hp⟩ := h.2 k hk; exact ⟨A, c, e, hp.fr hl hf⟩⟩
def OutI (w : World) (A : Option Addr) (X : List (List Int)) (c : Nat) : Prop := X.length ≤ 1000 ∧ ∃ vs, Own w 0 43 1 A X.length c vs ∧ RowsI 0 w X vs
theorem OutI.nil (w : World) : OutI w none [] 0 := ⟨Nat.zero_le _, [], Own.nil _ _ _ _, RowsI.nil 0 w⟩
theorem OutI.mat {w : World} {A : Option Addr} {X : List (List Int)} {c : Nat} (h : OutI w A X c) : MatIn w A X := by
  obtain ⟨h1, vs, h2, h3⟩ := h
  exact out_mat h2 h3 h1
theorem OutI.tr {w w' : World} {A : Option Addr} {X : List (List Int)} {c : Nat} {Y : List Nat} (h : OutI w A X c) (hs : Same Y w w') (hx : ∀ g ∈ Y, ∃ cs t, Blk w g t cs ∧ t ≠ 3 ∧ t ≠ 43) : OutI w' A X c := by
  obtain ⟨h1, vs, h2, h3⟩ := h
  refine ⟨h1, vs, h2.tr hs (fun g hg hm => ?_), h3.tr hs (fun g hg => ?_)⟩
  · obtain ⟨cs, t, hb, _, hne⟩ := hx g hm
    obtain ⟨c2, hb2⟩ := h2.typ g hg
    exact hne (blk_type hb hb2)
  · obtain ⟨cs, t, hb, hne, _⟩ := hx g hg
    exact ⟨cs, t, hb, hne⟩
theorem OutI.tr0 {w w' : World} {A : Option Addr} {X : List (List Int)} {c : Nat} (h : OutI w A X c) (hs : Same [] w w') : OutI w' A X c := h.tr hs (by simp)
theorem OutI.tr1 {w w' : World} {A : Option Addr} {X : List (List Int)} {c b t : Nat} {cs : Array Value} (h : OutI w A X c) (hs : Same [b] w w') (hb : Blk w b t cs) (h1 : t ≠ 3) (h2 : t ≠ 43) : OutI w' A X c := h.tr hs (fun g hg => by rw [List.mem_singleton.1 hg]; exact ⟨cs, t, hb, h1, h2⟩)
def ZP (bO : Nat) (A : Option Addr) (k : Nat) : Prop := k = bO ∨ k ∈ aL A
theorem zp_no {w : World} {base sz k c bO b : Nat} {e t : TypeId} {A : Option Addr} {xs : List Value} {cs : Array Value} (h : Own w base e sz A k c xs) (hb : Blk w b t cs) (ht : e ≠ t) (hne : b ≠ bO) : ¬ ZP bO A b := fun hz => by
  rcases hz with hz | hz
  · exact hne hz
  · obtain ⟨c2, h2⟩ := h.typ b hz
    exact ht (blk_type h2 hb)
theorem zp_ty {w : World} {base sz k c bO t : Nat} {A : Option Addr} {xs : List Value} {cs : Array Value} (h : Own w base 43 sz A k c xs) (hb : Blk w bO t cs) (ht : t ≠ 3) : ∀ g, ZP bO A g → ∃ cs t, Blk w g t cs ∧ t ≠ 3 := fun g hz => by
  rcases hz with hz | hz
  · rw [hz]; exact ⟨_, _, hb, ht⟩
  · obtain ⟨c2, h2⟩ := h.typ g hz
    exact ⟨_, _, h2, by decide⟩
def behind (p : List Int) (xs : List (List Int)) : List (List Int) := xs.map (fun q => p ++ q)
theorem behind_app (p : List Int) (xs ys : List (List Int)) : behind p (xs ++ ys) = behind p xs ++ behind p ys := by simp [behind]
theorem behind_len (p : List Int) (xs : List (List Int)) : (behind p xs).length = xs.length := by simp [behind]
theorem behind_cons (p : List Int) (f : Int) (xs : List (List Int)) : behind p (xs.map (fun q => f :: q)) = behind (p ++ [f]) xs := by simp [behind]
theorem behind_nil (xs : List (List Int)) : behind [] xs = xs := by simp [behind]
section rules
variable {P : Program} {Q : Exit → Act → World → Prop} {n : Nat} {f : Fr} {w w' : World} {ops : Array Oper} {rest : List Oper} {d : Nat} {ty : TypeId} {pos : String} {af : Array Edge} {x y z : Operand} {t e : TypeId}
theorem r_slF {dst : Option Tmp} {gd : Option (Nat × Bool)} {A : Option Addr} {m c : Nat} {sz : Nat} (hu : P.underlying t = some (.slice e)) (hs : (P.info? e).map (·.size) = some sz) (hx : ev n f x = .slice A m c) (hy : ev n f y = .int .i64 (m : Int)) (hz : ev n f z = .int .i64 (m : Int)) (hc : m ≤ c) :
    RV P n f w ⟨dst, .slice t x none (some y) (some z), ty, pos, af, gd⟩ (.slice A m m) w := by
  cases hq : P.info? e with
  | none => simp [hq] at hs
  | some i =>
    have h1 : ∀ b, (Instr.sliceBound (.int .i64 (m : Int)) c b).run P w = .ok m w := fun b => by
      simp [Instr.sliceBound, asIntOf, hc]
    have h2 : ∀ b, (Instr.sliceBound (.int .i64 (m : Int)) m b).run P w = .ok m w := fun b => by
      simp [Instr.sliceBound, asIntOf]
    cases A <;> simp [RV, execOp, hx, hy, hz, Instr.sliceAt, run_underlying hu, Instr.slice, Instr.sliceBounds, h1, h2, sizeOf, typeInfo, hq, addr_zero]
theorem wl_appG2 {zv : Value} {sz by' m cap g k c b o : Nat} {olds news : List Value} (hu : P.underlying t = some (.slice e)) (hi : (P.info? e).map (fun i => (i.zero, i.size, i.bytes)) = some (some zv, sz, by'))
    (hx : ev n f x = .slice (some ⟨g, 0, none⟩) m cap) (hy : ev n f y = .slice (some ⟨b, o, none⟩) k c) (hlo : olds.length = m * sz) (holds : ∀ j v, olds[j]? = some v → w.cell? ⟨g, j, none⟩ = some v) (hl : news.length = k * sz) (hn : ∀ j v, news[j]? = some v → w.cell? ⟨b, o + j, none⟩ = some v) (hroom : cap < m + k) (h63 : m + k ≤ 9223372036854775807) (hbytes : (m + k) * by' ≤ 140737488355328)
    (K : ∀ q cap' w1, Blk w1 q e (olds.toArray ++ news.toArray ++ Builtin.zeroCells zv.cells (cap' - (m + k))) → m + k ≤ cap' → Same [] w w1 → w.heap.size ≤ q → WL P ops Q rest n (upd f d (.slice (some ⟨q, 0, none⟩) (m + k) cap')) w1) :
    WL P ops Q (⟨some d, .call { callee := .builtin .append, args := #[x, y], argTypes := #[t, t] }, ty, pos, af, none⟩ :: rest) n f w := by
  obtain ⟨i, hq, hzz⟩ := Option.map_eq_some_iff.1 hi
  simp only [Prod.mk.injEq] at hzz
  obtain ⟨z1, z2, z3⟩ := hzz
  have hr := run_append_grow (P := P) w t ty e i zv hu hq z1 ⟨g, 0, none⟩ m cap olds (by rw [z2]; exact hlo) (fun j v hj => by rw [Addr.add_mid, Nat.zero_add]; exact holds j v hj) ⟨b, o, none⟩ k c news (by rw [z2]; exact hl) (fun j v hj => by rw [Addr.add_mid]; exact hn j v hj) hroom om (growslice_fits hroom (by rw [z3]; exact hbytes))
  refine wl (v := .slice (some ⟨w.heap.size, 0, none⟩) (m + k) (grownCap w (m + k) cap e)) (w' := w.drew.alloc (.cells (olds.toArray ++ news.toArray ++ Builtin.zeroCells zv.cells (grownCap w (m + k) cap e - (m + k))) e)) ?_ (K _ _ _ ?_ (grownCap_ge w (m + k) cap e) ?_ (Nat.le_refl _))
  · simp only [RV, execOp, resolve, invoke, builtin, Sem.run_bind, Sem.run_pure, Result.andThen_ok, List.map_toArray, List.map_cons, List.map_nil, hx, hy, hr]
  · exact heap_alloc_new w.drew _
  · have hd : Same [] w w.drew := ⟨rfl, rfl, rfl, Nat.le_refl _, fun _ _ _ => rfl⟩
    exact hd.trans (same_alloc w.drew _)
theorem wl_appP {lo : Nat} {A : Option Addr} {xs : List Int} {v : Int} {b by' : Nat} {zv : Value} (hu : P.underlying t = some (.slice 3)) (hi : (P.info? 3).map (fun i => (i.zero, i.size, i.bytes)) = some (some zv, 1, by')) (hzs : zv.cells.size = 1) (hby : by' ≤ 8) (hp : PthIn lo w A xs) (hlo : lo ≤ w.heap.size) (hl : xs.length + 1 ≤ 1000) (hb : Blk w b 3 #[.int .i64 v])
    (hx : ev n f x = .slice A xs.length xs.length) (hy : ev n f y = .slice (some ⟨b, 0, none⟩) 1 1)
    (K : ∀ q c2 w1, PthIn lo w1 (some ⟨q, 0, none⟩) (xs ++ [v]) → (xs ++ [v]).length ≤ c2 → Same [] w w1 → w.heap.size ≤ q → WL P ops Q rest n (upd f d (.slice (some ⟨q, 0, none⟩) (xs ++ [v]).length c2)) w1) :
    WL P ops Q (⟨some d, .call { callee := .builtin .append, args := #[x, y], argTypes := #[t, t] }, ty, pos, af, none⟩ :: rest) n f w := by
  have hb8 : ∀ k, k ≤ 1000 → k * by' ≤ 140737488355328 := fun k hk => nLT (Nat.mul_le_mul hk hby) dE
  rcases hp.2 with ⟨rfl, rfl⟩ | ⟨hn, g, cs, rfl, _, hg, ht⟩
  · refine wl_app (base := lo) hu hi hzs dE (Own.nil w lo _ 1) hb hx hy rfl (by rfl) dE dE (hb8 _ (by simp)) hlo (fun q c2 w1 ho hs hq => ?_)
    have hs' : Same [] w w1 := hs
    refine K q c2 w1 ?_ ho.cap_le hs' (hq.resolve_left (fun h => by cases h))
    exact own_pth (xs := [v]) ho (by simp) (by simp)
  · refine wl_appG2 (olds := iV xs) (news := [.int .i64 v]) hu hi hx hy (by rw [iV_len, Nat.mul_one]) (fun j u hj => ?_) rfl (fun j u hj => ?_) om om (hb8 _ hl) (fun q c2 w1 hq hcp hs hr => ?_)
    · obtain ⟨g2, e, _, hc⟩ := hp.cell hn
      cases e
      exact hc j u hj
    · rw [Nat.zero_add]
      exact hb.cell (by simpa using hj)
    · rw [show xs.length + 1 = (xs ++ [v]).length by simp]
      refine K q c2 w1 ⟨by rw [List.length_append]; exact hl, .inr ⟨by simp, q, _, rfl, nLT hlo hr, hq, ?_⟩⟩ (by rw [List.length_append]; exact hcp) hs hr
      rw [Array.toList_append, Array.toList_append, show (iV xs).toArray.toList ++ [Value.int .i64 v].toArray.toList = iV (xs ++ [v]) from by simp [iV]]
      exact List.take_left' (by simp [iV])
theorem wl_appQ {lo : Nat} {A : Option Addr} {xs : List Int} {v : Int} {b c by' : Nat} {zv : Value} (hu : P.underlying t = some (.slice 3)) (hi : (P.info? 3).map (fun i => (i.zero, i.size, i.bytes)) = some (some zv, 1, by')) (hby : by' ≤ 8) (hb : Blk w b 3 #[.int .i64 v]) (hlo : lo ≤ b) (hl : xs.length + 1 ≤ 1000) (hI : IntsIn w A xs)
    (hx : ev n f x = .slice (some ⟨b, 0, none⟩) 1 1) (hy : ev n f y = .slice A xs.length c)
    (K : ∀ A' c2 w1, PthIn lo w1 A' (v :: xs) → Same [] w w1 → WL P ops Q rest n (upd f d (.slice A' (v :: xs).length c2)) w1) :
    WL P ops Q (⟨some d, .call { callee := .builtin .append, args := #[x, y], argTypes := #[t, t] }, ty, pos, af, none⟩ :: rest) n f w := by
  have hb8 : ∀ k, k ≤ 1000 → k * by' ≤ 140737488355328 := fun k hk => nLT (Nat.mul_le_mul hk hby) dE
  by_cases hn : xs = []
  · subst hn
    have hs : (P.info? 3).map (·.size) = some 1 := by
      obtain ⟨i, hq, hzz⟩ := Option.map_eq_some_iff.1 hi
      simp only [Prod.mk.injEq] at hzz
      simp [hq, hzz.2.1]
    refine wl (r_app0 hu hs (Nat.le_refl 1) hx hy) ?_
    exact K _ _ _ ⟨by simp, .inr ⟨by simp, b, _, rfl, hlo, hb, rfl⟩⟩ (Same.refl _ _)
  · obtain ⟨b', o', rfl, hc⟩ := hI.news (List.length_pos_iff.2 hn)
    have hpos := List.length_pos_iff.2 hn
    refine wl_appG2 (olds := [.int .i64 v]) (news := iV xs) hu hi hx hy rfl (fun j u hj => ?_) (by rw [iV_len, Nat.mul_one]) (fun j u hj => hc j u hj) om om (hb8 _ om) (fun q c2 w1 hq hcp hs hr => ?_)
    · exact hb.cell (by simpa using hj)
    · rw [show 1 + xs.length = (v :: xs).length by simp; omega]
      have := hb.lt
      refine K _ c2 w1 ⟨by rw [List.length_cons]; exact hl, .inr ⟨by simp, q, _, rfl, by omega, hq, ?_⟩⟩ hs
      rw [Array.toList_append, Array.toList_append, show [Value.int .i64 v].toArray.toList ++ (iV xs).toArray.toList = iV (v :: xs) from by simp [iV]]
      exact List.take_left' (by simp [iV])
end rules
end Go.Proofs.YtegngekpmpdngaaDoor
namespace Go.Proofs.YtegngekpmpdngaaDoor
open Go.RowKit
theorem row_setK1 {n i : Nat} {k : Nat → Nat} : row n (fun x => if x = i then Value.int .i64 1 else .int .i64 ((k x : Nat) : Int)) = row n (fun x => .int .i64 ((setK k i 1 x : Nat) : Int)) :=
  row_congr (fun x _ => by unfold setK; by_cases e : x = i <;> simp [e])
theorem row_setK2 {n i : Nat} {k : Nat → Nat} : row n (fun x => if x = i then Value.int .i64 2 else .int .i64 ((k x : Nat) : Int)) = row n (fun x => .int .i64 ((setK k i 2 x : Nat) : Int)) :=
  row_congr (fun x _ => by unfold setK; by_cases e : x = i <;> simp [e])
theorem CL2.lack {g : List Nd} {k k2 : Nat → Nat} {i j n : Nat} (h : CL2 g k k2 i j) (hi : i < n) (h0 : k i = 0) : lackN n (memK k2) < lackN n (memK k) := by
  refine Nat.lt_of_le_of_lt (lackK_le (k := setK k i 1) (fun y hy => ?_)) (lackK_open hi h0)
  by_cases e : y = i
  · have := (h.op y).2 (.inl e)
    omega
  · rw [setK_ne e] at hy
    exact h.nz y hy
theorem succ_mem {g : List Nd} {i j t : Nat} (hi : i < g.length) (hj : j < (g[i]).ln.length) (ht : ((g[i]).ln[j]).2 = (t : Int)) : t ∈ succN g i := by
  unfold succN
  rw [nd_eq hi]
  exact List.mem_map.2 ⟨_, List.getElem_mem hj, by rw [ht]; rfl⟩
noncomputable def cyG (l : List Ty) (fs : List Ft) (g : List Nd) : Bool := if (graphF l fs g).1 = 0 then cycB g else false
theorem cyG_no {l : List Ty} {fs : List Ft} {g : List Nd} (h : ¬ (graphF l fs g).1 = 0) : cyG l fs g = false := by unfold cyG; rw [if_neg h]
theorem cyG_yes {l : List Ty} {fs : List Ft} {g : List Nd} (h : (graphF l fs g).1 = 0) : cyG l fs g = cycB g := by unfold cyG; rw [if_pos h]
theorem ret_cy {l : List Ty} {fs : List Ft} {g : List Nd} {b : Bool} {x y : Int} (h : cyG l fs g = b) (hF : graphF l fs g = (x, y)) : Ending.returned (.tuple #[.bool b, .agg #[.int .i64 x, .int .i64 y]]) = .returned (.tuple #[.bool (cyG l fs g), .agg #[.int .i64 (graphF l fs g).1, .int .i64 (graphF l fs g).2]]) := by rw [h, hF]
theorem gf_zzC {l : List Ty} {fs : List Ft} {g : List Nd} (h : (graphF l fs g).1 = 0) : graphF l fs g = (0, 0) := by
  have hv := gv_of h
  rw [gf_in hv.h, wi_zero hv.lo hv.t hv.u]
theorem fn36 : callable Tryd.prog 36 = true := by kernel_rfl
set_option maxHeartbeats 2000000 in
theorem cvisit_step {w0 : World} {G : Option Addr} {cg nf bS bG bV bn base : Nat} {gr : List Nd} (hG : NodesIn w0 G gr) (hk : GOk2 nf gr) (hlo : w0.heap.size ≤ base) (_l0S : w0.heap.size ≤ bS) (_l0G : w0.heap.size ≤ bG) (_l0V : w0.heap.size ≤ bV) (l0n : w0.heap.size ≤ bn) (lS : bS < base) (lG : bG < base) (lV : bV < base) (_ln : bn < base) (nSn : bS ≠ bn) (nGn : bG ≠ bn) (nVn : bV ≠ bn) {k : Nat → Nat} {w : World} (hB : Bel w0 w) (hbs : base ≤ w.heap.size) (hbS : Blk w bS 43 #[.slice (some ⟨bn, 0, none⟩) gr.length gr.length]) (hbG : Blk w bG 28 #[.slice G gr.length cg]) (hbV : Blk w bV 75 #[.func (.func 36) #[] #[.pointer (some ⟨bS, 0, none⟩), .pointer (some ⟨bG, 0, none⟩), .pointer (some ⟨bV, 0, none⟩)]]) (hbn : Blk w bn 3 (row gr.length (fun x => .int .i64 ((k x : Nat) : Int)))) {i : Nat} (hin : i < gr.length) (hcs : CS gr k i) (hle : ∀ y, k y ≤ 2) (IH : ∀ (t : Nat) (k2 : Nat → Nat) (w2 : World), lackN gr.length (memK k2) < lackN gr.length (memK k) → t < gr.length → CS gr k2 t → (∀ y, k2 y ≤ 2) → Bel w0 w2 → base ≤ w2.heap.size → Blk w2 bS 43 #[.slice (some ⟨bn, 0, none⟩) gr.length gr.length] → Blk w2 bG 28 #[.slice G gr.length cg] → Blk w2 bV 75 #[.func (.func 36) #[] #[.pointer (some ⟨bS, 0, none⟩), .pointer (some ⟨bG, 0, none⟩), .pointer (some ⟨bV, 0, none⟩)]] → Blk w2 bn 3 (row gr.length (fun x => .int .i64 ((k2 x : Nat) : Int))) → Calls Tryd.prog 36 #[.int .i64 (t : Nat), .pointer (some ⟨bS, 0, none⟩), .pointer (some ⟨bG, 0, none⟩), .pointer (some ⟨bV, 0, none⟩)] w2 fun e w' => ∃ b, e = .returned (.bool b) ∧ (b = true → Cyc gr) ∧ ∃ k', (b = false → CR gr k2 k' t) ∧ Blk w' bn 3 (row gr.length (fun x => .int .i64 ((k' x : Nat) : Int))) ∧ Chg base [bn] w2 w') : Calls Tryd.prog 36 #[.int .i64 (i : Nat), .pointer (some ⟨bS, 0, none⟩), .pointer (some ⟨bG, 0, none⟩), .pointer (some ⟨bV, 0, none⟩)] w fun e w' => ∃ b, e = .returned (.bool b) ∧ (b = true → Cyc gr) ∧ ∃ k', (b = false → CR gr k k' i) ∧ Blk w' bn 3 (row gr.length (fun x => .int .i64 ((k' x : Nat) : Int))) ∧ Chg base [bn] w w' := by
 have hCS : Chg base [bn] w w ∧ base ≤ w.heap.size := ⟨Chg.refl _ _ _, hbs⟩
 have hn6 := hk.le
 have hli := hle i
 refine enter Tryd.func36 Tryd.ntmps36 rfl (Nat.le_of_ble_eq_true rfl) (c_seq (c_region (waB rfl (x_nil (e_S ?_)))))
 refine c_seq (c_seq (c_region (wl (r_ld1 (v := .slice _ _ _) U43 rfl rfl (hbS.cell rfl)) (wmI rfl (wl (r_ia (i := i) U43 sz3_GLoose rfl rfl hin rfl) ?_)))))
 refine wl (r_ld1 (v := .int _ _) U3 rfl rfl (hbn.cell (row_get hin))) (wl (r_neq rfl rfl) (x_nil (e_S ?_)))
 refine c_ifd rfl (fun c12 => ?_) (fun c12 => ?_)
 ·
  refine c_seq (c_region (wl (r_ld1 (v := .slice _ _ _) U43 rfl rfl (hbS.cell rfl)) (wmI rfl (wl (r_ia (i := i) U43 sz3_GLoose rfl rfl hin rfl) (wl (r_ld1 (v := .int _ _) U3 rfl rfl (hbn.cell (row_get hin))) ?_)))))
  refine wl (r_eql rfl rfl) (waB rfl (x_nil (e_S (c_ret (e_Sr ?_)))))
  refine fin1 (.inl rfl) rfl rfl ?_
  exact ⟨_, rfl, fun h => hcs.loop (by have h := of_decide_eq_true h; omega), k, fun h => hcs.old hle om (fun e => of_decide_eq_false h om), hbn, hCS.1⟩
 have h0 : k i = 0 := by omega
 refine c_skip (e_S (c_seq (c_region (wl (r_ld1 (v := .slice _ _ _) U43 rfl rfl (hbS.cell rfl)) (wmI rfl ?_)))))
 refine wl (r_ia (i := i) U43 sz3_GLoose rfl rfl hin rfl) ?_
 refine wl_st1 (v := .int _ _) hbn rfl rfl sz3_GLoose (by rw [row_size]; omega) rfl row_set (fun w1 hq hs => ?_)
 replace hB := hB.tr1 hs l0n
 replace hbS := hbS.tr1 hs om
 replace hbG := hbG.tr1 hs om
 replace hbV := hbV.tr1 hs om
 replace hCS := And.intro (hCS.1.st hs hCS.2 (fun g hg => by have h1 := List.mem_singleton.1 hg; first | (left; rw [h1]; simp; done) | (right; omega))) (nLT hCS.2 (Same.size hs))
 clear hs
 replace hbn := hq
 rw [row_setK1] at hbn
 have hC2 := hcs.open_ hle h0
 refine x_nil (e_S (c_seq (c_seq ?_)))
 obtain ⟨nb, no, LA, lc, rfl, hnb, hnr, hln⟩ := hG.at_ hB hin
 have hmx := hln.1
 unfold maxI at hmx
 refine c_region (wl (r_fa U28 sz26 dE rfl rfl rfl) (wl (r_ld1 (v := .slice _ _ _) U26 rfl rfl (hbG.cell rfl)) (wmI rfl (wl (r_ia (i := i) U26 sz33 rfl rfl hin rfl) (wl (r_fa U33 sz31 dE rfl rfl rfl) ?_)))))
 refine wl (r_ld1 (v := .slice _ _ _) U31 rfl rfl (hnr 1 _ rfl)) (wl (r_len U31 rfl) (wmI rfl (x_nil (e_S (c_block ?_)))))
 refine c_loopS [5, 7, 28, 29, 30, 31, 32, 33, 34, 35, 36] (fun m g w' => ∃ (j : Nat) (k2 : Nat → Nat), j ≤ (gr[i]'hin).ln.length ∧ m = (gr[i]'hin).ln.length - j ∧ g 28 = .int .i64 j ∧ CL2 gr k k2 i j ∧ Bel w0 w' ∧ Blk w' bS 43 #[.slice (some ⟨bn, 0, none⟩) gr.length gr.length] ∧ Blk w' bG 28 #[.slice (some ⟨nb, no, none⟩) gr.length cg] ∧ Blk w' bV 75 #[.func (.func 36) #[] #[.pointer (some ⟨bS, 0, none⟩), .pointer (some ⟨bG, 0, none⟩), .pointer (some ⟨bV, 0, none⟩)]] ∧ Blk w' bn 3 (row gr.length (fun x => .int .i64 ((k2 x : Nat) : Int))) ∧ (Chg base [bn] w w' ∧ base ≤ w'.heap.size)) ((gr[i]'hin).ln.length) ?_ (fun m g5 w2 hI => ?_)
 ·
  exact ⟨0, _, Nat.zero_le _, rfl, rfl, hC2, hB, hbS, hbG, hbV, hbn, hCS⟩
 obtain ⟨j, k2, hj, hm, h28, hC2, hB, hbS, hbG, hbV, hbn, hCS⟩ := hI
 refine c_know 28 (.int .i64 j) h28 nu (c_seq (c_region (wl (r_lss rfl rfl) (x_nil (e_S ?_)))))
 refine c_seq ?_
 refine c_ifd rfl (fun c29 => ?_) (fun c29 => ?_)
 ·
  have hjl : j < (gr[i]'hin).ln.length := by omega
  obtain ⟨lb, lof, rfl, hlb, hlr⟩ := hln.at_ hB hjl
  obtain ⟨t, ht, htl⟩ : ∃ t : Nat, ((gr[i]'hin).ln[j]'hjl).2 = (t : Int) ∧ t < gr.length := by
    have h1 := hk.ln i hin _ (List.getElem_mem hjl)
    exact ⟨(((gr[i]'hin).ln[j]'hjl).2).toNat, by omega, by omega⟩
  have hlk := hC2.lack hin h0
  have hen := hC2.enter hcs (succ_mem hin hjl ht)
  have hle2 := hC2.le
  refine c_skip (e_S (c_seq (c_block (c_seq (c_region ?_)))))
  refine wl (r_ia (i := j) U31 sz30 rfl rfl om rfl) (wl (r_ldS U30 rfl rfl hlr sz30) ?_)
  refine wl_al (cs := #[.int .i64 0, .int .i64 0]) ze30 rfl (fun b7 w3 hb7 hs hr => ?_)
  have or_bS_b7 : bS < b7 := nLL hbS.lt hr
  have or_bG_b7 : bG < b7 := nLL hbG.lt hr
  have or_bV_b7 : bV < b7 := nLL hbV.lt hr
  have or_bn_b7 : bn < b7 := nLL hbn.lt hr
  have or_hCS_b7 := (nLT hCS.2 hr)
  have lo7 := nLT (Bel.size hB) hr
  replace hB := hB.tr0 hs
  replace hbS := hbS.tr0 hs
  replace hbG := hbG.tr0 hs
  replace hbV := hbV.tr0 hs
  replace hbn := hbn.tr0 hs
  replace hCS := And.intro (hCS.1.st hs hCS.2 (by simp)) (nLT hCS.2 (Same.size hs))
  clear hs
  clear hr
  refine wl_stW hb7 rfl rfl sz30 rfl oneA (fun w4 hq hs => ?_)
  replace hB := hB.tr1 hs lo7
  replace hbS := hbS.tr1 hs om
  replace hbG := hbG.tr1 hs om
  replace hbV := hbV.tr1 hs om
  replace hbn := hbn.tr1 hs om
  replace hCS := And.intro (hCS.1.st hs hCS.2 (fun g hg => by have h1 := List.mem_singleton.1 hg; first | (left; rw [h1]; simp; done) | (right; omega))) (nLT hCS.2 (Same.size hs))
  clear hs
  replace hb7 := hq
  refine x_nil (e_S (c_seq ?_))
  rw [ht] at hb7
  refine c_region (wl (r_ld1 (v := .func _ _ _) Tryd.underlying75 rfl rfl (hbV.cell rfl)) (wl (r_fa U30 sz3_GLoose dE rfl rfl rfl) (wl (r_ld1 (v := .int _ _) U3 rfl rfl (hb7.cell rfl)) ?_)))
  refine wl_clv rfl fn36 (IH t k2 _ hlk htl hen hle2 hB hCS.2 hbS hbG hbV hbn) rfl rfl (fun e' w5 hr => ?_)
  obtain ⟨b35, rfl, ht35, k3, hf35, hbn3, hC3⟩ := hr
  replace hB := hB.chg hC3 hlo (by simp [l0n])
  replace hbS := hbS.chg hC3 lS (by simp [nSn])
  replace hbG := hbG.chg hC3 lG (by simp [nGn])
  replace hbV := hbV.chg hC3 lV (by simp [nVn])
  replace hbn := hbn3
  replace hCS := And.intro (hCS.1.trans hC3) (nLT hCS.2 hC3.size)
  refine ⟨_, rfl, ?_⟩
  refine x_nil (e_S ?_)
  refine c_if rfl (fun c35 => ?_) (fun c35 => ?_)
  ·
   refine c_seq (c_region (waB rfl (x_nil (e_S (c_ret ?_)))))
   refine e_Br (e_Sr (e_LSr (e_Br (e_Sr (fin1 (.inl rfl) rfl rfl ?_)))))
   exact ⟨true, rfl, fun _ => ht35 c35, k3, fun h => (by cases h), hbn, hCS.1⟩
  have hcr := hf35 c35
  refine c_skip (e_B (e_S (c_region (wl (r_add rfl rfl rfl om) (wmI rfl ?_)))))
  refine x_nil (e_LS ((gr[i]'hin).ln.length - (j + 1)) om agA ?_)
  exact ⟨j + 1, k3, by omega, rfl, rfl, hC2.next hcr (take_succN hin hjl ht), hB, hbS, hbG, hbV, hbn, hCS⟩
 have hjx : j = (gr[i]'hin).ln.length := by omega
 have hfin : (succN gr i).take j = succN gr i := List.take_of_length_le (by simp [succN, nd_eq hin, hjx])
 have hcd := hC2.done h0 hfin
 refine c_exit (e_Sx (e_LSx (e_Bx (e_S (c_seq ?_)))))
 refine c_region (wl (r_ld1 (v := .slice _ _ _) U43 rfl rfl (hbS.cell rfl)) (wmI rfl (wl (r_ia (i := i) U43 sz3_GLoose rfl rfl hin rfl) ?_)))
 refine wl_st1 (v := .int _ _) hbn rfl rfl sz3_GLoose (by rw [row_size]; omega) rfl row_set (fun w6 hq hs => ?_)
 replace hB := hB.tr1 hs l0n
 replace hbS := hbS.tr1 hs om
 replace hbG := hbG.tr1 hs om
 replace hbV := hbV.tr1 hs om
 replace hCS := And.intro (hCS.1.st hs hCS.2 (fun g hg => by have h1 := List.mem_singleton.1 hg; first | (left; rw [h1]; simp; done) | (right; omega))) (nLT hCS.2 (Same.size hs))
 clear hs
 replace hbn := hq
 rw [row_setK2] at hbn
 refine x_nil (e_S (c_seq (c_region (waB rfl (x_nil ?_)))))
 refine e_S (c_ret (fin1 (.inl rfl) rfl rfl ?_))
 exact ⟨false, rfl, fun h => (by cases h), setK k2 i 2, fun _ => hcd, hbn, hCS.1⟩
theorem cvisit_any {w0 : World} {G : Option Addr} {cg nf bS bG bV bn base : Nat} {gr : List Nd} (hG : NodesIn w0 G gr) (hk : GOk2 nf gr) (hlo : w0.heap.size ≤ base) (_l0S : w0.heap.size ≤ bS) (_l0G : w0.heap.size ≤ bG) (_l0V : w0.heap.size ≤ bV) (l0n : w0.heap.size ≤ bn) (lS : bS < base) (lG : bG < base) (lV : bV < base) (_ln : bn < base) (nSn : bS ≠ bn) (nGn : bG ≠ bn) (nVn : bV ≠ bn) : ∀ (m : Nat) (k : Nat → Nat) (w : World) (i : Nat), lackN gr.length (memK k) ≤ m → i < gr.length → CS gr k i → (∀ y, k y ≤ 2) → Bel w0 w → base ≤ w.heap.size → Blk w bS 43 #[.slice (some ⟨bn, 0, none⟩) gr.length gr.length] → Blk w bG 28 #[.slice G gr.length cg] → Blk w bV 75 #[.func (.func 36) #[] #[.pointer (some ⟨bS, 0, none⟩), .pointer (some ⟨bG, 0, none⟩), .pointer (some ⟨bV, 0, none⟩)]] → Blk w bn 3 (row gr.length (fun x => .int .i64 ((k x : Nat) : Int))) → Calls Tryd.prog 36 #[.int .i64 (i : Nat), .pointer (some ⟨bS, 0, none⟩), .pointer (some ⟨bG, 0, none⟩), .pointer (some ⟨bV, 0, none⟩)] w fun e w' => ∃ b, e = .returned (.bool b) ∧ (b = true → Cyc gr) ∧ ∃ k', (b = false → CR gr k k' i) ∧ Blk w' bn 3 (row gr.length (fun x => .int .i64 ((k' x : Nat) : Int))) ∧ Chg base [bn] w w' := by
  intro m
  induction m with
  | zero => intro k w i hm hin hcs hle hB hbs h1 h2 h3 h4; exact cvisit_step hG hk hlo _l0S _l0G _l0V l0n lS lG lV _ln nSn nGn nVn hB hbs h1 h2 h3 h4 hin hcs hle (fun t k2 w2 hl => by omega)
  | succ m ih => intro k w i hm hin hcs hle hB hbs h1 h2 h3 h4; exact cvisit_step hG hk hlo _l0S _l0G _l0V l0n lS lG lV _ln nSn nGn nVn hB hbs h1 h2 h3 h4 hin hcs hle (fun t k2 w2 hl => ih k2 w2 t om)
end Go.Proofs.YtegngekpmpdngaaDoor
