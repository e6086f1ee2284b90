/- A graph whose nodes are numbered in another way: valid, and of the same canonical form. No program in sight. -/
import Derived.Test.YteoncmfiiknfbaaDoorGCan
namespace Go.Proofs.YteoncmfiiknfbaaDoor
open Go.RowKit
def trN (σ : Nat → Nat) (x : Nd) : Nd := ⟨x.ty, x.ln.map (fun y => (y.1, (σ y.2.toNat : Int)))⟩
theorem unr_ex (g : List Nd) : ∃ r, UnrIs g r := by
  have h : ∀ n : Nat, (∀ i, i < n → Rch g i) ∨ ∃ k, k < n ∧ ¬ Rch g k ∧ ∀ i, i < k → Rch g i := by
    intro n
    induction n with
    | zero => exact .inl (fun i hi => absurd hi (by omega))
    | succ n ih =>
      rcases ih with h | ⟨k, h1, h2, h3⟩
      · by_cases hn : Rch g n
        · refine .inl (fun i hi => ?_)
          by_cases e : i = n
          · rw [e]; exact hn
          · exact h i (by omega)
        · exact .inr ⟨n, by omega, hn, h⟩
      · exact .inr ⟨k, by omega, h2, h3⟩
  rcases h g.length with h | ⟨k, h1, h2, h3⟩
  · exact ⟨-1, .inl ⟨rfl, h⟩⟩
  · exact ⟨k, .inr ⟨k, rfl, h1, h2, h3⟩⟩
theorem GV.rch {l : List Ty} {fs : List Ft} {g : List Nd} (h : GV l fs g) : ∀ i, i < g.length → Rch g i := by
  obtain ⟨r, hr⟩ := unr_ex g
  have hu := h.u
  rw [← unr_is hr] at hu
  rcases hr with ⟨_, h3⟩ | ⟨k, h3, _⟩
  · exact h3
  · exact absurd (show 0 ≤ r by omega) hu
structure Turn (g gt : List Nd) (σ ρ : Nat → Nat) : Prop where
  len : gt.length = g.length
  z : σ 0 = 0
  lt : ∀ i, i < g.length → σ i < g.length
  rl : ∀ j, j < g.length → ρ j < g.length ∧ σ (ρ j) = j
  lr : ∀ i, i < g.length → ρ (σ i) = i
  nd : ∀ i, i < g.length → nd gt (σ i) = trN σ (nd g i)
section turn
variable {g gt : List Nd} {σ ρ : Nat → Nat}
theorem Turn.inj (t : Turn g gt σ ρ) {x y : Nat} (hx : x < g.length) (hy : y < g.length) (h : σ x = σ y) : x = y := by rw [← t.lr x hx, ← t.lr y hy, h]
theorem Turn.succ (t : Turn g gt σ ρ) {i : Nat} (hi : i < g.length) : succN gt (σ i) = (succN g i).map σ := by
  unfold succN; rw [t.nd i hi]; simp [trN]
theorem Turn.dl (t : Turn g gt σ ρ) (hr : ∀ i, i < g.length → ∀ y ∈ succN g i, y < g.length) {is a b : List Nat} (h : DL g is a b) : (∀ i ∈ is, i < g.length) → (∀ x ∈ b, x < g.length) → DL gt (is.map σ) (a.map σ) (b.map σ) := by
  induction h with
  | nil => exact fun _ _ => .nil
  | old h _ ih => exact fun hi hb => .old (List.mem_map_of_mem h) (ih (fun i h => hi i (List.mem_cons_of_mem _ h)) hb)
  | new h s u ihs iht =>
    intro hi hb
    rename_i i is o o1 o'
    have hil := hi i (List.mem_cons_self ..)
    have ho1 : ∀ x ∈ o1, x < g.length := fun x hx => hb x (u.sub _ hx)
    refine .new (fun hm => ?_) ?_ (iht (fun i h => hi i (List.mem_cons_of_mem _ h)) hb)
    · obtain ⟨y, hy, e⟩ := List.mem_map.1 hm
      have hyl := ho1 y (s.sub _ (List.mem_append_left _ hy))
      exact h (t.inj hyl hil e ▸ hy)
    · have := ihs (hr i hil) ho1
      rw [List.map_append] at this
      rw [t.succ hil]
      exact this
theorem Turn.rch (t : Turn g gt σ ρ) (hr : ∀ i, i < g.length → ∀ y ∈ succN g i, y < g.length) (hp : 0 < g.length) {i : Nat} (h : Rch g i) : i < g.length ∧ Rch gt (σ i) := by
  induction h with
  | zero => exact ⟨hp, by rw [t.z]; exact .zero⟩
  | step h hi hx ih =>
    rename_i i x
    refine ⟨hr i hi _ (by simp only [succN, nd_eq hi, List.mem_map]; exact ⟨x, hx, rfl⟩), ?_⟩
    have hlt : σ i < gt.length := by rw [t.len]; exact t.lt i hi
    have e := t.nd i hi
    rw [nd_eq hlt, nd_eq hi] at e
    have := Rch.step (x := (x.1, ((σ x.2.toNat : Nat) : Int))) ih.2 hlt (by rw [e]; exact List.mem_map.2 ⟨x, hx, rfl⟩)
    simpa using this
theorem idx_map {g : List Nd} {σ : Nat → Nat} {x : Nat} (hx : x < g.length) (inj : ∀ y, y < g.length → σ y = σ x → y = x) : ∀ {o : List Nat}, (∀ y ∈ o, y < g.length) → (o.map σ).idxOf (σ x) = o.idxOf x
  | [], _ => rfl
  | y :: o, h => by
    rw [List.map_cons, List.idxOf_cons, List.idxOf_cons, idx_map hx inj (fun z hz => h z (List.mem_cons_of_mem _ hz))]
    by_cases e : y = x
    · subst e; simp
    · have e2 : ¬ σ y = σ x := fun h2 => e (inj y (h y (List.mem_cons_self ..)) h2)
      have b1 : (y == x) = false := by simp [e]
      have b2 : (σ y == σ x) = false := by simp [e2]
      rw [b1, b2]
theorem Turn.num (t : Turn g gt σ ρ) {x : Nat} (hx : x < g.length) {o : List Nat} (ho : ∀ y ∈ o, y < g.length) : numO (o.map σ) (σ x) = numO o x := by
  unfold numO
  have e : σ x ∈ o.map σ ↔ x ∈ o := ⟨fun h => by
    obtain ⟨y, hy, e⟩ := List.mem_map.1 h
    exact t.inj (ho y hy) hx e ▸ hy, fun h => List.mem_map_of_mem h⟩
  by_cases h : x ∈ o
  · rw [if_pos (e.2 h), if_pos h, idx_map hx (fun y hy h => t.inj hy hx h) ho]
  · rw [if_neg (fun k => h (e.1 k)), if_neg h]
theorem Turn.can (t : Turn g gt σ ρ) (hr : ∀ i, i < g.length → ∀ y ∈ succN g i, y < g.length) {o : List Nat} (ho : ∀ y ∈ o, y < g.length) : canG gt (o.map σ) = canG g o := by
  unfold canG
  rw [List.map_map]
  refine List.map_congr_left (fun x hx => ?_)
  have hxl := ho x hx
  simp only [Function.comp]
  unfold canN
  rw [t.nd x hxl]
  refine nd_ext rfl ?_
  simp only [trN, List.map_map]
  refine List.map_congr_left (fun y hy => ?_)
  have hyl := hr x hxl y.2.toNat (by simp only [succN, List.mem_map]; exact ⟨y, hy, rfl⟩)
  simp only [Function.comp, canL, Int.toNat_natCast]
  rw [t.num hyl ho]
end turn
/-! ## the numbering of the statement -/
theorem row2_splice {m i : Nat} {f h : Nat → Value} {a b : Value} : splice (row2 m f h) (0 + i * 2) [a, b] = row2 m (fun j => if j = i then a else f j) (fun j => if j = i then b else h j) := by
  show ((row2 m f h).setIfInBounds (0 + i * 2 + 0) a).setIfInBounds (0 + i * 2 + 1) b = _
  rw [row2_set0, row2_set1]
end Go.Proofs.YteoncmfiiknfbaaDoor
