/- What is reached from a node of a valid graph is a valid graph; a path in it leads where the path leads in the graph. No program in sight. -/
import Derived.Test.YteoncmfiiknfbaaDoorPath
import Derived.Test.YteoncmfiiknfbaaDoorTurn
namespace Go.Proofs.YteoncmfiiknfbaaDoor
open Go.RowKit
/-- the facts of a traversal from any node -/
structure TrR (g : List Nd) (r : Nat) (o : List Nat) : Prop where
  dl : DL g [r] [] o
  ok : OOk g.length o
  nodup : o.Nodup
  has : r ∈ o
  zero : o.idxOf r = 0
  clo : ∀ x ∈ o, ∀ t ∈ succN g x, t ∈ o
theorem DL.within {g : List Nd} {o : List Nat} (hc : ∀ x ∈ o, ∀ t ∈ succN g x, t ∈ o) {is a b : List Nat} (h : DL g is a b) : (∀ i ∈ is, i ∈ o) → (∀ x ∈ a, x ∈ o) → ∀ x ∈ b, x ∈ o := by
  induction h with
  | nil => exact fun _ h => h
  | old h t ih => exact fun hi ha => ih (fun i h => hi i (List.mem_cons_of_mem _ h)) ha
  | new h s t ihs iht =>
    intro hi ha
    have hio := hi _ (List.mem_cons_self ..)
    refine iht (fun i h => hi i (List.mem_cons_of_mem _ h)) (ihs (hc _ hio) (fun x hx => ?_))
    rcases List.mem_append.1 hx with hx | hx
    · exact ha x hx
    · rw [List.mem_singleton.1 hx]; exact hio
theorem idx_inj {o : List Nat} {x y : Nat} (hx : x ∈ o) (hy : y ∈ o) (e : o.idxOf x = o.idxOf y) : x = y := by
  obtain ⟨h1, h2⟩ := get_idx hx
  obtain ⟨h3, h4⟩ := get_idx hy
  rw [← h2, ← h4]
  simp only [e]
theorem idx_map2 {o : List Nat} {x : Nat} (hx : x ∈ o) : ∀ {o2 : List Nat}, (∀ y ∈ o2, y ∈ o) → (o2.map (o.idxOf ·)).idxOf (o.idxOf x) = o2.idxOf x
  | [], _ => rfl
  | y :: o2, h => by
    rw [List.map_cons, List.idxOf_cons, List.idxOf_cons, idx_map2 hx (fun z hz => h z (List.mem_cons_of_mem _ hz))]
    by_cases e : y = x
    · subst e; simp
    · have e2 : ¬ o.idxOf y = o.idxOf x := fun h2 => e (idx_inj (h y (List.mem_cons_self ..)) hx h2)
      have b1 : (y == x) = false := by simp [e]
      have b2 : (o.idxOf y == o.idxOf x) = false := by simp [e2]
      rw [b1, b2]
theorem num_map2 {o o2 : List Nat} {x : Nat} (hx : x ∈ o) (h : ∀ y ∈ o2, y ∈ o) : numO (o2.map (o.idxOf ·)) (o.idxOf x) = numO o2 x := by
  unfold numO
  have e : o.idxOf x ∈ o2.map (o.idxOf ·) ↔ x ∈ o2 := ⟨fun hm => by
    obtain ⟨y, hy, e⟩ := List.mem_map.1 hm
    exact idx_inj (h y hy) hx e ▸ hy, fun h => List.mem_map_of_mem h⟩
  by_cases h2 : x ∈ o2
  · rw [if_pos h2, if_pos (e.2 h2), idx_map2 hx h]
  · rw [if_neg h2, if_neg (fun h3 => h2 (e.1 h3))]
section sub
variable {g : List Nd} {r : Nat} {o : List Nat}
theorem TrR.mem (t : TrR g r o) {x : Nat} (hx : x ∈ o) {y : Int × Int} (hy : y ∈ (nd g x).ln) : y.2.toNat ∈ o := t.clo x hx _ (by simp only [succN, List.mem_map]; exact ⟨y, hy, rfl⟩)
theorem TrR.lt (t : TrR g r o) {x : Nat} (hx : x ∈ o) : x < g.length := t.ok.lt x hx
/-- a canonical form of a part of what is reached -/
theorem TrR.can2 (t : TrR g r o) {c : Nat} {o2 : List Nat} (hc : c ∈ o) (h2 : DL g [c] [] o2) : canG (canG g o) (o2.map (o.idxOf ·)) = canG g o2 := by
  have hw := h2.within t.clo (fun i hi => by rw [List.mem_singleton.1 hi]; exact hc) (fun x hx => by cases hx)
  have hcl := h2.clo
  unfold canG
  rw [List.map_map]
  refine List.map_congr_left (fun x hx => ?_)
  have hxo := hw x hx
  have e := canG_nd (g := g) hxo
  unfold canG at e
  show canN _ _ (o.idxOf x) = canN g o2 x
  unfold canN at e ⊢
  rw [e]
  refine nd_ext rfl ?_
  simp only [List.map_map]
  refine List.map_congr_left (fun y hy => ?_)
  have hyo := t.mem hxo hy
  simp only [Function.comp, canL, numO_in hyo, Int.toNat_natCast]
  rw [num_map2 hyo hw]
theorem TrR.dl2 (t : TrR g r o) {c : Nat} {o2 : List Nat} (hc : c ∈ o) (h2 : DL g [c] [] o2) : DL (canG g o) [o.idxOf c] [] (o2.map (o.idxOf ·)) :=
  h2.map t.clo (h2.within t.clo (fun i hi => by rw [List.mem_singleton.1 hi]; exact hc) (fun x hx => by cases hx))
end sub
section comp
variable {l : List Ty} {fs : List Ft} {g : List Nd} {p q : List Int}
end comp
end Go.Proofs.YteoncmfiiknfbaaDoor
