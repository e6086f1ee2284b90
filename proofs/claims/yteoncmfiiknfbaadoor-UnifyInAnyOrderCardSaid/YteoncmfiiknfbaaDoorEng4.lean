/- The engine's fourth part: a check of a pointer, a slice that owns its cells opened and closed again, rows of cells told by a list. -/
import Derived.Test.YteoncmfiiknfbaaDoorEng3a
namespace Go.Proofs.YteoncmfiiknfbaaDoor
open Go.RowKit
section eng4
variable {P : Program} {Q : Exit → Act → World → Prop} {n : Nat} {f : Fr} {w w' : World} {ops : Array Oper} {rest : List Oper} {d : Tmp} {ty t e : TypeId} {pos : String} {af : Array Edge} {x y : Operand}
theorem r_nc {dst : Option Tmp} {gd : Option (Nat × Bool)} {a : Addr} (hx : ev n f x = .pointer (some a)) :
    RV P n f w ⟨dst, .nilCheck x, ty, pos, af, gd⟩ (.pointer (some a)) w := by simp [RV, execOp, hx]
variable {base sz k cap : Nat} {A : Option Addr} {xs : List Value}
/-- the block behind a slice that owns its cells, to be written in place -/
theorem Own.open_ (h : Own w base e sz A k cap xs) (hk : 0 < k) : ∃ (g : Nat) (cur : Array Value), A = some ⟨g, 0, none⟩ ∧ base ≤ g ∧ Blk w g e cur ∧ k * sz ≤ cur.size ∧ (∀ j, j < k * sz → cur[j]? = xs[j]?) ∧ ∀ w1 o v, Blk w1 g e (cur.setIfInBounds o v) → Own w1 base e sz (some ⟨g, 0, none⟩) k cap (xs.set o v) := by
  rcases h.2 with ⟨_, hn⟩ | ⟨g, c, cur, hv, hb, hg, hkc, hm, hs, ht⟩
  · omega
  · cases hv
    have hle : k * sz ≤ cap * sz := Nat.mul_le_mul_right sz hkc
    refine ⟨g, cur, rfl, hb, hg, by omega, fun j hj => ?_, fun w1 o v hw => ⟨by rw [List.length_set]; exact h.1, .inr ⟨g, cap, _, rfl, hb, hw, hkc, hm, by rw [Array.size_setIfInBounds]; exact hs, ?_⟩⟩⟩
    · rw [← ht, List.getElem?_take_of_lt hj]; simp
    · rw [Array.toList_setIfInBounds, List.take_set, ht]
theorem own_ne {b1 b2 s1 s2 k1 k2 c1 c2 : Nat} {e1 e2 : TypeId} {A1 A2 : Option Addr} {x1 x2 : List Value} (h : Own w b1 e1 s1 A1 k1 c1 x1) (k : Own w b2 e2 s2 A2 k2 c2 x2) (hne : e1 ≠ e2) : ∀ g ∈ aL A1, ¬ g ∈ aL A2 := fun g h1 h2 => by
  have ht : ∀ {b s k c : Nat} {e : TypeId} {A : Option Addr} {x : List Value}, Own w b e s A k c x → g ∈ aL A → ∃ cs, Blk w g e cs := fun h hg => by
    rcases h.2 with ⟨hv, _⟩ | ⟨g', c', cur, hv, _, hb, _⟩
    · cases hv; cases hg
    · cases hv
      simp only [aL, List.mem_singleton] at hg
      subst hg; exact ⟨cur, hb⟩
  obtain ⟨c1, q1⟩ := ht h h1
  obtain ⟨c2, q2⟩ := ht k h2
  exact hne (blk_type q1 q2)
/-- cells told by a function -/
def rowL (n : Nat) (g : Nat → Value) : List Value := (List.range n).map g
theorem rowL_len (n : Nat) (g : Nat → Value) : (rowL n g).length = n := by simp [rowL]
theorem rowL_get {n j : Nat} {g : Nat → Value} (h : j < n) : (rowL n g)[j]? = some (g j) := by simp [rowL, h]
theorem rowL_congr {n : Nat} {g g' : Nat → Value} (h : ∀ j, j < n → g j = g' j) : rowL n g = rowL n g' := List.map_congr_left (fun j hj => h j (List.mem_range.1 hj))
theorem rowL_set {n i : Nat} {g : Nat → Value} {v : Value} : (rowL n g).set i v = rowL n (fun x => if x = i then v else g x) := by
  refine List.ext_getElem (by simp [rowL]) (fun j h1 h2 => ?_)
  simp only [rowL, List.getElem_set, List.getElem_map, List.getElem_range]
  by_cases e : i = j
  · subst e; simp
  · rw [if_neg e, if_neg (fun h => e h.symm)]
theorem rowL_snoc {n : Nat} {g : Nat → Value} {v : Value} : rowL n g ++ [v] = rowL (n + 1) (fun x => if x < n then g x else v) := by
  unfold rowL
  rw [List.range_succ, List.map_append, List.map_cons, List.map_nil, if_neg (Nat.lt_irrefl n)]
  refine congrArg (· ++ [v]) (List.map_congr_left (fun j hj => ?_))
  rw [if_pos (List.mem_range.1 hj)]
/-- the cells of a slice of cells read -/
theorem Own.rowc {g : Nat → Value} {m : Nat} (h : Own w base e 1 A m cap (rowL m g)) {j : Nat} (hj : j < m) : ∃ q, A = some ⟨q, 0, none⟩ ∧ base ≤ q ∧ q < w.heap.size ∧ w.cell? ⟨q, 0 + j * 1, none⟩ = some (g j) := by
  have hne : rowL m g ≠ [] := fun e => by have := congrArg List.length e; rw [rowL_len] at this; simp at this; omega
  obtain ⟨q, h1, h2, h3, h4⟩ := h.cell hne
  have e0 : 0 + j * 1 = j := by omega
  exact ⟨q, h1, h2, h3, by rw [e0]; exact h4 j _ (rowL_get hj)⟩
end eng4
end Go.Proofs.YteoncmfiiknfbaaDoor
