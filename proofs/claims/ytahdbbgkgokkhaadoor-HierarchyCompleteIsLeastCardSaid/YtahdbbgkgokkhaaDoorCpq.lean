/- Completing types: what the walk of the parents needs. No program in sight. -/
import Derived.Test.YtahdbbgkgokkhaaDoorCpo
namespace Go.Proofs.YtahdbbgkgokkhaaDoor
open Go.RowKit
theorem outG_lt {l : List Ty} {nm : Nat → ByteArray} {u : Nat → Bool} (h60 : l.length ≤ 60) : ∀ (k i a : Nat) (D : List Nat), (∀ x ∈ D, x < 18446744073709551616) → ∀ p ∈ outG (downN l) nm u k i a D, p.1 < 18446744073709551616
  | 0, _, _, _, _, p, hp => by cases hp
  | k + 1, i, a, [], hD, p, hp => by
    rcases List.mem_cons.1 hp with rfl | h
    · exact downN_lt h60 i
    · exact outG_lt h60 k (i + 1) a [] hD p h
  | k + 1, i, a, x :: D, hD, p, hp => by
    by_cases ht : tz x = i
    · rw [outG_pop ht] at hp
      rcases List.mem_cons.1 hp with rfl | h
      · exact hD x (List.mem_cons_self ..)
      · exact outG_lt h60 k i _ D (fun y hy => hD y (List.mem_cons_of_mem _ hy)) p h
    · rw [outG_old (by simpa using ht)] at hp
      rcases List.mem_cons.1 hp with rfl | h
      · exact downN_lt h60 i
      · exact outG_lt h60 k (i + 1) a (x :: D) hD p h
theorem outM_lt {l : List Ty} {D : List Nat} {pr : List (Nat × ByteArray)} (h60 : l.length ≤ 60) (hD : ∀ x ∈ D, x < 18446744073709551616) (hp : outL l D = pr) : ∀ x ∈ pr.map Prod.fst, x < 18446744073709551616 := fun x hx => by
  obtain ⟨p, hpm, rfl⟩ := List.mem_map.1 hx
  rw [← hp] at hpm
  exact outG_lt h60 _ _ _ _ hD p hpm
theorem getD_lt {M : List Nat} (h : ∀ x ∈ M, x < 18446744073709551616) {i : Nat} (hi : i < M.length) : M.getD i 0 < 18446744073709551616 := h _ (getD_mem hi)
theorem curA_at {cur : Array Value} {M : List Nat} (h : cur.toList.take (M.length * 1) = M.map uV) {j : Nat} (hj : j < M.length) : cur[0 + j * 1]? = some (.int .u64 ((M.getD j 0 : Nat) : Int)) := by
  have h1 : (M.map uV)[j]? = some (.int .u64 ((M.getD j 0 : Nat) : Int)) := by simp [hj, uV]
  rw [← h, List.getElem?_take_of_lt (by omega), Array.getElem?_toList] at h1
  rw [Nat.zero_add, Nat.mul_one]
  exact h1
theorem OutC.cell0 {O : List (Nat × ByteArray)} {i : Nat} {cur : Array Value} {vf : List Value} {A : Option Addr} {m c : Nat} (h : OutC O i cur vf A m c) (hi : i < O.length) : cur[0 + i * 2 + 1]? = some (.slice A m c) := by
  rw [Nat.zero_add]; exact h.cell hi
theorem dir_no1 {M : List Nat} {i j : Nat} (h : subN (M.getD i 0) (M.getD j 0) = false) : dirB M i j = false := by unfold dirB; rw [h]; rfl
theorem dir_no2 {M : List Nat} {i j : Nat} (h : (!((List.range i).any (btw M i j))) = false) : dirB M i j = false := by
  unfold dirB
  rw [show ((List.range i).any fun k => btw M i j k) = (List.range i).any (btw M i j) from rfl, h, Bool.and_false]
theorem dir_yes {M : List Nat} {i j : Nat} (h1 : subN (M.getD i 0) (M.getD j 0) = true) (h : (!((List.range i).any (btw M i j))) = true) : dirB M i j = true := by
  unfold dirB
  rw [show ((List.range i).any fun k => btw M i j k) = (List.range i).any (btw M i j) from rfl, h, h1]; rfl
theorem row_done {O : List (Nat × ByteArray)} {lo hi i ci : Nat} {w : World} {vf : List Value} {Ai : Option Addr} (hR : RwT lo hi w (outK O i) vf) (ho : Own w hi 3 1 Ai (parK (O.map (·.1)) i i).length ci ((parK (O.map (·.1)) i i).map (Value.int .i64))) (h1 : hi ≤ w.heap.size) (h2 : lo ≤ hi) : RwT lo w.heap.size w (outK O (i + 1)) (vf ++ [.string (O.getD i (0, ⟨#[]⟩)).2, .slice Ai (parK (O.map (·.1)) i i).length ci]) := by
  rw [outK_succ]
  exact (hR.up h1).snoc ((own_prI ho).low h2)
theorem parK_le (M : List Nat) (i j : Nat) : (parK M i j).length ≤ j := by
  unfold parK
  rw [List.length_map]
  exact Nat.le_trans (List.length_filter_le ..) (by simp)
end Go.Proofs.YtahdbbgkgokkhaaDoor
