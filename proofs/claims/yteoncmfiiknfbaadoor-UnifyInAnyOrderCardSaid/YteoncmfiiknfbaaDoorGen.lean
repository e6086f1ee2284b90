/- Generalization as the greatest bound: the graph of the pairs of nodes, and what maps to it. No program in sight. -/
import Derived.Test.YteoncmfiiknfbaaDoorOrd
namespace Go.Proofs.YteoncmfiiknfbaaDoor
open Go.RowKit
/-! ## least common supertypes -/
theorem top_of {l : List Ty} (h : (typesFault l).1 = 0) : ∀ (n i : Nat), i ≤ n → i < l.length → sub l i 0 = true
  | n, i, hin, hi => by
    have hv := vt_of h
    by_cases e : i = 0
    · subst e; exact sub_refl hv 0
    · have ht := (tyFault_ok hi (types_ok h hi)).2.2.1
      have hne : (l[i]).par ≠ [] := fun hp => by rw [hp] at ht; simp [e] at ht
      obtain ⟨p, hp⟩ := List.exists_mem_of_ne_nil _ hne
      have hpr := hv i hi p hp
      cases n with
      | zero => omega
      | succ n =>
        have := top_of h n p.toNat (by omega) (by omega)
        exact sub_tr hv (sub_par hv hi hp) this
/-! ## the graph of the pairs -/
section gen
variable {l : List Ty} {fs : List Ft} {a b c : List Nd}
variable {o : List Nat}
end gen
end Go.Proofs.YteoncmfiiknfbaaDoor
