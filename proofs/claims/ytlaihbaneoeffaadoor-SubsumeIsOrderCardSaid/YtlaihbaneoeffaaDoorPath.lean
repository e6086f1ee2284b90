/- Targets of links, walks along paths, what At answers. No program in sight. -/
import Derived.Test.YtlaihbaneoeffaaDoorGCan
namespace Go.Proofs.YtlaihbaneoeffaaDoor
open Go.RowKit
def tgt (xs : List (Int × Int)) (f : Int) : Int := match xs.find? (fun y => decide (y.1 = f)) with
  | some y => y.2
  | none => -1
theorem tgt_at {f : Int} : ∀ {xs : List (Int × Int)} {i : Nat} (hi : i < xs.length), (xs[i]).1 = f → (∀ j (hj : j < xs.length), j < i → ¬ (xs[j]).1 = f) → tgt xs f = (xs[i]).2
  | [], _, hi, _, _ => absurd hi (by simp)
  | x :: xs, 0, _, h, _ => by
    have h1 : x.1 = f := h
    unfold tgt
    rw [List.find?_cons, decide_eq_true h1]
    rfl
  | x :: xs, i + 1, hi, h, hb => by
    have h0 : ¬ x.1 = f := hb 0 (by simp) (by omega)
    have ih := tgt_at (xs := xs) (i := i) (by simpa using hi) h (fun j hj hji => hb (j + 1) (by simpa using hj) (by omega))
    unfold tgt at ih ⊢
    rw [List.find?_cons, decide_eq_false h0]
    exact ih
theorem tgt_no {f : Int} : ∀ {xs : List (Int × Int)}, (∀ j (hj : j < xs.length), ¬ (xs[j]).1 = f) → tgt xs f = -1
  | [], _ => rfl
  | x :: xs, h => by
    have h0 : ¬ x.1 = f := h 0 (by simp)
    have ih := tgt_no (xs := xs) (f := f) (fun j hj => h (j + 1) (by simpa using hj))
    unfold tgt at ih ⊢
    rw [List.find?_cons, decide_eq_false h0]
    exact ih
theorem ln_sorted {nf n : Nat} : ∀ {xs : List (Int × Int)} {last : Int}, lnFault nf n last xs = 0 → (∀ j (hj : j < xs.length), last < (xs[j]).1) ∧ ∀ i j (hi : i < xs.length) (hj : j < xs.length), i < j → (xs[i]).1 < (xs[j]).1
  | [], _, _ => ⟨fun j hj => absurd hj (by simp), fun i j hi => absurd hi (by simp)⟩
  | y :: ys, last, h => by
    unfold lnFault at h
    by_cases h1 : lnBad nf n y
    · rw [if_pos h1] at h; cases h
    rw [if_neg h1] at h
    by_cases h2 : y.1 ≤ last
    · rw [if_pos h2] at h; cases h
    rw [if_neg h2] at h
    obtain ⟨ih1, ih2⟩ := ln_sorted h
    refine ⟨fun j hj => ?_, fun i j hi hj hij => ?_⟩
    · match j, hj with
      | 0, _ => show last < y.1; omega
      | j + 1, hj =>
        have := ih1 j (by simpa using hj)
        show last < (ys[j]'(by simpa using hj)).1
        omega
    · match i, j, hi, hj, hij with
      | 0, j + 1, _, hj, _ => exact ih1 j (by simpa using hj)
      | i + 1, j + 1, hi, hj, hij => exact ih2 i j (by simpa using hi) (by simpa using hj) (by omega)
/-- what a binary search finds, in links in order -/
theorem tgt_bs {nf n : Nat} {xs : List (Int × Int)} {last f : Int} {i : Nat} (hs : lnFault nf n last xs = 0) (hlo : ∀ j (hj : j < xs.length), j < i → (xs[j]).1 < f) (hhi : ∀ j (hj : j < xs.length), i ≤ j → f ≤ (xs[j]).1) :
    (∀ h : i < xs.length, (xs[i]).1 = f → tgt xs f = (xs[i]).2) ∧ ((¬ ∃ h : i < xs.length, (xs[i]).1 = f) → tgt xs f = -1) := by
  refine ⟨fun h e => tgt_at h e (fun j hj hji => by have := hlo j hj hji; omega), fun hn => tgt_no (fun j hj e => ?_)⟩
  by_cases h1 : j < i
  · have := hlo j hj h1; omega
  · by_cases h2 : j = i
    · subst h2; exact hn ⟨hj, e⟩
    · have h3 := (ln_sorted hs).2 i j (by omega) hj (by omega)
      have h4 := hhi i (by omega) (Nat.le_refl _)
      omega
theorem tgt_mem {xs : List (Int × Int)} {f : Int} : tgt xs f = -1 ∨ ∃ y ∈ xs, y.1 = f ∧ tgt xs f = y.2 := by
  unfold tgt
  cases h : xs.find? (fun y => decide (y.1 = f)) with
  | none => exact .inl rfl
  | some y => exact .inr ⟨y, List.mem_of_find?_eq_some h, by simpa using List.find?_some h, rfl⟩
theorem tgt_rng {nt nf : Nat} {g : List Nd} (hk : GOk nt nf g) {i : Nat} (hi : i < g.length) (f : Int) : -1 ≤ tgt (g[i]).ln f ∧ tgt (g[i]).ln f < g.length := by
  rcases tgt_mem (xs := (g[i]).ln) (f := f) with h | ⟨y, hy, _, h⟩
  · rw [h]; omega
  · have := hk.ln i hi y hy
    rw [h]; omega
def walkT (g : List Nd) : List Int → Int → Int
  | [], a => a
  | f :: p, a => if a < 0 then a else walkT g p (tgt (nd g a.toNat).ln f)
theorem walkT_neg {g : List Nd} {a : Int} (h : a < 0) : ∀ p, walkT g p a = a
  | [] => rfl
  | f :: p => by unfold walkT; rw [if_pos h]
theorem walkT_step {g : List Nd} {p : List Int} {k a : Nat} (hk : k < p.length) (ha : a < g.length) : walkT g (p.drop k) a = walkT g (p.drop (k + 1)) (tgt (g[a]).ln p[k]) := by
  rw [List.drop_eq_getElem_cons hk]
  show (if ((a : Nat) : Int) < 0 then _ else _) = _
  rw [if_neg (by omega), Int.toNat_natCast, nd_eq ha]
theorem walkT_app {g : List Nd} : ∀ (p q : List Int) (a : Int), walkT g (p ++ q) a = walkT g q (walkT g p a)
  | [], _, _ => rfl
  | f :: p, q, a => by
    show (if a < 0 then a else walkT g (p ++ q) _) = walkT g q (if a < 0 then a else walkT g p _)
    by_cases h : a < 0
    · rw [if_pos h, if_pos h, walkT_neg h]
    · rw [if_neg h, if_neg h]; exact walkT_app p q _
def pF (nf : Nat) (p : List Int) (i : Nat) : Int := match p[i]? with
  | none => 0
  | some x => if x < 0 ∨ (nf : Int) ≤ x then 3 else 0
theorem pF_yes {nf : Nat} {p : List Int} {i : Nat} (hi : i < p.length) (h : p[i] < 0 ∨ (nf : Int) ≤ p[i]) : pF nf p i = 3 := by simp only [pF, List.getElem?_eq_getElem hi, if_pos h]
theorem pF_no {nf : Nat} {p : List Int} {i : Nat} (hi : i < p.length) (h : ¬ (p[i] < 0 ∨ (nf : Int) ≤ p[i])) : pF nf p i = 0 := by simp only [pF, List.getElem?_eq_getElem hi, if_neg h]
noncomputable def atF (l : List Ty) (fs : List Ft) (g : List Nd) (p : List Int) : Fl := if ¬ (graphF l fs g).1 = 0 then graphF l fs g else if 300 < p.length then (2, -3) else firstF (pF fs.length p) 0 p.length
theorem atF_g {l : List Ty} {fs : List Ft} {g : List Nd} {p : List Int} (h : ¬ (graphF l fs g).1 = 0) : atF l fs g p = graphF l fs g := by unfold atF; rw [if_pos h]
theorem atF_l {l : List Ty} {fs : List Ft} {g : List Nd} {p : List Int} (h : (graphF l fs g).1 = 0) (h2 : 300 < p.length) : atF l fs g p = (2, -3) := by unfold atF; rw [if_neg (fun k => k h), if_pos h2]
theorem atF_p {l : List Ty} {fs : List Ft} {g : List Nd} {p : List Int} (h : (graphF l fs g).1 = 0) (h2 : ¬ 300 < p.length) : atF l fs g p = firstF (pF fs.length p) 0 p.length := by unfold atF; rw [if_neg (fun k => k h), if_neg h2]
noncomputable def ordR (g : List Nd) (r : Nat) : List Nat := @Classical.epsilon (List Nat) ⟨[]⟩ (fun o => DL g [r] [] o)
theorem ordR_is {g : List Nd} {r : Nat} {o : List Nat} (h : DL g [r] [] o) : ordR g r = o := (@Classical.epsilon_spec (List Nat) (fun o => DL g [r] [] o) ⟨o, h⟩).det h
def AtOk (l : List Ty) (fs : List Ft) (g : List Nd) (p : List Int) : Prop := (atF l fs g p).1 = 0 ∧ 0 ≤ walkT g p 0
noncomputable instance (l : List Ty) (fs : List Ft) (g : List Nd) (p : List Int) : Decidable (AtOk l fs g p) := Classical.propDecidable _
noncomputable def atG (l : List Ty) (fs : List Ft) (g : List Nd) (p : List Int) : List Nd := if AtOk l fs g p then canG g (ordR g (walkT g p 0).toNat) else []
theorem atG_no {l : List Ty} {fs : List Ft} {g : List Nd} {p : List Int} (h : ¬ AtOk l fs g p) : atG l fs g p = [] := by unfold atG; rw [if_neg h]
theorem atG_yes {l : List Ty} {fs : List Ft} {g : List Nd} {p : List Int} {a : Nat} {o : List Nat} (h : AtOk l fs g p) (ha : walkT g p 0 = a) (hd : DL g [a] [] o) : atG l fs g p = canG g o := by
  unfold atG
  rw [if_pos h, ha, Int.toNat_natCast, ordR_is hd]
/-- At's answer, as a value -/
noncomputable def atV (A : Option Addr) (l : List Ty) (fs : List Ft) (g : List Nd) (p : List Int) : Value := .tuple #[.agg #[.slice A (atG l fs g p).length (atG l fs g p).length], .bool (decide (AtOk l fs g p)), .agg #[.int .i64 (atF l fs g p).1, .int .i64 (atF l fs g p).2]]
def AtR (lo : Nat) (l : List Ty) (fs : List Ft) (g : List Nd) (p : List Int) (e : Ending) (w : World) : Prop := ∃ A, e = .returned (atV A l fs g p) ∧ (∀ w2, FrSame lo w w2 → NodesIn w2 A (atG l fs g p)) ∧ (AtOk l fs g p → ∃ (a : Nat) (o : List Nat), a < g.length ∧ walkT g p 0 = a ∧ DL g [a] [] o ∧ atG l fs g p = canG g o)
theorem at_no {l : List Ty} {fs : List Ft} {g : List Nd} {p : List Int} {w : World} {lo : Nat} (F : Fl) (hF : atF l fs g p = F) (h : ¬ AtOk l fs g p) : AtR lo l fs g p (.returned (.tuple #[.agg #[.slice none 0 0], .bool false, .agg #[.int .i64 F.1, .int .i64 F.2]])) w :=
  ⟨none, by unfold atV; rw [atG_no h, decide_eq_false h, hF]; rfl, by rw [atG_no h]; exact fun w2 _ => nodes_nil w2 none, fun k => absurd k h⟩
theorem at_yes {l : List Ty} {fs : List Ft} {g : List Nd} {p : List Int} {w : World} {lo : Nat} {A : Option Addr} {a : Nat} {o : List Nat} (h0 : atF l fs g p = (0, 0)) (hal : a < g.length) (ha : walkT g p 0 = a) (hd : DL g [a] [] o) (hN : ∀ w2, FrSame lo w w2 → NodesIn w2 A (canG g o)) : AtR lo l fs g p (.returned (.tuple #[.agg #[.slice A o.length o.length], .bool true, .agg #[.int .i64 0, .int .i64 0]])) w := by
  have hok : AtOk l fs g p := ⟨by rw [h0], by rw [ha]; omega⟩
  have e := atG_yes hok ha hd
  refine ⟨A, ?_, by rw [e]; exact hN, fun _ => ⟨a, o, hal, ha, hd, e⟩⟩
  unfold atV; rw [e, canG_len, decide_eq_true hok, h0]
end Go.Proofs.YtlaihbaneoeffaaDoor
