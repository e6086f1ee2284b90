/- Completing types: how the lists lie in a world while they are made. No program in sight. -/
import Derived.Test.YtahdbbgkgokkhaaDoorSrt
namespace Go.Proofs.YtahdbbgkgokkhaaDoor
open Go.RowKit
theorem lkB_set : ∀ (m : List (ByteArray × Value)) (k : ByteArray) (v : Value) (s : ByteArray), lkB (setS m k v) s = (lkB m s || decide (k = s))
  | [], k, v, s => by simp [setS, lkB]
  | p :: r, k, v, s => by
    have ih := lkB_set r k v s
    unfold setS
    by_cases h : p.1 = k
    · rw [if_pos h]
      simp only [lkB, List.any_cons] at ih ⊢
      rw [h]
      cases decide (k = s) <;> simp
    · rw [if_neg h]
      simp only [lkB, List.any_cons] at ih ⊢
      rw [ih, Bool.or_assoc]
theorem own_typC {w : World} {base : Nat} {e : TypeId} {sz : Nat} {A : Option Addr} {k cap : Nat} {xs : List Value} (h : Own w base e sz A k cap xs) : ∀ g ∈ aL A, ∃ cs, Blk w g e cs := fun g hg => by
  rcases h.2 with ⟨hn, _⟩ | ⟨g', c, cur, hv, hb, hgg, r⟩
  · cases hn; cases hg
  · cases hv
    simp only [aL, List.mem_singleton] at hg
    subst hg; exact ⟨cur, hgg⟩
theorem own_apart {w : World} {b b2 sz sz2 k k2 c c2 : Nat} {e e2 : TypeId} {A A2 : Option Addr} {xs ys : List Value} (h : Own w b e sz A k c xs) (h2 : Own w b2 e2 sz2 A2 k2 c2 ys) (hne : e ≠ e2) : ∀ g ∈ aL A, g ∈ aL A2 → False := fun g hg hg2 => by
  obtain ⟨_, q1⟩ := own_typC h g hg
  obtain ⟨_, q2⟩ := own_typC h2 g hg2
  exact hne (blk_type q1 q2)
/-- parents that are finished: blocks from lo on, below hi -/
def PrI (lo hi : Nat) (w : World) (A : Option Addr) (xs : List Int) : Prop := xs.length ≤ maxI ∧ (xs ≠ [] → ∃ g cs, A = some ⟨g, 0, none⟩ ∧ lo ≤ g ∧ g < hi ∧ Blk w g 3 cs ∧ cs.toList.take xs.length = xs.map (Value.int .i64))
theorem PrI.tr {lo hi : Nat} {w w' : World} {A : Option Addr} {xs : List Int} {X : List Nat} (h : PrI lo hi w A xs) (hs : Same X w w') (hx : ∀ g ∈ X, hi ≤ g ∨ g < lo) : PrI lo hi w' A xs :=
  ⟨h.1, fun hn => by
    obtain ⟨g, cs, e, hlo, hl, hb, ht⟩ := h.2 hn
    exact ⟨g, cs, e, hlo, hl, hb.tr hs (fun hm => by rcases hx g hm with h1 | h1 <;> omega), ht⟩⟩
theorem PrI.up {lo hi hi' : Nat} {w : World} {A : Option Addr} {xs : List Int} (h : PrI lo hi w A xs) (hl : hi ≤ hi') : PrI lo hi' w A xs :=
  ⟨h.1, fun hn => by
    obtain ⟨g, cs, e, hlo, hg, hb, ht⟩ := h.2 hn
    exact ⟨g, cs, e, hlo, by omega, hb, ht⟩⟩
theorem PrI.low {lo lo' hi : Nat} {w : World} {A : Option Addr} {xs : List Int} (h : PrI lo hi w A xs) (hl : lo' ≤ lo) : PrI lo' hi w A xs :=
  ⟨h.1, fun hn => by
    obtain ⟨g, cs, e, hlo, hg, hb, ht⟩ := h.2 hn
    exact ⟨g, cs, e, by omega, hg, hb, ht⟩⟩
theorem PrI.ints {lo hi : Nat} {w : World} {A : Option Addr} {xs : List Int} (h : PrI lo hi w A xs) : IntsIn w A xs :=
  ⟨h.1, fun hn => by
    obtain ⟨g, cs, e, _, _, hb, ht⟩ := h.2 hn
    refine ⟨g, 0, e, hb.lt, fun k hk => ?_⟩
    rw [Nat.zero_add, Nat.mul_one]
    refine hb.cell ?_
    have h1 : (xs.map (Value.int .i64))[k]? = some (.int .i64 xs[k]) := by simp [hk]
    rw [← ht] at h1
    have h2 := (List.getElem?_eq_some_iff.1 h1).1
    rw [List.length_take] at h2
    rw [List.getElem?_take_of_lt (by omega), Array.getElem?_toList] at h1
    exact h1⟩
theorem own_prI {w : World} {base cap : Nat} {A : Option Addr} {xs : List Int} (h : Own w base 3 1 A xs.length cap (xs.map (Value.int .i64))) : PrI base w.heap.size w A xs := by
  refine ⟨h.max, fun hn => ?_⟩
  have hp := List.length_pos_iff.2 hn
  obtain ⟨g, cur, e, hlo, hb, _, _, ht⟩ := h.whole hp
  rw [Nat.mul_one] at ht
  exact ⟨g, cur, e, hlo, hb.lt, hb, ht⟩
/-- the cells of types -/
def RwT (lo hi : Nat) (w : World) (l : List Ty) (vs : List Value) : Prop := vs.length = l.length * 2 ∧ ∀ k (hk : k < l.length), ∃ A c, vs[k * 2]? = some (.string (l[k]).name) ∧ vs[k * 2 + 1]? = some (.slice A (l[k]).par.length c) ∧ PrI lo hi w A (l[k]).par
theorem RwT.nil (lo hi : Nat) (w : World) : RwT lo hi w [] [] := ⟨rfl, fun k hk => by simp at hk⟩
theorem RwT.tr {lo hi : Nat} {w w' : World} {l : List Ty} {vs : List Value} {X : List Nat} (h : RwT lo hi w l vs) (hs : Same X w w') (hx : ∀ g ∈ X, hi ≤ g ∨ g < lo) : RwT lo hi w' l vs :=
  ⟨h.1, fun k hk => by obtain ⟨A, c, e1, e2, hp⟩ := h.2 k hk; exact ⟨A, c, e1, e2, hp.tr hs hx⟩⟩
theorem RwT.up {lo hi hi' : Nat} {w : World} {l : List Ty} {vs : List Value} (h : RwT lo hi w l vs) (hl : hi ≤ hi') : RwT lo hi' w l vs :=
  ⟨h.1, fun k hk => by obtain ⟨A, c, e1, e2, hp⟩ := h.2 k hk; exact ⟨A, c, e1, e2, hp.up hl⟩⟩
theorem RwT.snoc {lo hi : Nat} {w : World} {l : List Ty} {vs : List Value} {s : ByteArray} {xs : List Int} {A : Option Addr} {c : Nat} (h : RwT lo hi w l vs) (hp : PrI lo hi w A xs) : RwT lo hi w (l ++ [⟨s, xs⟩]) (vs ++ [.string s, .slice A xs.length c]) := by
  have h1 := h.1
  refine ⟨by simp [h1]; omega, fun k hk => ?_⟩
  by_cases e : k < l.length
  · obtain ⟨A2, c2, e1, e2, hp2⟩ := h.2 k e
    refine ⟨A2, c2, ?_, ?_, ?_⟩
    · rw [List.getElem?_append_left (by omega), List.getElem_append_left e]; exact e1
    · rw [List.getElem?_append_left (by omega), List.getElem_append_left e]; exact e2
    · rw [List.getElem_append_left e]; exact hp2
  · have e2 : k = l.length := by simp at hk; omega
    subst e2
    refine ⟨A, c, ?_, ?_, ?_⟩
    · rw [List.getElem?_append_right (by omega), h1, Nat.sub_self]; simp
    · rw [List.getElem?_append_right (by omega), h1, show l.length * 2 + 1 - l.length * 2 = 1 by omega]; simp
    · simpa using hp
theorem types_ofBlk {w : World} {lo hi g : Nat} {cur : Array Value} {l : List Ty} {vs : List Value} (hb : Blk w g 35 cur) (ht : cur.toList.take (l.length * 2) = vs) (h : RwT lo hi w l vs) (hm : l.length ≤ 1000) : TypesIn w (some ⟨g, 0, none⟩) l := by
  have h1 := h.1
  refine ⟨by unfold maxI; omega, fun _ => ⟨g, 0, rfl, hb.lt, fun k hk => ?_⟩⟩
  obtain ⟨A', c, e1, e2, hp⟩ := h.2 k hk
  have hc : ∀ j v, vs[j]? = some v → j < l.length * 2 → w.cell? ⟨g, j, none⟩ = some v := fun j v hj hl => by
    rw [← ht, List.getElem?_take_of_lt hl, Array.getElem?_toList] at hj
    exact hb.cell hj
  refine ⟨A', c, fun j v hj => ?_, hp.ints⟩
  rw [Nat.zero_add]
  match j with
  | 0 => rw [Nat.add_zero]; cases hj; exact hc _ _ e1 (by omega)
  | 1 => cases hj; exact hc _ _ e2 (by omega)
  | j + 2 => cases hj
/-- the cells behind place k: names, no parents -/
def resV (O : List (Nat × ByteArray)) (k : Nat) : List Value := (O.drop k).flatMap (fun p => [.string p.2, .slice none 0 0])
theorem resV_cons {O : List (Nat × ByteArray)} {k : Nat} (h : k < O.length) : resV O k = [.string (O.getD k (0, ⟨#[]⟩)).2, .slice none 0 0] ++ resV O (k + 1) := by
  unfold resV
  rw [List.drop_eq_getElem_cons h, List.flatMap_cons, List.getD_eq_getElem?_getD, List.getElem?_eq_getElem h]
  rfl
theorem resV_end (O : List (Nat × ByteArray)) : resV O O.length = [] := by unfold resV; rw [List.drop_length]; rfl
def outV (O : List (Nat × ByteArray)) : List Value := O.flatMap (fun p => [.string p.2, .slice none 0 0])
theorem outV_snoc (O : List (Nat × ByteArray)) (p : Nat × ByteArray) : outV (O ++ [p]) = outV O ++ [.string p.2, .slice none 0 0] := by unfold outV; rw [List.flatMap_append]; rfl
/-- the cells while row i gets its parents -/
structure OutC (O : List (Nat × ByteArray)) (i : Nat) (cur : Array Value) (vf : List Value) (A : Option Addr) (m c : Nat) : Prop where
  tk : cur.toList.take (O.length * 2) = vf ++ ([.string (O.getD i (0, ⟨#[]⟩)).2, .slice A m c] ++ resV O (i + 1))
  ln : vf.length = i * 2
theorem OutC.start {O : List (Nat × ByteArray)} {i : Nat} {cur : Array Value} {vf : List Value} (h : cur.toList.take (O.length * 2) = vf ++ resV O i) (hl : vf.length = i * 2) (hi : i < O.length) : OutC O i cur vf none 0 0 := ⟨by rw [h, resV_cons hi], hl⟩
theorem OutC.cell {O : List (Nat × ByteArray)} {i : Nat} {cur : Array Value} {vf : List Value} {A : Option Addr} {m c : Nat} (h : OutC O i cur vf A m c) (hi : i < O.length) : cur[i * 2 + 1]? = some (.slice A m c) := by
  have h1 : (cur.toList.take (O.length * 2))[i * 2 + 1]? = some (.slice A m c) := by
    rw [h.tk, List.getElem?_append_right (by rw [h.ln]; omega), h.ln, show i * 2 + 1 - i * 2 = 1 by omega]; rfl
  rw [List.getElem?_take_of_lt (by omega), Array.getElem?_toList] at h1
  exact h1
theorem OutC.set {O : List (Nat × ByteArray)} {i : Nat} {cur : Array Value} {vf : List Value} {A A' : Option Addr} {m c m' c' : Nat} (h : OutC O i cur vf A m c) : OutC O i (cur.setIfInBounds (0 + i * 2 + 1) (.slice A' m' c')) vf A' m' c' := by
  refine ⟨?_, h.ln⟩
  rw [Nat.zero_add, Array.toList_setIfInBounds, List.take_set, h.tk, ← h.ln, List.set_append_right _ _ (by omega), show vf.length + 1 - vf.length = 1 by omega]
  rfl
theorem OutC.size {O : List (Nat × ByteArray)} {i : Nat} {cur : Array Value} {vf : List Value} {A : Option Addr} {m c : Nat} (h : OutC O i cur vf A m c) (hi : i < O.length) : 0 + i * 2 + 1 < cur.size := by
  have := (Array.getElem?_eq_some_iff.1 (h.cell hi)).1
  omega
theorem OutC.next {O : List (Nat × ByteArray)} {i : Nat} {cur : Array Value} {vf : List Value} {A : Option Addr} {m c : Nat} (h : OutC O i cur vf A m c) : cur.toList.take (O.length * 2) = (vf ++ [.string (O.getD i (0, ⟨#[]⟩)).2, .slice A m c]) ++ resV O (i + 1) := by rw [h.tk, List.append_assoc]
def outK (O : List (Nat × ByteArray)) (i : Nat) : List Ty := (List.range i).map (tyO O)
theorem outK_succ (O : List (Nat × ByteArray)) (i : Nat) : outK O (i + 1) = outK O i ++ [tyO O i] := by unfold outK; rw [List.range_succ, List.map_append]; rfl
theorem outK_len (O : List (Nat × ByteArray)) (i : Nat) : (outK O i).length = i := by simp [outK]
/-! ## popping -/
def hdZ (D : List Nat) (i : Nat) : Bool := match D with
  | [] => false
  | x :: _ => decide (tz x = i)
theorem hdZ_yes {D : List Nat} {i : Nat} (h : hdZ D i = true) : ∃ x D', D = x :: D' ∧ tz x = i := by
  cases D with
  | nil => cases h
  | cons x D' => exact ⟨x, D', rfl, by simpa [hdZ] using h⟩
theorem hdZ_no {D : List Nat} {i : Nat} (h : ¬ hdZ D i = true) : ∀ x ∈ D.head?, tz x ≠ i := by
  cases D with
  | nil => intro x hx; cases hx
  | cons x D' =>
    intro y hy
    cases hy
    simpa [hdZ] using h
theorem pp0 {D : List Nat} {i : Nat} (h : ¬ (0 : Int) < ((D.length : Nat) : Int)) : Value.bool false = .bool (decide (hdZ D i = true)) := by
  cases D with
  | nil => rfl
  | cons x D' => exact absurd (by rw [List.length_cons]; omega) h
theorem pp1 {x : Nat} {D' : List Nat} {i : Nat} : Value.bool (decide (((tz x : Nat) : Int) = (i : Int))) = .bool (decide (hdZ (x :: D') i = true)) := by
  congr 1
  show _ = decide (decide (tz x = i) = true)
  by_cases h : tz x = i
  · simp [h]
  · have : ¬ ((tz x : Nat) : Int) = (i : Int) := by omega
    simp [h, this]
theorem UIn.cons {w : World} {A : Option Addr} {x : Nat} {D : List Nat} {cap : Nat} (h : UIn w A (x :: D)) (hc : (x :: D).length ≤ cap) : ∃ AW, (if cap = 1 then A else A.map (·.add (1 * 1))) = AW ∧ UIn w AW D := by
  refine ⟨_, rfl, by have := h.1; rw [List.length_cons] at this; omega, fun hn => ?_⟩
  have hp := List.length_pos_iff.2 hn
  rw [List.length_cons] at hc
  rw [if_neg (by omega)]
  obtain ⟨b, o, e, hl, hcl⟩ := h.2 (by simp)
  refine ⟨b, o + 1, by rw [e]; rfl, hl, fun k hk => ?_⟩
  have := hcl (k + 1) (by simpa using hk)
  rw [show o + 1 + k * 1 = o + (k + 1) * 1 by omega]
  simpa using this
/-! ## closing -/
theorem cl1 {S : List Nat} {x : Nat} (h : ((x : Nat) : Int) = 0) : Value.bool true = .bool (decide (x = 0 ∨ x ∈ S)) := by
  congr 1; exact (decide_eq_true (.inl (by omega))).symm
theorem cl2 {S A : List Nat} {x : Nat} (h : decide (x ∈ S) = true) : Value.bool true = .bool (decide (x = 0 ∨ x ∈ S ++ A)) := by
  congr 1; exact (decide_eq_true (.inr (List.mem_append_left _ (of_decide_eq_true h)))).symm
theorem cl3 {S A : List Nat} {x : Nat} (h0 : ¬ ((x : Nat) : Int) = 0) (h : decide (x ∈ S) = false) : Value.bool (decide (x ∈ A)) = .bool (decide (x = 0 ∨ x ∈ S ++ A)) := by
  congr 1
  have h1 : x ≠ 0 := by omega
  have h2 := of_decide_eq_false h
  simp [h1, h2]
theorem getD_app {S A : List Nat} {i : Nat} (h : i < S.length) : (S ++ A).getD i 0 = S[i] := by
  rw [List.getD_eq_getElem?_getD, List.getElem?_append_left h, List.getElem?_eq_getElem h]; rfl
theorem getD_app2 {S A : List Nat} {i : Nat} (h : S.length ≤ i) (h2 : i - S.length < A.length) : (S ++ A).getD i 0 = A[i - S.length] := by
  rw [List.getD_eq_getElem?_getD, List.getElem?_append_right h, List.getElem?_eq_getElem h2]; rfl
theorem any_snoc {p : Nat → Bool} {k : Nat} : (List.range (k + 1)).any p = ((List.range k).any p || p k) := by rw [List.range_succ, List.any_append]; simp
theorem bt0 {M : List Nat} {i j k : Nat} (h : ¬ (k : Int) ≠ (j : Int)) : Value.bool false = .bool (decide (btw M i j k = true)) := by
  have : k = j := by omega
  simp [btw, this]
theorem bt1 {M : List Nat} {i j k : Nat} {x z : Nat} (hx : M.getD i 0 = x) (hz : M.getD k 0 = z) (bx : x < 18446744073709551616) (bz : z < 18446744073709551616) (h : ¬ ((anN x z : Nat) : Int) = 0) : Value.bool false = .bool (decide (btw M i j k = true)) := by
  have h1 : subN x z = false := by
    cases e : subN x z with
    | false => rfl
    | true => exact absurd (by rw [(anN_zero bx bz).2 e]; rfl) h
  unfold btw
  rw [hx, hz, h1]
  simp
theorem bt2 {M : List Nat} {i j k : Nat} {x y z : Nat} (hx : M.getD i 0 = x) (hz : M.getD k 0 = z) (hy : M.getD j 0 = y) (bx : x < 18446744073709551616) (bz : z < 18446744073709551616) (bY : y < 18446744073709551616) (h0 : (k : Int) ≠ (j : Int)) (h : ((anN x z : Nat) : Int) = 0) : Value.bool (decide (((anN z y : Nat) : Int) = 0)) = .bool (decide (btw M i j k = true)) := by
  have h1 : subN x z = true := (anN_zero bx bz).1 (by omega)
  have hk : k ≠ j := by omega
  congr 1
  have e : btw M i j k = subN z y := by
    unfold btw
    rw [hx, hz, hy, h1]
    simp [hk]
  rw [e]
  refine decide_eq_decide.2 ⟨fun h => (anN_zero bz bY).1 (by omega), fun h => ?_⟩
  have := (anN_zero bz bY).2 h
  omega
theorem glb_ok {k : Nat} (h : k < 100) : (⟨#[103, 108, 98, 45]⟩ : ByteArray).size + (⟨(Lib.decDigits k).toArray⟩ : ByteArray).size ≤ 9223372036854775807 := by
  have h1 : (⟨(Lib.decDigits k).toArray⟩ : ByteArray).size = Lib.nDigits k := by
    show (Lib.decDigits k).toArray.size = _
    rw [List.size_toArray, Lib.decDigits_length]
  have h2 : (⟨#[103, 108, 98, 45]⟩ : ByteArray).size = 4 := rfl
  have h3 : Lib.nDigits k ≤ 2 := by
    by_cases e : k < 10
    · rw [Lib.nDigits_small e]; omega
    · rw [Lib.nDigits_big e, Lib.nDigits_small (by omega)]; omega
  omega
end Go.Proofs.YtahdbbgkgokkhaaDoor
