/- Suffixes of rows of links, and slices of such: what the walks of a pool of nodes read. No program in sight. -/
import Derived.Test.YteoncmfiiknfbaaDoorEng4
import Derived.Test.YteoncmfiiknfbaaDoorUni
namespace Go.Proofs.YteoncmfiiknfbaaDoor
open Go.RowKit
theorem Own.rowq {w : World} {base q m cap : Nat} {e : TypeId} {g : Nat → Value} (h : Own w base e 1 (some ⟨q, 0, none⟩) m cap (rowL m g)) {j : Nat} (hj : j < m) : w.cell? ⟨q, 0 + j * 1, none⟩ = some (g j) := by
  obtain ⟨q', h1, _, _, h2⟩ := h.rowc hj
  cases h1; exact h2
/-- numbers of a forest, of types -/
def vN (P : Nat → Nat) (x : Nat) : Value := .int .i64 ((P x : Nat) : Int)
def vI (T : Nat → Int) (x : Nat) : Value := .int .i64 (T x)
theorem lnV_len (xs : List (Int × Int)) : (lnV xs).length = xs.length * 2 := by
  induction xs with
  | nil => rfl
  | cons x xs ih => rw [show lnV (x :: xs) = [Value.int .i64 x.1, Value.int .i64 x.2] ++ lnV xs from rfl, List.length_append, ih]; simp; omega
theorem lnV_one (xs : List (Int × Int)) : (lnV xs).all (·.oneCell') = true := by
  induction xs with
  | nil => rfl
  | cons x xs ih => rw [show lnV (x :: xs) = [Value.int .i64 x.1, Value.int .i64 x.2] ++ lnV xs from rfl, List.all_append, ih]; rfl
theorem lnV_app (xs ys : List (Int × Int)) : lnV (xs ++ ys) = lnV xs ++ lnV ys := by simp [lnV]
theorem lnV_take (xs : List (Int × Int)) (k : Nat) : (lnV xs).take (k * 2) = lnV (xs.take k) := by
  induction xs generalizing k with
  | nil => simp [lnV]
  | cons x xs ih =>
    cases k with
    | zero => simp [lnV]
    | succ k =>
      rw [show (k + 1) * 2 = k * 2 + 1 + 1 from by omega, show lnV (x :: xs) = Value.int .i64 x.1 :: Value.int .i64 x.2 :: lnV xs from rfl, List.take_succ_cons, List.take_succ_cons, ih]
      rfl
/-- the cells of links, for an append -/
theorem LinksIn.news {w : World} {A : Option Addr} {xs : List (Int × Int)} (h : LinksIn w A xs) : 0 < xs.length → ∃ b o', A = some ⟨b, o', none⟩ ∧ ∀ j u, (lnV xs)[j]? = some u → w.cell? ⟨b, o' + j, none⟩ = some u := fun hm => by
  obtain ⟨b, o, rfl, _, hc⟩ := h.2 (fun e => by rw [e] at hm; simp at hm)
  refine ⟨b, o, rfl, fun j u hu => ?_⟩
  have hj : j < xs.length * 2 := by
    have := (List.getElem?_eq_some_iff.1 hu).1
    rwa [lnV_len] at this
  have hk : j / 2 < xs.length := by omega
  have h2 := lnV_get xs (j / 2) hk
  have h3 := hc (j / 2) hk
  rcases Nat.mod_two_eq_zero_or_one j with e | e
  · have e2 : j = j / 2 * 2 := by omega
    rw [e2] at hu
    rw [h2.1] at hu
    cases hu
    have := h3 0 (.int .i64 (xs[j / 2]).1) rfl
    rw [show o + j = o + j / 2 * 2 + 0 by omega]; exact this
  · have e2 : j = j / 2 * 2 + 1 := by omega
    rw [e2] at hu
    rw [h2.2] at hu
    cases hu
    have := h3 1 (.int .i64 (xs[j / 2]).2) rfl
    rw [show o + j = o + j / 2 * 2 + 1 by omega]; exact this
/-- what is left of a row from a place on -/
def Suf (w : World) (lo bs : Nat) (v : Value) (xs : List (Int × Int)) : Prop := ∃ (A0 : Option Addr) (c0 k : Nat) (ys : List (Int × Int)) (A : Option Addr), RowO w lo bs (.slice A0 ys.length c0) ys ∧ k ≤ ys.length ∧ xs = ys.drop k ∧ v = .slice A xs.length (c0 - k) ∧ (xs ≠ [] → ∃ g, A0 = some ⟨g, 0, none⟩ ∧ A = some ⟨g, k * 2, none⟩)
theorem Suf.tr {w w' : World} {lo bs : Nat} {v : Value} {xs : List (Int × Int)} {X : List Nat} (h : Suf w lo bs v xs) (hs : Same X w w') (hx : ∀ g ∈ X, bs ≤ g ∨ ∃ cs t, Blk w g t cs ∧ t ≠ 74) : Suf w' lo bs v xs := by
  obtain ⟨A0, c0, k, ys, A, h1, h2⟩ := h
  exact ⟨A0, c0, k, ys, A, h1.tr hs hx, h2⟩
theorem RowO.own {w : World} {lo bs : Nat} {A : Option Addr} {n c : Nat} {xs : List (Int × Int)} (h : RowO w lo bs (.slice A n c) xs) : n = xs.length ∧ Own w lo 74 2 A xs.length c (lnV xs) ∧ ∀ g ∈ aL A, g < bs := by
  obtain ⟨A', c', e, h1, h2⟩ := h
  cases e; exact ⟨rfl, h1, h2⟩
theorem Suf.of {w : World} {lo bs : Nat} {v : Value} {xs : List (Int × Int)} (h : RowO w lo bs v xs) : Suf w lo bs v xs := by
  obtain ⟨A, c, rfl, h1, h2⟩ := h
  refine ⟨A, c, 0, xs, A, ⟨A, c, rfl, h1, h2⟩, Nat.zero_le _, rfl, rfl, fun hne => ?_⟩
  obtain ⟨g, hg, _⟩ := h1.cell (fun e => hne (by have := congrArg List.length e; rw [lnV_len] at this; exact List.length_eq_zero_iff.1 (by simp at this; omega)))
  exact ⟨g, hg, by rw [hg, Nat.zero_mul]⟩
/-- a suffix that is not empty: its first link's cells, and what is behind it -/
structure SufC (w : World) (lo bs : Nat) (A : Option Addr) (n c : Nat) (x : Int × Int) (xs : List (Int × Int)) : Prop where
  len : n = xs.length + 1
  at_ : ∃ g o, A = some ⟨g, o, none⟩ ∧ g < w.heap.size ∧ w.rangeAt g o [.int .i64 x.1, .int .i64 x.2]
  next : Suf w lo bs (.slice (if c = 1 then A else A.map (·.add (1 * 2))) (n - 1) (c - 1)) xs
theorem Suf.slice {w : World} {lo bs : Nat} {v : Value} {xs : List (Int × Int)} (h : Suf w lo bs v xs) : ∃ A c, v = .slice A xs.length c := by
  obtain ⟨A0, c0, k, ys, A, h1, h2, h3, h4, h5⟩ := h
  exact ⟨A, c0 - k, h4⟩
theorem Suf.cons {w : World} {lo bs n c : Nat} {A : Option Addr} {x : Int × Int} {xs : List (Int × Int)} (h : Suf w lo bs (.slice A n c) (x :: xs)) : SufC w lo bs A n c x xs := by
  obtain ⟨A0, c0, k, ys, A', h1, h2, h3, h4, h5⟩ := h
  obtain ⟨g, e0, e1⟩ := h5 (by simp)
  cases h4
  subst e0
  obtain ⟨_, ho, hb⟩ := h1.own
  have hcl := ho.cap_le
  have hk : k < ys.length := by
    have := congrArg List.length h3
    simp at this; omega
  have hx : ys[k] = x := by
    have h6 : (ys.drop k)[0]? = some x := by rw [← h3]; rfl
    rw [List.getElem?_drop, Nat.add_zero, List.getElem?_eq_getElem hk] at h6
    exact Option.some.inj h6
  have hxs : xs = ys.drop (k + 1) := by
    have : (x :: xs).tail = (ys.drop k).tail := by rw [h3]
    simpa [List.tail_drop] using this
  obtain ⟨q, e2, _, hql, hqc⟩ := ho.cell (fun e => by have := congrArg List.length e; rw [lnV_len] at this; simp at this; omega)
  cases e2
  have h7 := lnV_get ys k hk
  rw [hx] at h7
  refine ⟨by simp, ⟨g, k * 2, e1, hql, fun j v hj => ?_⟩, ?_⟩
  · match j, hj with
    | 0, hj => cases hj; exact hqc _ _ h7.1
    | 1, hj => cases hj; exact hqc _ _ h7.2
    | _ + 2, hj => cases hj
  · subst e1
    refine ⟨some ⟨g, 0, none⟩, c0, k + 1, ys, (if c0 - k = 1 then some (⟨g, k * 2, none⟩ : Addr) else Option.map (fun z : Addr => z.add (1 * 2)) (some (⟨g, k * 2, none⟩ : Addr))), h1, by omega, hxs, ?_, fun hne => ⟨g, rfl, ?_⟩⟩
    · rw [show (x :: xs).length - 1 = xs.length by simp, show c0 - k - 1 = c0 - (k + 1) by omega]
    · have hl : 0 < xs.length := List.length_pos_iff.2 hne
      have : xs.length = ys.length - (k + 1) := by rw [hxs]; simp
      rw [if_neg (by omega)]
      show some ((⟨g, k * 2, none⟩ : Addr).add (1 * 2)) = _
      rw [Addr.add_mid, show k * 2 + 1 * 2 = (k + 1) * 2 by omega]
theorem Suf.links {w : World} {lo bs n c : Nat} {A : Option Addr} {xs : List (Int × Int)} (h : Suf w lo bs (.slice A n c) xs) : n = xs.length ∧ LinksIn w A xs := by
  obtain ⟨A0, c0, k, ys, A', h1, h2, h3, h4, h5⟩ := h
  cases h4
  obtain ⟨_, ho, hb⟩ := h1.own
  have hm := ho.max
  have hl : xs.length = ys.length - k := by rw [h3]; simp
  refine ⟨rfl, by unfold maxI; omega, fun hne => ?_⟩
  obtain ⟨g, e0, e1⟩ := h5 hne
  subst e0
  have hp : 0 < xs.length := List.length_pos_iff.2 hne
  obtain ⟨q, e2, _, hql, hqc⟩ := ho.cell (fun e => by have := congrArg List.length e; rw [lnV_len] at this; simp at this; omega)
  cases e2
  refine ⟨g, k * 2, e1, hql, fun j hj i v hi => ?_⟩
  have hjk : k + j < ys.length := by omega
  have h7 := lnV_get ys (k + j) hjk
  have hx : xs[j] = ys[k + j] := by simp only [h3, List.getElem_drop]
  rw [hx] at hi
  match i, hi with
  | 0, hi => cases hi; rw [show k * 2 + j * 2 + 0 = (k + j) * 2 by omega]; exact hqc _ _ h7.1
  | 1, hi => cases hi; rw [show k * 2 + j * 2 + 1 = (k + j) * 2 + 1 by omega]; exact hqc _ _ h7.2
  | _ + 2, hi => cases hi
theorem RowO.links {w : World} {lo bs n c : Nat} {A : Option Addr} {xs : List (Int × Int)} (h : RowO w lo bs (.slice A n c) xs) : n = xs.length ∧ LinksIn w A xs := (Suf.of h).links
/-- a slice of slices of links -/
def LMat (w : World) (A : Option Addr) (L : List (List (Int × Int))) : Prop := L.length ≤ maxI ∧ (L ≠ [] → ∃ b o, A = some ⟨b, o, none⟩ ∧ b < w.heap.size ∧ ∀ k (hk : k < L.length), ∃ A' c', w.cell? ⟨b, o + k * 1, none⟩ = some (.slice A' (L[k]).length c') ∧ LinksIn w A' L[k])
theorem lmat_three {w : World} {b t : Nat} {A1 A2 A3 : Option Addr} {c1 c2 c3 : Nat} {p q r : List (Int × Int)} (h : Blk w b t #[.slice A1 p.length c1, .slice A2 q.length c2, .slice A3 r.length c3]) (h1 : LinksIn w A1 p) (h2 : LinksIn w A2 q) (h3 : LinksIn w A3 r) : LMat w (some ⟨b, 0, none⟩) [p, q, r] :=
  ⟨by simp [maxI], fun _ => ⟨b, 0, rfl, h.lt, fun k hk => by
    match k, hk with
    | 0, _ => exact ⟨A1, c1, h.cell rfl, h1⟩
    | 1, _ => exact ⟨A2, c2, h.cell rfl, h2⟩
    | 2, _ => exact ⟨A3, c3, h.cell rfl, h3⟩⟩⟩
theorem LMat.mono {w w' : World} {A : Option Addr} {L : List (List (Int × Int))} (h : LMat w A L) (hb : Bel w w') : LMat w' A L :=
  ⟨h.1, fun hne => by
    obtain ⟨b, o, h1, h2, h3⟩ := h.2 hne
    refine ⟨b, o, h1, Nat.lt_of_lt_of_le h2 hb.size, fun k hk => ?_⟩
    obtain ⟨A', c', h4, h5⟩ := h3 k hk
    exact ⟨A', c', hb.cell h2 h4, h5.mono hb⟩⟩
theorem LMat.at_ {w w' : World} {A : Option Addr} {L : List (List (Int × Int))} (h : LMat w A L) (hb : Bel w w') {k : Nat} (hk : k < L.length) : ∃ b o A' c', A = some ⟨b, o, none⟩ ∧ w'.cell? ⟨b, o + k * 1, none⟩ = some (.slice A' (L[k]).length c') ∧ LinksIn w' A' L[k] := by
  obtain ⟨b, o, h1, h2, h3⟩ := h.2 (fun e => by rw [e] at hk; exact absurd hk (Nat.not_lt_zero _))
  obtain ⟨A', c', h4, h5⟩ := h3 k hk
  exact ⟨b, o, A', c', h1, hb.cell h2 h4, h5.mono hb⟩
def sumM (L : List (List (Int × Int))) (k : Nat) : Nat := (L.take k).flatten.length
theorem flatM_succ {L : List (List (Int × Int))} {k : Nat} (hk : k < L.length) : (L.take (k + 1)).flatten = (L.take k).flatten ++ L[k] := by
  rw [List.take_succ_eq_append_getElem hk, List.flatten_append]; simp
theorem sumM_succ {L : List (List (Int × Int))} {k : Nat} (hk : k < L.length) : sumM L (k + 1) = sumM L k + (L[k]).length := by
  unfold sumM; rw [flatM_succ hk, List.length_append]
theorem sumM_le (L : List (List (Int × Int))) (k : Nat) : sumM L k ≤ L.flatten.length := by
  unfold sumM
  have h : L.flatten = (L.take k).flatten ++ (L.drop k).flatten := by rw [← List.flatten_append, List.take_append_drop]
  rw [h, List.length_append]; omega
theorem sumM_all {L : List (List (Int × Int))} {k : Nat} (h : L.length ≤ k) : (L.take k).flatten = L.flatten := by rw [List.take_of_length_le h]
end Go.Proofs.YteoncmfiiknfbaaDoor
