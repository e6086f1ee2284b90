/- The depth-first traversal of a graph as a relation, the numbers that it gives, and worlds that change in few blocks. -/
import Derived.Test.YteenmolhopbpeaaDoorGraph
namespace Go.Proofs.YteenmolhopbpeaaDoor
open Go.RowKit
def nd (g : List Nd) (i : Nat) : Nd := g.getD i ⟨0, []⟩
theorem nd_eq {g : List Nd} {i : Nat} (hi : i < g.length) : nd g i = g[i] := by simp [nd, List.getD, hi]
def succN (g : List Nd) (i : Nat) : List Nat := (nd g i).ln.map (fun x => x.2.toNat)
inductive DL (g : List Nd) : List Nat → List Nat → List Nat → Prop
  | nil {o : List Nat} : DL g [] o o
  | old {i : Nat} {is o o' : List Nat} (h : i ∈ o) (t : DL g is o o') : DL g (i :: is) o o'
  | new {i : Nat} {is o o1 o' : List Nat} (h : ¬ i ∈ o) (s : DL g (succN g i) (o ++ [i]) o1) (t : DL g is o1 o') : DL g (i :: is) o o'
theorem DL.det {g : List Nd} {is o a : List Nat} (h : DL g is o a) : ∀ {b : List Nat}, DL g is o b → a = b := by
  induction h with
  | nil => intro b k; cases k; rfl
  | old h t ih =>
    intro b k
    cases k with
    | old h' t' => exact ih t'
    | new h' s' t' => exact absurd h h'
  | new h s t ihs iht =>
    intro b k
    cases k with
    | old h' t' => exact absurd h' h
    | new h' s' t' =>
      have := ihs s'
      subst this
      exact iht t'
theorem DL.append {g : List Nd} {xs a b : List Nat} (h : DL g xs a b) : ∀ {ys c : List Nat}, DL g ys b c → DL g (xs ++ ys) a c := by
  induction h with
  | nil => intro ys c k; exact k
  | old h t ih => intro ys c k; exact .old h (ih k)
  | new h s t ihs iht => intro ys c k; exact .new h s (iht k)
def memB (o : List Nat) (x : Nat) : Bool := decide (x ∈ o)
structure OOk (n : Nat) (o : List Nat) : Prop where
  lt : ∀ x ∈ o, x < n
  cnt : o.length + lackN n (memB o) ≤ n
theorem OOk.nil (n : Nat) : OOk n [] := ⟨fun x hx => by simp at hx, by have := lack_le n (memB []); simpa using this⟩
theorem lack_snoc {n i : Nat} {o : List Nat} (hi : i < n) (h : ¬ i ∈ o) : lackN n (memB (o ++ [i])) < lackN n (memB o) :=
  countP_lt (fun x hx => by
    simp only [memB, Bool.not_eq_true', decide_eq_false_iff_not, List.mem_append, not_or] at hx ⊢
    exact hx.1) (List.range n) i (List.mem_range.2 hi) (by simp [memB, h]) (by simp [memB])
theorem lack_more (n : Nat) (o s : List Nat) : lackN n (memB (o ++ s)) ≤ lackN n (memB o) :=
  List.countP_mono_left (fun x _ hx => by
    simp only [memB, Bool.not_eq_true', decide_eq_false_iff_not, List.mem_append, not_or] at hx ⊢
    exact hx.1)
theorem OOk.snoc {n i : Nat} {o : List Nat} (h : OOk n o) (hi : i < n) (hn : ¬ i ∈ o) : OOk n (o ++ [i]) :=
  ⟨fun x hx => by
    rcases List.mem_append.1 hx with hx | hx
    · exact h.lt x hx
    · rw [List.mem_singleton.1 hx]; exact hi, by
    have h1 := lack_snoc hi hn
    have h2 := h.cnt
    simp only [List.length_append, List.length_cons, List.length_nil]
    omega⟩
theorem DL.ok {g : List Nd} (hr : ∀ i, i < g.length → ∀ t ∈ succN g i, t < g.length) {is o o' : List Nat} (h : DL g is o o') : (∀ i ∈ is, i < g.length) → OOk g.length o → OOk g.length o' ∧ ∃ s, o' = o ++ s := by
  induction h with
  | nil => intro _ k; exact ⟨k, [], by simp⟩
  | old h t ih => intro hi k; exact ih (fun i h => hi i (List.mem_cons_of_mem _ h)) k
  | new h s t ihs iht =>
    intro hi k
    have hlt := hi _ (List.mem_cons_self ..)
    obtain ⟨h1, s1, e1⟩ := ihs (hr _ hlt) (k.snoc hlt h)
    obtain ⟨h2, s2, e2⟩ := iht (fun i h => hi i (List.mem_cons_of_mem _ h)) h1
    exact ⟨h2, _, by rw [e2, e1, List.append_assoc, List.append_assoc]⟩
theorem succ_rng2 {nf : Nat} {g : List Nd} (h : GOk2 nf g) : ∀ i, i < g.length → ∀ t ∈ succN g i, t < g.length := fun i hi t ht => by
  simp only [succN, nd_eq hi, List.mem_map] at ht
  obtain ⟨x, hx, rfl⟩ := ht
  have := h.ln i hi x hx
  omega
theorem take_succN {g : List Nd} {i j t : Nat} (hi : i < g.length) (hj : j < (g[i]).ln.length) (ht : ((g[i]).ln[j]).2 = (t : Int)) : (succN g i).take (j + 1) = (succN g i).take j ++ [t] := by
  have hl : j < (succN g i).length := by simp [succN, nd_eq hi, hj]
  rw [List.take_succ_eq_append_getElem hl]
  congr 2
  simp [succN, nd_eq hi, ht]
def numO (o : List Nat) (x : Nat) : Int := if x ∈ o then (o.idxOf x : Nat) else -1
theorem numO_nil (x : Nat) : numO [] x = -1 := by simp [numO]
theorem numO_neg {o : List Nat} {x : Nat} (h : ¬ 0 ≤ numO o x) : ¬ x ∈ o := fun hx => h (by simp only [numO, if_pos hx]; omega)
theorem numO_pos {o : List Nat} {x : Nat} (h : 0 ≤ numO o x) : x ∈ o := by
  unfold numO at h
  by_cases hx : x ∈ o
  · exact hx
  · rw [if_neg hx] at h; omega
theorem numO_snoc {o : List Nat} {i : Nat} (h : ¬ i ∈ o) (x : Nat) : (if x = i then ((o.length : Nat) : Int) else numO o x) = numO (o ++ [i]) x := by
  unfold numO
  by_cases e : x = i
  · subst e
    simp [List.idxOf_append, h]
  · by_cases hx : x ∈ o
    · simp [e, hx, List.idxOf_append]
    · simp [e, hx]
theorem row_num {n : Nat} {o : List Nat} {i : Nat} (h : ¬ i ∈ o) : row n (fun x => if x = i then Value.int .i64 ((o.length : Nat) : Int) else .int .i64 (numO o x)) = row n (fun x => .int .i64 (numO (o ++ [i]) x)) :=
  row_congr (fun x _ => by rw [← numO_snoc h]; split <;> rfl)
def oV (o : List Nat) : List Value := o.map (fun (n : Nat) => Value.int .i64 (n : Int))
theorem own_oV {w : World} {base : Nat} {A : Option Addr} {cap i : Nat} {o : List Nat} (h : Own w base 3 1 A (o.length + 1) cap (oV o ++ [Value.int .i64 (i : Int)])) : Own w base 3 1 A (o ++ [i]).length cap (oV (o ++ [i])) := by
  unfold oV at h ⊢
  rw [List.length_append, List.map_append]; exact h
theorem sl_oV (A : Option Addr) (cap : Nat) (o : List Nat) (i : Nat) : Value.slice A (o.length + 1) cap = Value.slice A (o ++ [i]).length cap := by rw [List.length_append]; rfl
structure Chg (base : Nat) (X : List Nat) (w w' : World) : Prop where
  os : w'.os = w.os
  tape : w'.tape = w.tape
  output : w'.output = w.output
  size : w.heap.size ≤ w'.heap.size
  blk : ∀ k, k < base → ¬ k ∈ X → w'.heap[k]? = w.heap[k]?
theorem Chg.refl (base : Nat) (X : List Nat) (w : World) : Chg base X w w := ⟨rfl, rfl, rfl, Nat.le_refl _, fun _ _ _ => rfl⟩
theorem Chg.trans {base : Nat} {X : List Nat} {a b c : World} (h : Chg base X a b) (k : Chg base X b c) : Chg base X a c :=
  ⟨k.os.trans h.os, k.tape.trans h.tape, k.output.trans h.output, nLT h.size k.size, fun i hi hx => (k.blk i hi hx).trans (h.blk i hi hx)⟩
theorem Chg.st {base : Nat} {X Y : List Nat} {a b c : World} (h : Chg base X a b) (k : Same Y b c) (hb : base ≤ b.heap.size) (hy : ∀ g ∈ Y, g ∈ X ∨ base ≤ g) : Chg base X a c :=
  h.trans ⟨k.os, k.tape, k.output, k.size, fun i hi hx => k.blk i (nLL hi hb) (fun hm => by
    rcases hy i hm with h1 | h1
    · exact hx h1
    · omega)⟩
def canL (o : List Nat) (x : Int × Int) : Int × Int := (x.1, numO o x.2.toNat)
def canN (g : List Nd) (o : List Nat) (i : Nat) : Nd := ⟨(nd g i).ty, (nd g i).ln.map (canL o)⟩
def canG (g : List Nd) (o : List Nat) : List Nd := o.map (canN g o)
def lnV (xs : List (Int × Int)) : List Value := xs.flatMap (fun x => [Value.int .i64 x.1, Value.int .i64 x.2])
theorem lnV_snoc (xs : List (Int × Int)) (x : Int × Int) : lnV xs ++ [Value.int .i64 x.1, Value.int .i64 x.2] = lnV (xs ++ [x]) := by simp [lnV]
theorem lnV_get : ∀ (xs : List (Int × Int)) (k : Nat) (hk : k < xs.length), (lnV xs)[k * 2]? = some (Value.int .i64 (xs[k]).1) ∧ (lnV xs)[k * 2 + 1]? = some (Value.int .i64 (xs[k]).2)
  | [], k, hk => by simp at hk
  | x :: xs, 0, _ => by simp [lnV]
  | x :: xs, k + 1, hk => by
    have h := lnV_get xs k (by simpa using hk)
    have e1 : (k + 1) * 2 = k * 2 + 1 + 1 := by omega
    have e2 : (k + 1) * 2 + 1 = k * 2 + 1 + 1 + 1 := by omega
    have e3 : lnV (x :: xs) = Value.int .i64 x.1 :: Value.int .i64 x.2 :: lnV xs := by simp [lnV]
    rw [e1, e3]
    simpa using h
theorem own_links {w : World} {base : Nat} {A : Option Addr} {cap : Nat} {xs : List (Int × Int)} (h : Own w base 36 2 A xs.length cap (lnV xs)) : LinksIn w A xs :=
  ⟨h.max, fun hn => by
    have hne : lnV xs ≠ [] := by
      cases xs with
      | nil => exact absurd rfl hn
      | cons x r => simp [lnV]
    obtain ⟨g, e, hb, hg, hc⟩ := h.cell hne
    refine ⟨g, 0, e, hg, fun k hk j v hj => ?_⟩
    have h2 := lnV_get xs k hk
    match j, hj with
    | 0, hj => cases hj; have := hc _ _ h2.1; simpa using this
    | 1, hj => cases hj; have := hc _ _ h2.2; simpa using this
    | _ + 2, hj => cases hj⟩
structure FrSame (B : Nat) (w w2 : World) : Prop where
  size : w.heap.size ≤ w2.heap.size
  blk : ∀ k, B ≤ k → k < w.heap.size → w2.heap[k]? = w.heap[k]?
theorem FrSame.of {B : Nat} {w0 w w' : World} {X : List Nat} (h : FrSame B w0 w) (hs : Same X w w') (hx : ∀ g ∈ X, g < B ∨ w0.heap.size ≤ g) : FrSame B w0 w' :=
  ⟨nLT h.size hs.size, fun k hk hk2 => by
    rw [hs.blk k (nLL hk2 h.size) (fun hm => by have := hx k hm; omega)]
    exact h.blk k hk hk2⟩
theorem FrSame.refl (B : Nat) (w : World) : FrSame B w w := ⟨Nat.le_refl _, fun _ _ _ => rfl⟩
theorem FrSame.at_ {B b t : Nat} {w w2 : World} {cs : Array Value} (h : FrSame B w w2) (hb : Blk w b t cs) (hl : B ≤ b) : Blk w2 b t cs := (h.blk b hl hb.lt).trans hb
def RowO (w : World) (lo bs : Nat) (v : Value) (xs : List (Int × Int)) : Prop := ∃ A c, v = .slice A xs.length c ∧ Own w lo 36 2 A xs.length c (lnV xs) ∧ ∀ g ∈ aL A, g < bs
theorem Own.typ {w : World} {base : Nat} {e : TypeId} {sz : Nat} {A : Option Addr} {k cap : Nat} {xs : List Value} (h : Own w base e sz A k cap xs) : ∀ g ∈ aL A, ∃ cs, Blk w g e cs := fun g hg => by
  rcases h.2 with ⟨hn, _⟩ | ⟨g', c, cur, hv, hb, hgg, r⟩
  · cases hn; cases hg
  · cases hv
    simp only [aL, List.mem_singleton] at hg
    subst hg; exact ⟨cur, hgg⟩
theorem RowO.tr {w w' : World} {lo bs : Nat} {v : Value} {xs : List (Int × Int)} {X : List Nat} (h : RowO w lo bs v xs) (hs : Same X w w') (hx : ∀ g ∈ X, bs ≤ g ∨ ∃ cs t, Blk w g t cs ∧ t ≠ 36) : RowO w' lo bs v xs := by
  obtain ⟨A, c, h1, h2, h3⟩ := h
  refine ⟨A, c, h1, h2.tr hs (fun g hg hm => ?_), h3⟩
  rcases hx g hm with h4 | ⟨cs, t, h4, h5⟩
  · have := h3 g hg; omega
  · obtain ⟨cs2, h6⟩ := h2.typ g hg
    exact h5 (blk_type h4 h6)
theorem RowO.up {w : World} {lo bs bs' : Nat} {v : Value} {xs : List (Int × Int)} (h : RowO w lo bs v xs) (hb : bs ≤ bs') : RowO w lo bs' v xs := by
  obtain ⟨A, c, h1, h2, h3⟩ := h
  exact ⟨A, c, h1, h2, fun g hg => nLL (h3 g hg) hb⟩
theorem RowO.of {w : World} {lo base : Nat} {A : Option Addr} {cap : Nat} {xs : List (Int × Int)} (hl : lo ≤ base) (h : Own w base 36 2 A xs.length cap (lnV xs)) : RowO w lo w.heap.size (.slice A xs.length cap) xs := ⟨A, cap, rfl, h.low hl, fun g hg => (h.lt g hg).2⟩
theorem RowO.fr {w w2 : World} {lo bs : Nat} {v : Value} {xs : List (Int × Int)} (h : RowO w lo bs v xs) (hf : FrSame lo w w2) : RowO w2 lo bs v xs := by
  obtain ⟨A, c, h1, h2, h3⟩ := h
  refine ⟨A, c, h1, ⟨h2.1, ?_⟩, h3⟩
  rcases h2.2 with hn | ⟨g, c, cur, hv, hb, hg, r⟩
  · exact .inl hn
  · exact .inr ⟨g, c, cur, hv, hb, (hf.blk g hb (lt_of_heap hg)).trans hg, r⟩
def OrdF (w : World) (bn bd : Nat) (A : Option Addr) (o : List Nat) : Prop :=
  (o = [] ∧ A = none) ∨ (o ≠ [] ∧ ∃ b, A = some ⟨b, 0, none⟩ ∧ b ≠ bn ∧ b < bd ∧ b < w.heap.size ∧ ∀ k (hk : k < o.length), w.cell? ⟨b, 0 + k, none⟩ = some (.int .i64 (o[k] : Nat)))
theorem OrdF.nil (w : World) (bn bd : Nat) : OrdF w bn bd none [] := .inl ⟨rfl, rfl⟩
theorem OrdF.tr {w w' : World} {bn bd : Nat} {A : Option Addr} {o : List Nat} {X : List Nat} (h : OrdF w bn bd A o) (hs : Same X w w') (hx : ∀ g ∈ X, g = bn ∨ bd ≤ g) : OrdF w' bn bd A o := by
  rcases h with h | ⟨h1, b, h2, h3, h4, h5, h6⟩
  · exact .inl h
  · refine .inr ⟨h1, b, h2, h3, h4, nLL h5 hs.size, fun k hk => ?_⟩
    rw [World.cell?_of_block (hs.blk b h5 (fun hm => by rcases hx b hm with h | h <;> omega))]
    exact h6 k hk
theorem OrdF.up {w : World} {bn bd bd' : Nat} {A : Option Addr} {o : List Nat} (h : OrdF w bn bd A o) (hb : bd ≤ bd') : OrdF w bn bd' A o := by
  rcases h with h | ⟨h1, b, h2, h3, h4, h5, h6⟩
  · exact .inl h
  · exact .inr ⟨h1, b, h2, h3, nLL h4 hb, h5, h6⟩
theorem ord_own {w : World} {base bn cap i : Nat} {g : Nat} {o : List Nat} (h : Own w base 3 1 (some ⟨g, 0, none⟩) (o.length + 1) cap (oV o ++ [Value.int .i64 (i : Int)])) (hb : bn < base) : OrdF w bn w.heap.size (some ⟨g, 0, none⟩) (o ++ [i]) := by
  have h1 := own_oV h
  obtain ⟨g', e, hg1, hg2, hc⟩ := h1.cell (by simp [oV])
  cases e
  refine .inr ⟨by simp, g, rfl, by omega, hg2, hg2, fun k hk => ?_⟩
  have := hc k (.int .i64 ((o ++ [i])[k] : Nat)) (by
    unfold oV
    rw [List.getElem?_map, List.getElem?_eq_getElem hk]; rfl)
  simpa using this
theorem Same.freshL {X Y : List Nat} {w w1 w2 : World} (h : Same X w w1) (hs : Same Y w1 w2) (hb : ∀ g ∈ Y, g ∈ X ∨ w.heap.size ≤ g) : Same X w w2 :=
  ⟨hs.os.trans h.os, hs.tape.trans h.tape, hs.output.trans h.output, nLT h.size hs.size, fun k hk hx => (hs.blk k (nLL hk h.size) (fun hm => by
    rcases hb k hm with h1 | h1
    · exact hx h1
    · omega)).trans (h.blk k hk hx)⟩
def ndV (f h : Nat → Value) (k : Nat) : List Value := (List.range k).flatMap (fun x => [f x, h x])
theorem ndV_snoc (f h : Nat → Value) (k : Nat) : ndV f h (k + 1) = ndV f h k ++ [f k, h k] := by simp [ndV, List.range_succ, List.flatMap_append]
theorem ndV_congr {f f' h h' : Nat → Value} : ∀ {k : Nat}, (∀ x, x < k → f x = f' x) → (∀ x, x < k → h x = h' x) → ndV f h k = ndV f' h' k
  | 0, _, _ => rfl
  | k + 1, h1, h2 => by rw [ndV_snoc, ndV_snoc, ndV_congr (fun x hx => h1 x om) (fun x hx => h2 x om), h1 k om, h2 k om]
theorem ndV_len (f h : Nat → Value) : ∀ k, (ndV f h k).length = k * 2
  | 0 => rfl
  | k + 1 => by rw [ndV_snoc, List.length_append, ndV_len f h k]; simp only [List.length_cons, List.length_nil]; omega
theorem ndV_get (f h : Nat → Value) : ∀ {k x : Nat}, x < k → (ndV f h k)[x * 2]? = some (f x) ∧ (ndV f h k)[x * 2 + 1]? = some (h x)
  | 0, _, hx => by omega
  | k + 1, x, hx => by
    have hl := ndV_len f h k
    rw [ndV_snoc]
    by_cases e : x < k
    · have ih := ndV_get f h e
      rw [List.getElem?_append_left om, List.getElem?_append_left om]
      exact ih
    · have e2 : x = k := by omega
      subst e2
      rw [List.getElem?_append_right om, List.getElem?_append_right om, hl]
      have e3 : x * 2 - x * 2 = 0 := by omega
      have e4 : x * 2 + 1 - x * 2 = 1 := by omega
      rw [e3, e4]; exact ⟨rfl, rfl⟩
theorem Own.fr {w w2 : World} {lo base : Nat} {e : TypeId} {sz : Nat} {A : Option Addr} {k cap : Nat} {xs : List Value} (h : Own w base e sz A k cap xs) (hl : lo ≤ base) (hf : FrSame lo w w2) : Own w2 base e sz A k cap xs := by
  refine ⟨h.1, ?_⟩
  rcases h.2 with hn | ⟨g, c, cur, hv, hb, hg, r⟩
  · exact .inl hn
  · exact .inr ⟨g, c, cur, hv, hb, (hf.blk g (nLT hl hb) (lt_of_heap hg)).trans hg, r⟩
theorem nodes_own {w : World} {lo base m cap bs : Nat} {A : Option Addr} {f h : Nat → Value} {gr : List Nd} (ho : Own w base 39 2 A m cap (ndV f h m)) (hm : gr.length = m) (hf : ∀ k (hk : k < gr.length), f k = .int .i64 (gr[k]).ty) (hh : ∀ k (hk : k < gr.length), RowO w lo bs (h k) (gr[k]).ln) : NodesIn w A gr :=
  ⟨by rw [hm]; exact ho.max, fun hn => by
    have hne : ndV f h m ≠ [] := fun h0 => by
      have h1 := ndV_len f h m
      rw [h0] at h1
      exact hn (List.length_eq_zero_iff.1 (by simp only [List.length_nil] at h1; omega))
    obtain ⟨g, e, hb, hg, hc⟩ := ho.cell hne
    refine ⟨g, 0, e, hg, fun k hk => ?_⟩
    obtain ⟨A', c, h1, h2, _⟩ := hh k hk
    have h3 := ndV_get f h (show k < m by omega)
    refine ⟨A', c, fun j v hj => ?_, own_links h2⟩
    match j, hj with
    | 0, hj => cases hj; rw [← hf k hk]; have := hc _ _ h3.1; simpa using this
    | 1, hj => cases hj; rw [← h1]; have := hc _ _ h3.2; simpa using this
    | _ + 2, hj => cases hj⟩
end Go.Proofs.YteenmolhopbpeaaDoor
