/- Maps between feature graphs: when there is one, that there is one only, and the states of the two searches for it. No program in sight. Maps between valid graphs: they compose, maps both ways are a renumbering, and a map keeps paths. No program in sight. Generalization as the greatest bound: the graph of the pairs of nodes, and what maps to it. No program in sight. What these functions of the program compute, at every world: cmp.isNaN[int], cmp.Compare[int], glosswright/graph.Target$1, slices.BinarySearchFunc[[]glosswright/api.Link,glosswright/api.Link,int]. -/
import Derived.Test.YteenmolhopbpeaaDoorComp
import Derived.Test.YteenmolhopbpeaaDoorU
namespace Go.Proofs.YteenmolhopbpeaaDoor
open Go.RowKit
structure Hom (l : List Ty) (a b : List Nd) (φ : Nat → Nat) : Prop where
  zero : φ 0 = 0
  lt : ∀ i, i < a.length → φ i < b.length
  ty : ∀ i, i < a.length → sub l (nd b (φ i)).ty.toNat (nd a i).ty.toNat = true
  ln : ∀ i, i < a.length → ∀ x ∈ (nd a i).ln, tgt (nd b (φ i)).ln x.1 = ((φ x.2.toNat : Nat) : Int)
theorem Hom.uniq {l : List Ty} {a b : List Nd} {φ ψ : Nat → Nat} (h : Hom l a b φ) (k : Hom l a b ψ) {i : Nat} (hr : Rch a i) : φ i = ψ i := by
  induction hr with
  | zero => rw [h.zero, k.zero]
  | step hr hi hx ih =>
    rename_i i x
    have e := nd_eq hi
    have h1 := h.ln i hi x (by rw [e]; exact hx)
    have h2 := k.ln i hi x (by rw [e]; exact hx)
    rw [ih] at h1
    rw [h1] at h2
    exact Int.ofNat.inj h2
def Maps (l : List Ty) (a b : List Nd) : Prop := ∃ φ, Hom l a b φ
noncomputable instance (l : List Ty) (a b : List Nd) : Decidable (Maps l a b) := Classical.propDecidable _
open Classical in
def setI (out : Nat → Int) (t : Nat) (v : Int) (x : Nat) : Int := if x = t then v else out x
theorem setI_self (out : Nat → Int) (t : Nat) (v : Int) : setI out t v t = v := by simp [setI]
theorem setI_ne {out : Nat → Int} {t x : Nat} {v : Int} (h : x ≠ t) : setI out t v x = out x := by simp [setI, h]
def LinksDone (a b : List Nd) (out : Nat → Int) (j k : Nat) : Prop := ∀ x ∈ (nd a j).ln.take k, 0 ≤ out x.2.toNat ∧ tgt (nd b (out j).toNat).ln x.1 = out x.2.toNat
def NodeDone (l : List Ty) (a b : List Nd) (out : Nat → Int) (j : Nat) : Prop := sub l (nd b (out j).toNat).ty.toNat (nd a j).ty.toNat = true ∧ LinksDone a b out j (nd a j).ln.length
structure FS (l : List Ty) (a b : List Nd) (out : Nat → Int) (st : List Int) (i k : Nat) : Prop where
  zero : out 0 = 0
  rng : ∀ j, -1 ≤ out j ∧ out j < b.length
  only : ∀ j, 0 ≤ out j → ∀ φ, Hom l a b φ → out j = (φ j : Nat)
  stk : ∀ s ∈ st, ∃ n : Nat, s = (n : Int) ∧ n < a.length ∧ 0 ≤ out n
  cl : ∀ j, j < a.length → 0 ≤ out j → j ≠ i → (j : Int) ∈ st ∨ NodeDone l a b out j
  me : i < a.length → 0 ≤ out i ∧ LinksDone a b out i k
  ty : i < a.length → 0 < k → sub l (nd b (out i).toNat).ty.toNat (nd a i).ty.toNat = true
theorem FS.start {l : List Ty} {a b : List Nd} (ha : 0 < a.length) (hb : 0 < b.length) : FS l a b (setI (fun _ => -1) 0 0) [0] a.length 0 := by
  refine ⟨by simp [setI], fun j => ?_, fun j hj φ h => ?_, fun s hs => ?_, fun j _ hj _ => ?_, fun hi => absurd hi (Nat.lt_irrefl _), fun hi => absurd hi (Nat.lt_irrefl _)⟩
  · by_cases e : j = 0
    · subst e; rw [setI_self]; omega
    · rw [setI_ne e]; show (-1 : Int) ≤ -1 ∧ (-1 : Int) < _; omega
  · by_cases e : j = 0
    · subst e; rw [h.zero]; simp [setI]
    · rw [setI_ne e] at hj; omega
  · obtain rfl := List.mem_singleton.1 hs
    exact ⟨0, rfl, ha, by simp [setI]⟩
  · by_cases e : j = 0
    · subst e; exact .inl (by simp)
    · rw [setI_ne e] at hj; omega
theorem FS.pop {l : List Ty} {a b : List Nd} {out : Nat → Int} {st : List Int} {z : Int} (h : FS l a b out (st ++ [z]) a.length 0) : ∃ n m : Nat, z = (n : Int) ∧ n < a.length ∧ out n = (m : Int) ∧ m < b.length ∧ FS l a b out st n 0 := by
  obtain ⟨n, rfl, hn, hm⟩ := h.stk z (by simp)
  have hr := h.rng n
  refine ⟨n, (out n).toNat, rfl, hn, by omega, by omega, h.zero, h.rng, h.only, fun s hs => h.stk s (by simp [hs]), fun j hj hmj hne => ?_, fun _ => ⟨hm, fun x hx => by simp at hx⟩, fun _ hk => absurd hk (Nat.lt_irrefl _)⟩
  rcases h.cl j hj hmj om with h1 | h1
  · rcases List.mem_append.1 h1 with h2 | h2
    · exact .inl h2
    · have := List.mem_singleton.1 h2
      omega
  · exact .inr h1
theorem take_nd {a : List Nd} {i k : Nat} (hi : i < a.length) (hk : k < (a[i]).ln.length) : (nd a i).ln.take (k + 1) = (nd a i).ln.take k ++ [(a[i]).ln[k]] := by
  rw [nd_eq hi, List.take_succ_eq_append_getElem hk]
theorem LinksDone.snoc {a b : List Nd} {out : Nat → Int} {i k : Nat} (h : LinksDone a b out i k) (hi : i < a.length) (hk : k < (a[i]).ln.length) (hx : 0 ≤ out ((a[i]).ln[k]).2.toNat ∧ tgt (nd b (out i).toNat).ln ((a[i]).ln[k]).1 = out ((a[i]).ln[k]).2.toNat) : LinksDone a b out i (k + 1) := fun x hxm => by
  rw [take_nd hi hk] at hxm
  rcases List.mem_append.1 hxm with h1 | h1
  · exact h x h1
  · rw [List.mem_singleton.1 h1]; exact hx
theorem FS.old {l : List Ty} {a b : List Nd} {out : Nat → Int} {st : List Int} {i k : Nat} (h : FS l a b out st i k) (hi : i < a.length) (hk : k < (a[i]).ln.length) (hty : sub l (nd b (out i).toNat).ty.toNat (nd a i).ty.toNat = true)
    (hm : 0 ≤ out ((a[i]).ln[k]).2.toNat) (he : out ((a[i]).ln[k]).2.toNat = tgt (nd b (out i).toNat).ln ((a[i]).ln[k]).1) : FS l a b out st i (k + 1) :=
  ⟨h.zero, h.rng, h.only, h.stk, h.cl, fun _ => ⟨(h.me hi).1, (h.me hi).2.snoc hi hk ⟨hm, he.symm⟩⟩, fun _ _ => hty⟩
theorem LinksDone.set {a b : List Nd} {out : Nat → Int} {j k t : Nat} {v : Int} (h : LinksDone a b out j k) (hj : 0 ≤ out j) (ht : out t < 0) : LinksDone a b (setI out t v) j k := fun x hx => by
  have h1 := h x hx
  rw [setI_ne (x := x.2.toNat) (fun e => by rw [e] at h1; omega), setI_ne (x := j) (fun e => by rw [e] at hj; omega)]
  exact h1
theorem FS.new {l : List Ty} {a b : List Nd} {out : Nat → Int} {st : List Int} {i k t : Nat} (h : FS l a b out st i k) (hi : i < a.length) (hk : k < (a[i]).ln.length) (hty : sub l (nd b (out i).toNat).ty.toNat (nd a i).ty.toNat = true)
    (htt : ((a[i]).ln[k]).2 = (t : Int)) (htl : t < a.length) (hn : out t < 0) (h0 : 0 ≤ tgt (nd b (out i).toNat).ln ((a[i]).ln[k]).1) (hb : tgt (nd b (out i).toNat).ln ((a[i]).ln[k]).1 < b.length) : FS l a b (setI out t (tgt (nd b (out i).toNat).ln ((a[i]).ln[k]).1)) (st ++ [(t : Int)]) i (k + 1) := by
  have hme := (h.me hi).1
  have hit : i ≠ t := fun e => by rw [e] at hme; omega
  have h0t : 0 ≠ t := fun e => by have := h.zero; rw [e] at this; omega
  have hxm : (a[i]).ln[k] ∈ (nd a i).ln := by rw [nd_eq hi]; exact List.getElem_mem hk
  refine ⟨by rw [setI_ne h0t]; exact h.zero, fun j => ?_, fun j hj φ hφ => ?_, fun s hs => ?_, fun j hj hm hne => ?_, fun _ => ?_, fun _ _ => by rw [setI_ne hit]; exact hty⟩
  · by_cases e : j = t
    · subst e; rw [setI_self]; omega
    · rw [setI_ne e]; exact h.rng j
  · by_cases e : j = t
    · subst e
      rw [setI_self, h.only i hme φ hφ, Int.toNat_natCast, hφ.ln i hi _ hxm, htt, Int.toNat_natCast]
    · rw [setI_ne e] at hj ⊢; exact h.only j hj φ hφ
  · rcases List.mem_append.1 hs with hs | hs
    · obtain ⟨n, h1, h2, h3⟩ := h.stk s hs
      refine ⟨n, h1, h2, ?_⟩
      rw [setI_ne (fun e => by rw [e] at h3; omega)]; exact h3
    · exact ⟨t, List.mem_singleton.1 hs, htl, by rw [setI_self]; exact h0⟩
  · by_cases e : j = t
    · subst e; exact .inl (by simp)
    · rw [setI_ne e] at hm
      rcases h.cl j hj hm hne with h1 | h1
      · exact .inl (by simp [h1])
      · refine .inr ⟨by rw [setI_ne e]; exact h1.1, h1.2.set hm hn⟩
  · refine ⟨by rw [setI_ne hit]; exact hme, ?_⟩
    refine LinksDone.snoc ((h.me hi).2.set hme hn) hi hk ?_
    rw [htt, Int.toNat_natCast, setI_self, setI_ne hit]
    exact ⟨h0, rfl⟩
theorem FS.done {l : List Ty} {a b : List Nd} {out : Nat → Int} {st : List Int} {i k : Nat} (h : FS l a b out st i k) (hi : i < a.length) (hk : k = (a[i]).ln.length) (hty : sub l (nd b (out i).toNat).ty.toNat (nd a i).ty.toNat = true) : FS l a b out st a.length 0 :=
  ⟨h.zero, h.rng, h.only, h.stk, fun j hj hm _ => by
    by_cases e : j = i
    · subst e
      refine .inr ⟨hty, ?_⟩
      have h1 := (h.me hj).2
      rw [hk, ← nd_eq hj] at h1
      exact h1
    · exact h.cl j hj hm e, fun hi => absurd hi (Nat.lt_irrefl _), fun hi => absurd hi (Nat.lt_irrefl _)⟩
theorem FS.end_ {l : List Ty} {a b : List Nd} {out : Nat → Int} (hr : ∀ i, i < a.length → Rch a i) (h : FS l a b out [] a.length 0) : Hom l a b (fun i => (out i).toNat) ∧ ∀ i, i < a.length → 0 ≤ out i := by
  have hd : ∀ i, i < a.length → 0 ≤ out i → NodeDone l a b out i := fun i hi hm => by
    rcases h.cl i hi hm om with h1 | h1
    · cases h1
    · exact h1
  have hall : ∀ i, Rch a i → i < a.length → 0 ≤ out i := fun i hri => by
    induction hri with
    | zero => intro _; rw [h.zero]; exact Int.le_refl _
    | step hr hi hx ih =>
      rename_i i x
      intro _
      have h1 := (hd i hi (ih hi)).2 x (by rw [List.take_length, nd_eq hi]; exact hx)
      exact h1.1
  have hpos : ∀ i, i < a.length → 0 ≤ out i := fun i hi => hall i (hr i hi) hi
  refine ⟨⟨by show (out 0).toNat = 0; rw [h.zero]; rfl, fun i hi => ?_, fun i hi => (hd i hi (hpos i hi)).1, fun i hi x hx => ?_⟩, hpos⟩
  · have h1 := h.rng i; have h2 := hpos i hi; show (out i).toNat < b.length; omega
  · have h1 := (hd i hi (hpos i hi)).2 x (by rw [List.take_length]; exact hx)
    show tgt (nd b (out i).toNat).ln x.1 = ((out x.2.toNat).toNat : Nat)
    rw [h1.2]; have := h1.1; omega
def setP (p : Nat → Nat → Bool) (i j : Nat) (x y : Nat) : Bool := if x = i ∧ y = j then true else p x y
theorem setP_self (p : Nat → Nat → Bool) (i j : Nat) : setP p i j i j = true := by simp [setP]
theorem setP_mono {p : Nat → Nat → Bool} {i j x y : Nat} (h : p x y = true) : setP p i j x y = true := by
  unfold setP; split
  · rfl
  · exact h
theorem setP_cases {p : Nat → Nat → Bool} {i j x y : Nat} (h : setP p i j x y = true) : (x = i ∧ y = j) ∨ p x y = true := by
  unfold setP at h
  by_cases e : x = i ∧ y = j
  · exact .inl e
  · rw [if_neg e] at h; exact .inr h
def lackP (na nb : Nat) (p : Nat → Nat → Bool) : Nat := (List.range (na * nb)).countP (fun z => !p (z / nb) (z % nb))
theorem lackP_lt {na nb i j : Nat} {p q : Nat → Nat → Bool} (hpq : ∀ x y, p x y = true → q x y = true) (hi : i < na) (hj : j < nb) (h1 : p i j = false) (h2 : q i j = true) : lackP na nb q < lackP na nb p := by
  have hd : (i * nb + j) / nb = i := by
    rw [Nat.mul_comm, Nat.mul_add_div om, Nat.div_eq_of_lt hj, Nat.add_zero]
  have hm : (i * nb + j) % nb = j := by
    rw [Nat.mul_comm, Nat.mul_add_mod, Nat.mod_eq_of_lt hj]
  have hl : i * nb + j < na * nb := by
    have := Nat.mul_le_mul_right nb (show i + 1 ≤ na from hi)
    rw [Nat.add_mul, Nat.one_mul] at this
    omega
  refine countP_lt (fun z hz => ?_) (List.range (na * nb)) (i * nb + j) (List.mem_range.2 hl) ?_ ?_
  · cases hp : p (z / nb) (z % nb) with
    | false => rfl
    | true => rw [hpq _ _ hp] at hz; cases hz
  · show (!p ((i * nb + j) / nb) ((i * nb + j) % nb)) = true
    rw [hd, hm, h1]; rfl
  · show (!q ((i * nb + j) / nb) ((i * nb + j) % nb)) = false
    rw [hd, hm, h2]; rfl
def PairLn (a b : List Nd) (p : Nat → Nat → Bool) (i j k : Nat) : Prop := ∀ x ∈ (nd a i).ln.take k, ∃ t : Nat, tgt (nd b j).ln x.1 = (t : Int) ∧ p x.2.toNat t = true
def PairOk (l : List Ty) (a b : List Nd) (p : Nat → Nat → Bool) (i j : Nat) : Prop := sub l (nd b j).ty.toNat (nd a i).ty.toNat = true ∧ PairLn a b p i j (nd a i).ln.length
structure PB (l : List Ty) (a b : List Nd) (p : Nat → Nat → Bool) : Prop where
  zero : p 0 0 = true
  rng : ∀ i j, p i j = true → i < a.length ∧ j < b.length
  only : ∀ i j, p i j = true → ∀ φ, Hom l a b φ → φ i = j
structure MPS (l : List Ty) (a b : List Nd) (p : Nat → Nat → Bool) (ch : Bool) : Prop where
  pb : PB l a b p
  cl : ch = false → ∀ i j, p i j = true → PairOk l a b p i j
structure MPP (l : List Ty) (a b : List Nd) (p0 p : Nat → Nat → Bool) (ch : Bool) (i j k : Nat) : Prop where
  pb : PB l a b p
  sup : ∀ x y, p0 x y = true → p x y = true
  same : ch = false → ∀ x y, p x y = true → p0 x y = true
  more : ch = true → lackP a.length b.length p < lackP a.length b.length p0
  done : ∀ x y, p0 x y = true → x < i ∨ x = i ∧ y < j → PairOk l a b p x y
  me : 0 < k → i < a.length ∧ j < b.length ∧ p i j = true ∧ sub l (nd b j).ty.toNat (nd a i).ty.toNat = true ∧ PairLn a b p i j k
theorem MPS.start {l : List Ty} {a b : List Nd} (ha : 0 < a.length) (hb : 0 < b.length) : MPS l a b (setP (fun _ _ => false) 0 0) true :=
  ⟨⟨setP_self _ _ _, (fun i j h => by
    rcases setP_cases h with ⟨rfl, rfl⟩ | h
    · exact ⟨ha, hb⟩
    · cases h), (fun i j h φ hφ => by
    rcases setP_cases h with ⟨rfl, rfl⟩ | h
    · exact hφ.zero
    · cases h)⟩, fun h => nomatch h⟩
theorem MPP.start {l : List Ty} {a b : List Nd} {p : Nat → Nat → Bool} {ch : Bool} (h : MPS l a b p ch) : MPP l a b p p false 0 0 0 :=
  ⟨h.pb, fun _ _ h => h, fun _ _ _ h => h, (fun h => nomatch h), (fun x y _ hx => by omega), fun hk => absurd hk (Nat.lt_irrefl _)⟩
theorem MPP.row {l : List Ty} {a b : List Nd} {p0 p : Nat → Nat → Bool} {ch : Bool} {i : Nat} (h : MPP l a b p0 p ch i b.length 0) : MPP l a b p0 p ch (i + 1) 0 0 :=
  ⟨h.pb, h.sup, h.same, h.more, fun x y hp hx => h.done x y hp (by
    have := (h.pb.rng x y (h.sup x y hp)).2
    omega), fun hk => absurd hk (Nat.lt_irrefl _)⟩
theorem MPP.skip {l : List Ty} {a b : List Nd} {p0 p : Nat → Nat → Bool} {ch : Bool} {i j : Nat} (h : MPP l a b p0 p ch i j 0) (hp : p i j = false) : MPP l a b p0 p ch i (j + 1) 0 :=
  ⟨h.pb, h.sup, h.same, h.more, fun x y h0 hx => by
    by_cases e : x = i ∧ y = j
    · obtain ⟨rfl, rfl⟩ := e
      rw [h.sup _ _ h0] at hp; cases hp
    · exact h.done x y h0 om, fun hk => absurd hk (Nat.lt_irrefl _)⟩
theorem PairLn.snoc {a b : List Nd} {p : Nat → Nat → Bool} {i j k : Nat} (h : PairLn a b p i j k) (hi : i < a.length) (hk : k < (a[i]).ln.length) (hx : ∃ t : Nat, tgt (nd b j).ln ((a[i]).ln[k]).1 = (t : Int) ∧ p ((a[i]).ln[k]).2.toNat t = true) : PairLn a b p i j (k + 1) := fun x hxm => by
  rw [take_nd hi hk] at hxm
  rcases List.mem_append.1 hxm with h1 | h1
  · exact h x h1
  · rw [List.mem_singleton.1 h1]; exact hx
theorem PairLn.mono {a b : List Nd} {p q : Nat → Nat → Bool} {i j k : Nat} (h : PairLn a b p i j k) (hpq : ∀ x y, p x y = true → q x y = true) : PairLn a b q i j k := fun x hx => by
  obtain ⟨t, h1, h2⟩ := h x hx
  exact ⟨t, h1, hpq _ _ h2⟩
structure MPK (l : List Ty) (a b : List Nd) (p0 p : Nat → Nat → Bool) (ch : Bool) (i j k : Nat) : Prop where
  pp : MPP l a b p0 p ch i j 0
  at_ : p i j = true
  ty : sub l (nd b j).ty.toNat (nd a i).ty.toNat = true
  ln : PairLn a b p i j k
theorem MPK.start {l : List Ty} {a b : List Nd} {p0 p : Nat → Nat → Bool} {ch : Bool} {i j : Nat} (h : MPP l a b p0 p ch i j 0) (hp : p i j = true) (ht : sub l (nd b j).ty.toNat (nd a i).ty.toNat = true) : MPK l a b p0 p ch i j 0 := ⟨h, hp, ht, fun x hx => by simp at hx⟩
theorem MPK.old {l : List Ty} {a b : List Nd} {p0 p : Nat → Nat → Bool} {ch : Bool} {i j k s t : Nat} (h : MPK l a b p0 p ch i j k) (hi : i < a.length) (hk : k < (a[i]).ln.length) (hs : ((a[i]).ln[k]).2 = (s : Int)) (ht : tgt (nd b j).ln ((a[i]).ln[k]).1 = (t : Int)) (hp : p s t = true) : MPK l a b p0 p ch i j (k + 1) :=
  ⟨h.pp, h.at_, h.ty, h.ln.snoc hi hk ⟨t, ht, by rw [hs, Int.toNat_natCast]; exact hp⟩⟩
theorem MPK.new {l : List Ty} {a b : List Nd} {p0 p : Nat → Nat → Bool} {ch : Bool} {i j k s t : Nat} (h : MPK l a b p0 p ch i j k) (hi : i < a.length) (hk : k < (a[i]).ln.length) (hs : ((a[i]).ln[k]).2 = (s : Int)) (hsl : s < a.length) (ht : tgt (nd b j).ln ((a[i]).ln[k]).1 = (t : Int)) (htl : t < b.length) (hp : p s t = false) : MPK l a b p0 (setP p s t) true i j (k + 1) := by
  have hxm : (a[i]).ln[k] ∈ (nd a i).ln := by rw [nd_eq hi]; exact List.getElem_mem hk
  have hm : ∀ x y, p x y = true → setP p s t x y = true := fun x y h => setP_mono h
  refine ⟨⟨⟨hm _ _ h.pp.pb.zero, fun x y hx => ?_, fun x y hx φ hφ => ?_⟩, fun x y hx => hm _ _ (h.pp.sup x y hx), (fun h => nomatch h), fun _ => ?_, fun x y h0 hx => ?_, fun hk => absurd hk (Nat.lt_irrefl _)⟩, hm _ _ h.at_, h.ty, (h.ln.mono hm).snoc hi hk ⟨t, ht, by rw [hs, Int.toNat_natCast]; exact setP_self _ _ _⟩⟩
  · rcases setP_cases hx with ⟨rfl, rfl⟩ | hx
    · exact ⟨hsl, htl⟩
    · exact h.pp.pb.rng _ _ hx
  · rcases setP_cases hx with ⟨rfl, rfl⟩ | hx
    · have e := h.pp.pb.only i j h.at_ φ hφ
      have h1 := hφ.ln i hi _ hxm
      rw [e, ht, hs, Int.toNat_natCast] at h1
      exact (Int.ofNat.inj h1).symm
    · exact h.pp.pb.only x y hx φ hφ
  · have h1 := lackP_lt (na := a.length) (nb := b.length) hm hsl htl hp (setP_self p s t)
    cases ch with
    | true => exact Nat.lt_trans h1 (h.pp.more rfl)
    | false =>
      have e : lackP a.length b.length p0 = lackP a.length b.length p := by
        unfold lackP
        refine List.countP_congr (fun z _ => ?_)
        cases hz : p0 (z / b.length) (z % b.length) with
        | true => rw [h.pp.sup _ _ hz]
        | false =>
          cases hz2 : p (z / b.length) (z % b.length) with
          | false => rfl
          | true => rw [h.pp.same rfl _ _ hz2] at hz; cases hz
      rw [e]; exact h1
  · obtain ⟨h1, h2⟩ := h.pp.done x y h0 hx
    exact ⟨h1, h2.mono hm⟩
theorem MPK.done {l : List Ty} {a b : List Nd} {p0 p : Nat → Nat → Bool} {ch : Bool} {i j k : Nat} (h : MPK l a b p0 p ch i j k) (hi : i < a.length) (hk : k = (a[i]).ln.length) : MPP l a b p0 p ch i (j + 1) 0 :=
  ⟨h.pp.pb, h.pp.sup, h.pp.same, h.pp.more, fun x y h0 hx => by
    by_cases e : x = i ∧ y = j
    · obtain ⟨rfl, rfl⟩ := e
      have h1 := h.ln
      rw [hk, ← nd_eq hi] at h1
      exact ⟨h.ty, h1⟩
    · exact h.pp.done x y h0 om, fun hk => absurd hk (Nat.lt_irrefl _)⟩
theorem MPP.end_ {l : List Ty} {a b : List Nd} {p0 p : Nat → Nat → Bool} {ch : Bool} (h : MPP l a b p0 p ch a.length 0 0) : MPS l a b p ch :=
  ⟨h.pb, fun hc i j hp => h.done i j (h.same hc i j hp) (.inl (h.pb.rng i j hp).1)⟩
end Go.Proofs.YteenmolhopbpeaaDoor
namespace Go.Proofs.YteenmolhopbpeaaDoor
open Go.RowKit
section order
variable {l : List Ty} {fs : List Ft} {a b c : List Nd}
def Srt (xs : List (Int × Int)) : Prop := xs.Pairwise (fun x y => x.1 < y.1)
theorem srt_of {nf n : Nat} {last : Int} {xs : List (Int × Int)} (h : lnFault nf n last xs = 0) : Srt xs := by
  have hs := (ln_sorted h).2
  refine List.pairwise_iff_getElem.2 (fun i j hi hj hij => hs i j hi hj hij)
theorem tgt_in {xs : List (Int × Int)} (hs : Srt xs) {x : Int × Int} (hx : x ∈ xs) : tgt xs x.1 = x.2 := by
  induction xs with
  | nil => cases hx
  | cons y ys ih =>
    obtain ⟨h1, h2⟩ := List.pairwise_cons.1 hs
    rcases List.mem_cons.1 hx with e | e
    · subst e; simp [tgt]
    · have hne : ¬ y.1 = x.1 := by have := h1 x e; omega
      have := ih h2 e
      simp only [tgt, List.find?_cons, hne, decide_false] at this ⊢
      exact this
theorem mem_tgt {xs : List (Int × Int)} {f : Int} (h : 0 ≤ tgt xs f) : (f, tgt xs f) ∈ xs := by
  induction xs with
  | nil => simp [tgt] at h
  | cons y ys ih =>
    by_cases e : y.1 = f
    · have : tgt (y :: ys) f = y.2 := by simp [tgt, e]
      rw [this]
      have : (f, y.2) = y := by rw [← e]
      rw [this]; exact List.mem_cons_self ..
    · have : tgt (y :: ys) f = tgt ys f := by simp [tgt, e]
      rw [this] at h ⊢
      exact List.mem_cons_of_mem _ (ih h)
theorem nodup_le : ∀ {xs ys : List Nat}, xs.Nodup → (∀ x ∈ xs, x ∈ ys) → xs.length ≤ ys.length
  | [], _, _, _ => Nat.zero_le _
  | x :: xs, ys, hn, h => by
    obtain ⟨h1, h2⟩ := List.nodup_cons.1 hn
    have hx := h x (List.mem_cons_self ..)
    have hl := List.length_erase_of_mem hx
    have hp := List.length_pos_of_mem hx
    have := nodup_le (xs := xs) (ys := ys.erase x) h2 (fun y hy => (List.mem_erase_of_ne (fun e : y = x => h1 (by rw [← e]; exact hy))).2 (h y (List.mem_cons_of_mem _ hy)))
    rw [List.length_cons]; omega
structure GY (l : List Ty) (a : List Nd) : Prop where
  vt : VT l
  pos : 0 < a.length
  tr : ∀ i, i < a.length → 0 ≤ (nd a i).ty ∧ (nd a i).ty < l.length
  srt : ∀ i, i < a.length → Srt (nd a i).ln
  lr : ∀ i, i < a.length → ∀ x ∈ (nd a i).ln, 0 ≤ x.2 ∧ x.2.toNat < a.length
structure GX (l : List Ty) (a : List Nd) : Prop extends GY l a where
  rch : ∀ i, i < a.length → Rch a i
theorem GV.gx (h : GV l fs a) : GX l a :=
  ⟨⟨h.s.vt, h.gok.pos, fun i hi => by rw [nd_eq hi]; exact h.gok.ty i hi, fun i hi => by rw [nd_eq hi]; exact srt_of (loose_ln h.lo i hi), fun i hi x hx => by
    rw [nd_eq hi] at hx
    have := h.gok.ln i hi x hx
    omega⟩, h.rch⟩
theorem GV.lt (h : GV l fs a) {i : Nat} (hi : i < a.length) {x : Int × Int} (hx : x ∈ (nd a i).ln) : 0 ≤ x.1 ∧ x.1 < fs.length ∧ sub l (nd a i).ty.toNat (ftAt fs x.1).of.toNat = true ∧ sub l (nd a x.2.toNat).ty.toNat (ftAt fs x.1).val.toNat = true := by
  rw [nd_eq hi] at hx
  have h1 := h.gok.ln i hi x hx
  have h0 : tyN l fs a i = 0 := firstF_zero (by rw [show firstF (tyN l fs a) 0 a.length = tyF l fs a from rfl, h.t]) _ (Nat.zero_le _) om
  have h2 : lnTy l fs a (a[i]).ty x = false := by
    simp only [tyN, List.getElem?_eq_getElem hi] at h0
    cases hb : lnTy l fs a (a[i]).ty x with
    | false => rfl
    | true => rw [if_pos (List.any_eq_true.2 ⟨x, hx, hb⟩)] at h0; cases h0
  unfold lnTy at h2
  rw [show (ndAt a x.2).ty.toNat = (nd a x.2.toNat).ty.toNat from rfl, Bool.or_eq_false_iff] at h2
  rw [nd_eq hi]
  simp only [Bool.not_eq_false'] at h2
  exact ⟨h1.1, h1.2.1, h2.1, h2.2⟩
theorem GY.rng (h : GY l a) : ∀ i, i < a.length → ∀ t ∈ succN a i, t < a.length := fun i hi t ht => by
  simp only [succN, List.mem_map] at ht
  obtain ⟨x, hx, rfl⟩ := ht
  exact (h.lr i hi x hx).2
theorem Hom.refl (h : GX l a) : Hom l a a (fun i => i) :=
  ⟨rfl, fun _ hi => hi, fun _ _ => sub_refl h.vt _, fun i hi x hx => by
    have := h.lr i hi x hx
    rw [tgt_in (h.srt i hi) hx]; omega⟩
theorem Hom.comp {φ ψ : Nat → Nat} (hl : VT l) (hφ : Hom l a b φ) (hψ : Hom l b c ψ) : Hom l a c (fun i => ψ (φ i)) :=
  ⟨by show ψ (φ 0) = 0; rw [hφ.zero, hψ.zero], fun i hi => hψ.lt _ (hφ.lt i hi), fun i hi => sub_tr hl (hψ.ty _ (hφ.lt i hi)) (hφ.ty i hi), fun i hi x hx => by
    have h1 := hφ.ln i hi x hx
    have hm := mem_tgt (xs := (nd b (φ i)).ln) (f := x.1) om
    rw [h1] at hm
    have := hψ.ln _ (hφ.lt i hi) _ hm
    rw [Int.toNat_natCast] at this
    exact this⟩
theorem Maps.comp (hl : VT l) (h : Maps l a b) (k : Maps l b c) : Maps l a c := by
  obtain ⟨φ, hφ⟩ := h
  obtain ⟨ψ, hψ⟩ := k
  exact ⟨_, hφ.comp hl hψ⟩
theorem hom_can {r : Nat} {o : List Nat} (t : TrR a r o) {x : Nat} (hx : x ∈ o) : nd (canG a o) (o.idxOf x) = trN (o.idxOf ·) (nd a x) := by
  rw [canG_nd hx]
  refine nd_ext rfl ?_
  simp only [canN, trN]
  refine List.map_congr_left (fun y hy => ?_)
  simp only [canL, numO_in (t.mem hx hy)]
theorem dl_ex {g : List Nd} (hr : ∀ i, i < g.length → ∀ t ∈ succN g i, t < g.length) : ∀ (n : Nat) (is o : List Nat), lackN g.length (memB o) ≤ n → (∀ i ∈ is, i < g.length) → ∃ o', DL g is o o'
  | n, [], o, _, _ => ⟨o, .nil⟩
  | n, i :: is, o, hn, hi => by
    have hil := hi i (List.mem_cons_self ..)
    have his : ∀ j ∈ is, j < g.length := fun j hj => hi j (List.mem_cons_of_mem _ hj)
    by_cases h : i ∈ o
    · obtain ⟨o', h1⟩ := dl_ex hr n is o hn his
      exact ⟨o', .old h h1⟩
    · have hl := lack_snoc hil h
      cases n with
      | zero => omega
      | succ n =>
        obtain ⟨o1, h1⟩ := dl_ex hr n (succN g i) (o ++ [i]) om (hr i hil)
        have hm : lackN g.length (memB o1) ≤ lackN g.length (memB (o ++ [i])) := by
          unfold lackN
          refine List.countP_mono_left (fun x _ hx => ?_)
          simp only [memB, Bool.not_eq_true', decide_eq_false_iff_not] at hx ⊢
          exact fun k => hx (h1.sub x k)
        obtain ⟨o', h2⟩ := dl_ex hr n is o1 om his
        exact ⟨o', .new h h1 h2⟩
theorem GY.dl (h : GY l a) {r : Nat} (hr : r < a.length) : ∃ o, DL a [r] [] o := dl_ex h.rng _ [r] [] (Nat.le_refl _) (fun i hi => by rw [List.mem_singleton.1 hi]; exact hr)
theorem TrR.at_ {r : Nat} {o : List Nat} (t : TrR a r o) {j : Nat} (hj : j < (canG a o).length) : ∃ x, x ∈ o ∧ o.idxOf x = j ∧ o.getD j 0 = x ∧ nd (canG a o) j = trN (o.idxOf ·) (nd a x) := by
  rw [canG_len] at hj
  have hjo := List.getElem_mem hj
  have h1 := hom_can t hjo
  rw [idx_get t.nodup hj] at h1
  exact ⟨o[j], hjo, idx_get t.nodup hj, by simp [List.getD, hj], h1⟩
theorem TrR.gx {r : Nat} {o : List Nat} (t : TrR a r o) (ha : GY l a) : GX l (canG a o) := by
  have hlen := canG_len a o
  have hrg : ∀ i, i < (canG a o).length → ∀ x ∈ (nd (canG a o) i).ln, 0 ≤ x.2 ∧ x.2.toNat < (canG a o).length := fun j hj x hx => by
    obtain ⟨y, hy, _, _, e⟩ := t.at_ hj
    rw [e] at hx
    obtain ⟨z, hz, rfl⟩ := List.mem_map.1 hx
    have := (get_idx (t.mem hy hz)).1
    simp only [hlen]
    omega
  refine ⟨⟨ha.vt, by rw [hlen]; exact List.length_pos_of_mem t.has, fun j hj => ?_, fun j hj => ?_, hrg⟩, fun j hj => ?_⟩
  · obtain ⟨y, hy, _, _, e⟩ := t.at_ hj
    rw [e]; exact ha.tr _ (t.lt hy)
  · obtain ⟨y, hy, _, _, e⟩ := t.at_ hj
    rw [e]; exact List.pairwise_map.2 (ha.srt _ (t.lt hy))
  · have hd := t.dl2 t.has t.dl
    rw [t.zero, map_idx t.nodup] at hd
    have hR := hd.rch (fun i hi y hy => by
      simp only [succN, List.mem_map] at hy
      obtain ⟨x, hx, rfl⟩ := hy
      exact (hrg i hi x hx).2) (fun i hi => by rw [List.mem_singleton.1 hi, hlen]; exact List.length_pos_of_mem t.has) (fun i hi => by rw [List.mem_singleton.1 hi]; exact .zero) (fun x hx => by cases hx)
    exact hR j (List.mem_range.2 (by rw [← hlen]; exact hj))
theorem Hom.part {φ : Nat → Nat} (h : Hom l a b φ) (hb : GX l b) {i : Nat} {oa ob : List Nat} (ta : TrR a i oa) (tb : TrR b (φ i) ob) : Maps l (canG a oa) (canG b ob) := by
  have hmem : ∀ x, x ∈ oa → φ x ∈ ob := by
    have hR : ∀ x, x ∈ oa → x ∈ oa ∧ φ x ∈ ob := by
      have hw := DL.within (o := oa.filter (fun x => decide (φ x ∈ ob))) (g := a) (fun x hx t ht => by
        simp only [List.mem_filter, decide_eq_true_eq] at hx ⊢
        refine ⟨ta.clo x hx.1 t ht, ?_⟩
        simp only [succN, List.mem_map] at ht
        obtain ⟨y, hy, rfl⟩ := ht
        have h2 := h.ln x (ta.lt hx.1) y hy
        have hm := mem_tgt (xs := (nd b (φ x)).ln) (f := y.1) om
        rw [h2] at hm
        have := tb.mem hx.2 hm
        rwa [Int.toNat_natCast] at this) ta.dl (fun z hz => by
          rw [List.mem_singleton.1 hz]
          simp only [List.mem_filter, decide_eq_true_eq]
          exact ⟨ta.has, tb.has⟩) (fun x hx => by cases hx)
      intro x hx
      have := hw x hx
      simp only [List.mem_filter, decide_eq_true_eq] at this
      exact this
    exact fun x hx => (hR x hx).2
  have hgb := tb.gx hb.toGY
  have la := canG_len a oa
  have lb := canG_len b ob
  have hz : oa.getD 0 0 = i := by
    have h0 := get_idx ta.has
    have hp : 0 < oa.length := by have := h0.1; omega
    have := h0.2
    simp only [ta.zero] at this
    simp [List.getD, hp, this]
  have hat : ∀ j, j < (canG a oa).length → oa.getD j 0 ∈ oa ∧ nd (canG a oa) j = trN (oa.idxOf ·) (nd a (oa.getD j 0)) := fun j hj => by
    rw [la] at hj
    have e : oa.getD j 0 = oa[j] := by simp [List.getD, hj]
    have hjo := List.getElem_mem hj
    have h1 := hom_can ta hjo
    rw [idx_get ta.nodup hj] at h1
    rw [e]; exact ⟨hjo, h1⟩
  refine ⟨fun j => ob.idxOf (φ (oa.getD j 0)), ?_, fun j hj => ?_, fun j hj => ?_, fun j hj x hx => ?_⟩
  · show ob.idxOf (φ (oa.getD 0 0)) = 0
    rw [hz]; exact tb.zero
  · rw [lb]; exact (get_idx (hmem _ (hat j hj).1)).1
  · obtain ⟨h1, h2⟩ := hat j hj
    show sub l (nd (canG b ob) (ob.idxOf (φ (oa.getD j 0)))).ty.toNat _ = true
    rw [h2, hom_can tb (hmem _ h1)]
    exact h.ty _ (ta.lt h1)
  · obtain ⟨h1, h2⟩ := hat j hj
    rw [h2] at hx
    obtain ⟨y, hy, rfl⟩ := List.mem_map.1 hx
    have hb1 := get_idx (hmem _ h1)
    have hs := hgb.srt (ob.idxOf (φ (oa.getD j 0))) (by rw [lb]; exact hb1.1)
    have h3 := h.ln _ (ta.lt h1) y hy
    have hm := mem_tgt (xs := (nd b (φ (oa.getD j 0))).ln) (f := y.1) om
    rw [h3] at hm
    show tgt (nd (canG b ob) (ob.idxOf (φ (oa.getD j 0)))).ln y.1 = ((ob.idxOf (φ (oa.getD ((oa.idxOf y.2.toNat : Nat) : Int).toNat 0)) : Nat) : Int)
    have hyo := get_idx (ta.mem h1 hy)
    have e2 : oa.getD (oa.idxOf y.2.toNat) 0 = y.2.toNat := by
      have := hyo.2
      simp [List.getD, hyo.1, this]
    rw [Int.toNat_natCast, e2]
    rw [hom_can tb (hmem _ h1)] at hs ⊢
    have hm2 : ((y.1, ((ob.idxOf (φ y.2.toNat) : Nat) : Int)) : Int × Int) ∈ (trN (ob.idxOf ·) (nd b (φ (oa.getD j 0)))).ln := List.mem_map.2 ⟨_, hm, by rw [Int.toNat_natCast]⟩
    exact tgt_in hs hm2
end order
end Go.Proofs.YteenmolhopbpeaaDoor
namespace Go.Proofs.YteenmolhopbpeaaDoor
open Go.RowKit
theorem top_of {l : List Ty} (h : (typesFault l).1 = 0) : ∀ (n i : Nat), i ≤ n → i < l.length → sub l i 0 = true
  | n, i, hin, hi => by
    have hv := vt_of h
    by_cases e : i = 0
    · subst e; exact sub_refl hv 0
    · have ht := (tyFault_ok hi (types_ok h hi)).2.2.1
      have hne : (l[i]).par ≠ [] := fun hp => by rw [hp] at ht; simp [e] at ht
      obtain ⟨p, hp⟩ := List.exists_mem_of_ne_nil _ hne
      have hpr := hv i hi p hp
      cases n with
      | zero => omega
      | succ n =>
        have := top_of h n p.toNat om om
        exact sub_tr hv (sub_par hv hi hp) this
theorem join_mem {l : List Ty} {a b : Nat} {z : Int} : z ∈ joinsK l a b l.length ↔ ∃ n : Nat, z = (n : Int) ∧ n < l.length ∧ joinB l a b n = true := by
  simp only [joinsK, List.mem_map, List.mem_filter, List.mem_range]
  constructor
  · rintro ⟨n, ⟨h1, h2⟩, rfl⟩; exact ⟨n, rfl, h1, h2⟩
  · rintro ⟨n, rfl, h1, h2⟩; exact ⟨n, ⟨h1, h2⟩, rfl⟩
theorem join_below {l : List Ty} (hv : VT l) {a b : Nat} : ∀ (d c : Nat), l.length - c ≤ d → c < l.length → capB l a b c = true → ∃ m, m < l.length ∧ joinB l a b m = true ∧ sub l m c = true
  | d, c, hd, hc, hcap => by
    by_cases hj : joinB l a b c = true
    · exact ⟨c, hc, hj, sub_refl hv c⟩
    · have : ¬ ∀ j, j < l.length → j ≠ c → sub l j c = true → capB l a b j = false := fun h => hj (joinB_iff.2 ⟨hcap, h⟩)
      have ⟨j, h1, h2, h3, h4⟩ : ∃ j, j < l.length ∧ j ≠ c ∧ sub l j c = true ∧ ¬ capB l a b j = false := by
        refine Classical.byContradiction (fun hn => this (fun j h1 h2 h3 => ?_))
        exact Classical.byContradiction (fun h4 => hn ⟨j, h1, h2, h3, h4⟩)
      have hle := sub_le' hv h3
      cases d with
      | zero => omega
      | succ d =>
        obtain ⟨m, m1, m2, m3⟩ := join_below hv d j om h1 (by simpa using h4)
        exact ⟨m, m1, m2, sub_tr hv m3 h3⟩
theorem join_pos {l : List Ty} (h : (typesFault l).1 = 0) {a b : Nat} (ha : a < l.length) (hb : b < l.length) : 0 < (joinsK l a b l.length).length := by
  have hc : capB l a b 0 = true := by simp [capB, top_of h a a (Nat.le_refl _) ha, top_of h b b (Nat.le_refl _) hb]
  obtain ⟨m, m1, m2, _⟩ := join_below (vt_of h) _ 0 (Nat.le_refl _) om hc
  exact List.length_pos_of_mem (join_mem.2 ⟨m, rfl, m1, m2⟩)
def jnV (l : List Ty) (a b : Nat) : Int := (joinsK l a b l.length).headD 0
def jok (l : List Ty) (a b : Nat) : Bool := decide ((joinsK l a b l.length).length = 1)
theorem jn_one {l : List Ty} {a b : Nat} (h : jok l a b = true) : joinsK l a b l.length = [jnV l a b] := by
  simp only [jok, decide_eq_true_eq] at h
  unfold jnV
  match hj : joinsK l a b l.length, h with
  | [z], _ => rfl
theorem jn_lt {l : List Ty} (h : 0 < l.length) (a b : Nat) : 0 ≤ jnV l a b ∧ jnV l a b < l.length := by
  unfold jnV
  match hj : joinsK l a b l.length with
  | [] => exact ⟨Int.le_refl _, by show (0 : Int) < _; omega⟩
  | z :: zs =>
    obtain ⟨n, e, h1, _⟩ := join_mem.1 (show z ∈ joinsK l a b l.length by rw [hj]; exact List.mem_cons_self ..)
    show 0 ≤ z ∧ z < _
    omega
def pLn (a b : List Nd) (i j : Nat) : List (Int × Int) := (nd a i).ln.filterMap (fun x => if tgt (nd b j).ln x.1 < 0 then none else some (x.1, ((x.2.toNat * b.length + (tgt (nd b j).ln x.1).toNat : Nat) : Int)))
def pG (l : List Ty) (a b : List Nd) : List Nd := (List.range (a.length * b.length)).map (fun z => ⟨jnV l (nd a (z / b.length)).ty.toNat (nd b (z % b.length)).ty.toNat, pLn a b (z / b.length) (z % b.length)⟩)
def pok (l : List Ty) (a b : List Nd) (z : Nat) : Bool := jok l (nd a (z / b.length)).ty.toNat (nd b (z % b.length)).ty.toNat
theorem pG_len (l : List Ty) (a b : List Nd) : (pG l a b).length = a.length * b.length := by simp [pG]
theorem pG_nd {l : List Ty} {a b : List Nd} {z : Nat} (hz : z < a.length * b.length) : nd (pG l a b) z = ⟨jnV l (nd a (z / b.length)).ty.toNat (nd b (z % b.length)).ty.toNat, pLn a b (z / b.length) (z % b.length)⟩ := by
  rw [nd_eq (by rw [pG_len]; exact hz)]; simp [pG]
theorem enc_div {nb i j : Nat} (hj : j < nb) : (i * nb + j) / nb = i ∧ (i * nb + j) % nb = j := by
  constructor
  · rw [Nat.mul_comm, Nat.mul_add_div om, Nat.div_eq_of_lt hj, Nat.add_zero]
  · rw [Nat.mul_comm, Nat.mul_add_mod, Nat.mod_eq_of_lt hj]
theorem enc_lt {na nb i j : Nat} (hi : i < na) (hj : j < nb) : i * nb + j < na * nb := by
  have := Nat.mul_le_mul_right nb (show i + 1 ≤ na from hi)
  rw [Nat.add_mul, Nat.one_mul] at this
  omega
theorem dec_lt {na nb z : Nat} (h : z < na * nb) : z / nb < na ∧ z % nb < nb := by
  have hp : 0 < nb := by
    rcases Nat.eq_zero_or_pos nb with e | e
    · subst e; simp at h
    · exact e
  exact ⟨Nat.div_lt_of_lt_mul (by rw [Nat.mul_comm]; exact h), Nat.mod_lt _ hp⟩
theorem pLn_mem {a b : List Nd} {i j : Nat} {z : Int × Int} : z ∈ pLn a b i j ↔ ∃ x ∈ (nd a i).ln, 0 ≤ tgt (nd b j).ln x.1 ∧ z = (x.1, ((x.2.toNat * b.length + (tgt (nd b j).ln x.1).toNat : Nat) : Int)) := by
  simp only [pLn, List.mem_filterMap]
  constructor
  · rintro ⟨x, hx, h⟩
    by_cases e : tgt (nd b j).ln x.1 < 0
    · rw [if_pos e] at h; cases h
    · rw [if_neg e] at h; exact ⟨x, hx, by omega, (Option.some.inj h).symm⟩
  · rintro ⟨x, hx, h1, rfl⟩
    exact ⟨x, hx, by rw [if_neg om]⟩
theorem srt_filterMap {g : Int × Int → Option (Int × Int)} (hg : ∀ x y, g x = some y → y.1 = x.1) : ∀ {xs : List (Int × Int)}, Srt xs → Srt (xs.filterMap g)
  | [], _ => List.Pairwise.nil
  | x :: xs, h => by
    obtain ⟨h1, h2⟩ := List.pairwise_cons.1 h
    have ih := srt_filterMap hg h2
    cases e : g x with
    | none => rw [List.filterMap_cons, e]; exact ih
    | some y =>
      rw [List.filterMap_cons, e]
      refine List.pairwise_cons.2 ⟨fun z hz => ?_, ih⟩
      obtain ⟨q, hq, e2⟩ := List.mem_filterMap.1 hz
      have := h1 q hq
      rw [hg x y e, hg q z e2]; exact this
section gen
variable {l : List Ty} {fs : List Ft} {a b c : List Nd}
theorem pG_gy (ha : GX l a) (hb : GX l b) (hl : 0 < l.length) : GY l (pG l a b) := by
  refine ⟨ha.vt, by rw [pG_len]; exact Nat.mul_pos ha.pos hb.pos, fun z hz => ?_, fun z hz => ?_, fun z hz x hx => ?_⟩ <;> rw [pG_len] at hz
  · rw [pG_nd hz]; exact jn_lt hl _ _
  · rw [pG_nd hz]
    refine srt_filterMap (fun x y h => ?_) (ha.srt _ (dec_lt hz).1)
    split at h
    · cases h
    · rw [← Option.some.inj h]
  · rw [pG_nd hz] at hx
    obtain ⟨y, hy, h1, rfl⟩ := pLn_mem.1 hx
    have d := dec_lt hz
    have h2 := ha.lr _ d.1 y hy
    have hm := mem_tgt h1
    have h3 := hb.lr _ d.2 _ hm
    rw [pG_len]
    simp only [Int.toNat_natCast]
    exact ⟨by omega, enc_lt h2.2 h3.2⟩
variable {o : List Nat}
end gen
def genS (ok : Nat → Bool) : Nat → List Nat → Fl
  | _, [] => (0, 0)
  | k, z :: r => if k = 60 then (17, -1) else if ok z = true then genS ok (k + 1) r else (16, (k : Int))
theorem genS_cons (ok : Nat → Bool) (k z : Nat) (r : List Nat) : genS ok k (z :: r) = if k = 60 then (17, -1) else if ok z = true then genS ok (k + 1) r else (16, (k : Int)) := rfl
theorem genS_app {ok : Nat → Bool} : ∀ {xs ys : List Nat} {k : Nat}, genS ok k (xs ++ ys) = if (genS ok k xs).1 = 0 then genS ok (k + xs.length) ys else genS ok k xs
  | [], ys, k => by simp [genS]
  | x :: xs, ys, k => by
    rw [List.cons_append, genS_cons, genS_cons]
    by_cases h1 : k = 60
    · rw [if_pos h1, if_pos h1]; simp
    · rw [if_neg h1, if_neg h1]
      by_cases h2 : ok x = true
      · rw [if_pos h2, if_pos h2, genS_app, List.length_cons, Nat.add_assoc, Nat.add_comm 1]
      · rw [if_neg h2, if_neg h2]; simp
theorem genS_ok {ok : Nat → Bool} : ∀ {xs : List Nat} {k : Nat}, k ≤ 60 → (genS ok k xs).1 = 0 → genS ok k xs = (0, 0) ∧ k + xs.length ≤ 60 ∧ ∀ z ∈ xs, ok z = true
  | [], k, hk, _ => ⟨rfl, hk, fun z hz => by cases hz⟩
  | x :: xs, k, hk, h => by
    unfold genS at h ⊢
    by_cases h1 : k = 60
    · rw [if_pos h1] at h; cases h
    · rw [if_neg h1] at h ⊢
      by_cases h2 : ok x = true
      · rw [if_pos h2] at h ⊢
        obtain ⟨a1, a2, a3⟩ := genS_ok om h
        refine ⟨a1, by rw [List.length_cons]; omega, fun z hz => ?_⟩
        rcases List.mem_cons.1 hz with e | hz
        · rw [e]; exact h2
        · exact a3 z hz
      · rw [if_neg h2] at h; cases h
end Go.Proofs.YteenmolhopbpeaaDoor
namespace Go.Proofs.YteenmolhopbpeaaDoor
open Go.RowKit
theorem r_cvU {P : Program} {n : Nat} {f : Fr} {w : World} {dst : Option Tmp} {gd : Option (Nat × Bool)} {ty : TypeId} {pos : String} {af : Array Edge} {x : Operand} {k' : IntKind} {a : Int} {t t' : TypeId} {dd : TypeDesc} (hs : P.underlying t = some dd) (hd : P.underlying t' = some (.int .u64)) (hx : ev n f x = .int k' a) (ha : 0 ≤ a ∧ a ≤ 18446744073709551615) :
    RV P n f w ⟨dst, .convert t t' x, ty, pos, af, gd⟩ (.int .u64 a) w := by
  have := IntWalk.u64_in a ha
  simp [RV, execOp, hx, convert, run_underlying hs, run_underlying hd, Conv.intToInt, this]
def cmpI (a b : Int) : Int := if a < b then -1 else if b < a then 1 else 0
theorem cmpI_lt {a b : Int} : cmpI a b < 0 ↔ a < b := by unfold cmpI; split <;> (try split) <;> omega
theorem cmpI_eq {a b : Int} : cmpI a b = 0 ↔ a = b := by unfold cmpI; split <;> (try split) <;> omega
theorem fn31 : callable Tryd.prog 31 = true := by kernel_rfl
theorem fn32 : callable Tryd.prog 32 = true := by kernel_rfl
theorem fn44 : callable Tryd.prog 44 = true := by kernel_rfl
theorem sz3_GSearch : (Tryd.prog.info? 3).map (·.size) = some 1 := by kernel_rfl
theorem sz36_GSearch : (Tryd.prog.info? 36).map (·.size) = some 2 := by kernel_rfl
theorem nan_any (a : Int) (w : World) : Calls Tryd.prog 44 #[.int .i64 a] w fun e w' => e = .returned (.bool false) ∧ Bel w w' := by
 refine enter Tryd.func44 Tryd.ntmps44 rfl (Nat.le_of_ble_eq_true rfl) ?_
 have hB : Bel w w := Below.refl _ _
 refine c_seq (c_region (waB rfl (x_nil (e_S (c_seq ?_)))))
 refine c_region (wmI rfl (wmI rfl (wl (r_neq rfl rfl) (waB rfl (x_nil ?_)))))
 refine e_S (c_ret (fin1 (.inl rfl) rfl rfl ?_))
 exact ⟨ret_bool (decide_eq_false (fun h => h rfl)).symm, hB⟩
theorem compare_any (a b : Int) (w : World) : Calls Tryd.prog 32 #[.int .i64 a, .int .i64 b] w fun e w' => e = .returned (.int .i64 (cmpI a b)) ∧ Bel w w' := by
 refine enter Tryd.func32 Tryd.ntmps32 rfl (Nat.le_of_ble_eq_true rfl) ?_
 have hB : Bel w w := Below.refl _ _
 refine c_seq (c_region (waI rfl (x_nil (e_S (c_seq ?_)))))
 refine c_region (wmI rfl ?_)
 refine wl_cl fn44 (nan_any _ _) rfl (fun e' w1 hr => ?_)
 obtain ⟨rfl, hs⟩ := hr
 replace hs := Same.of_bel hs
 replace hB := hB.tr0 hs
 clear hs
 refine ⟨_, rfl, ?_⟩
 refine waB rfl (x_nil (e_S (c_seq (c_region (wmI rfl ?_)))))
 refine wl_cl fn44 (nan_any _ _) rfl (fun e' w2 hr => ?_)
 obtain ⟨rfl, hs⟩ := hr
 replace hs := Same.of_bel hs
 replace hB := hB.tr0 hs
 clear hs
 refine ⟨_, rfl, ?_⟩
 refine waB rfl (x_nil (e_S (c_seq (c_seq (c_region ?_)))))
 refine wmB rfl (x_nil (e_S ?_))
 refine c_if rfl (fun c11 => ?_) (fun c11 => ?_)
 ·
  exact absurd c11 dE
 refine c_skip (e_S (c_seq (c_seq (c_region (wmB rfl ?_)))))
 refine x_nil (e_S ?_)
 refine c_if rfl (fun c13 => ?_) (fun c13 => ?_)
 ·
  exact absurd c13 dE
 refine c_skip (e_S (c_seq (c_seq (c_region (wmI rfl ?_)))))
 refine wmI rfl (wl (r_lss rfl rfl) (x_nil (e_S ?_)))
 refine c_ifd rfl (fun c16 => ?_) (fun c16 => ?_)
 ·
  refine c_seq (c_region (waI rfl (x_nil (e_S (c_ret ?_)))))
  refine e_Sr (fin1 (.inl rfl) rfl rfl ?_)
  exact ⟨ret_int (by unfold cmpI; rw [if_pos c16]), hB⟩
 refine c_skip (e_S (c_seq (c_seq (c_region (wmI rfl ?_)))))
 refine wmI rfl (wl (r_gtr rfl rfl) (x_nil (e_S ?_)))
 refine c_ifd rfl (fun c19 => ?_) (fun c19 => ?_)
 ·
  refine c_seq (c_region (waI rfl (x_nil (e_S (c_ret ?_)))))
  refine e_Sr (fin1 (.inl rfl) rfl rfl ?_)
  exact ⟨ret_int (by unfold cmpI; rw [if_neg c16]; exact if_pos c19), hB⟩
 refine c_skip (e_S (c_seq (c_region (waI rfl (x_nil ?_)))))
 refine e_S (c_ret (fin1 (.inl rfl) rfl rfl ?_))
 exact ⟨ret_int (by unfold cmpI; rw [if_neg c16]; exact if_neg c19), hB⟩
theorem tcl_any (a b f : Int) (w : World) : Calls Tryd.prog 31 #[.agg #[.int .i64 a, .int .i64 b], .int .i64 f] w fun e w' => e = .returned (.int .i64 (cmpI a f)) ∧ Bel w w' := by
 refine enter Tryd.func31 Tryd.ntmps31 rfl (Nat.le_of_ble_eq_true rfl) ?_
 have hB : Bel w w := Below.refl _ _
 refine c_seq (c_region ?_)
 refine wl_bx (v := .agg #[_, _]) (cs := #[_, _]) rfl rfl (fun b2 w1 hb2 hs hr => ?_)
 have lo2 := nLT (Bel.size hB) hr
 replace hB := hB.tr0 hs
 clear hs
 clear hr
 refine waI rfl (x_nil (e_S (c_seq (c_region (wl (r_fa U36 sz3_GSearch dE rfl rfl rfl) ?_)))))
 refine wl (r_ld1 (v := .int _ _) U3 rfl rfl (hb2.cell rfl)) (wmI rfl ?_)
 refine wl_cl fn32 (compare_any _ _ _) rfl (fun e' w2 hr => ?_)
 obtain ⟨rfl, hs⟩ := hr
 replace hs := Same.of_bel hs
 replace hB := hB.tr0 hs
 replace hb2 := hb2.tr0 hs
 clear hs
 refine ⟨_, rfl, ?_⟩
 refine waI rfl (x_nil (e_S (c_ret (fin1 (.inl rfl) rfl rfl ?_))))
 exact ⟨rfl, hB⟩
theorem bsf_any (A : Option Addr) (c : Nat) (xs : List (Int × Int)) (f : Int) (w : World) (hX : LinksIn w A xs) (hl : xs.length ≤ 1000) (hmono : ∀ i j (hi : i < xs.length) (hj : j < xs.length), i ≤ j → (xs[i]).1 ≤ (xs[j]).1) : Calls Tryd.prog 30 #[.slice A xs.length c, .int .i64 f, .func (.func 31) #[] #[]] w fun e w' => (∃ (i : Nat) (b : Bool), i ≤ xs.length ∧ e = .returned (.tuple #[.int .i64 i, .bool b]) ∧ (∀ j (hj : j < xs.length), j < i → (xs[j]).1 < f) ∧ (∀ j (hj : j < xs.length), i ≤ j → f ≤ (xs[j]).1) ∧ (b = true ↔ ∃ h : i < xs.length, (xs[i]).1 = f)) ∧ Bel w w' := by
 refine enter Tryd.func30 Tryd.ntmps30 rfl (Nat.le_of_ble_eq_true rfl) ?_
 have hB : Bel w w := Below.refl _ _
 refine c_seq (c_region (waI rfl (waB rfl (x_nil (e_S ?_)))))
 refine c_seq (c_region (wmS rfl (wl (r_len U37 rfl) (waI rfl (x_nil ?_)))))
 refine e_S (c_seq (c_region (wmI rfl (waI rfl (waI rfl ?_)))))
 refine x_nil (e_S (c_seq (c_block ?_)))
 refine c_loopS [9, 10, 11, 15, 16, 17, 18, 19, 20, 21, 22, 23, 24, 25, 26, 27, 28, 29, 30, 31, 32, 33, 34] (fun m g w' => ∃ i j : Nat, i ≤ j ∧ j ≤ xs.length ∧ m = j - i ∧ g 9 = .int .i64 i ∧ g 10 = .int .i64 j ∧ Bel w w' ∧ (∀ x (hx : x < xs.length), x < i → (xs[x]).1 < f) ∧ (∀ x (hx : x < xs.length), j ≤ x → f ≤ (xs[x]).1)) (xs.length) ?_ (fun m g3 w1 hI => ?_)
 ·
  exact ⟨0, xs.length, Nat.zero_le _, Nat.le_refl _, rfl, rfl, rfl, hB, fun x _ h => by omega, fun x h1 h2 => by omega⟩
 obtain ⟨i, j, hij, hj, hm, h9, h10, hB, hlo, hhi⟩ := hI
 refine c_know 9 (.int .i64 i) h9 nu (c_know 10 (.int .i64 j) h10 nu (c_seq (c_seq (c_region (wmI rfl ?_)))))
 refine wmI rfl (wl (r_lss rfl rfl) (x_nil (e_S ?_)))
 refine c_ifd rfl (fun c17 => ?_) (fun c17 => ?_)
 ·
  obtain ⟨h, hh⟩ : ∃ h, h = (i + j) / 2 := ⟨_, rfl⟩
  have hhl : h < xs.length := by omega
  obtain ⟨lb, lof, rfl, hlb, hlr⟩ := hX.at_ hB hhl
  refine c_skip (e_S (c_block (c_seq (c_region (wmI rfl ?_)))))
  refine wmI rfl (wl (r_add (c := ((i + j : Nat) : Int)) rfl rfl om om) (wl (r_cvU U3 Tryd.underlying91 rfl om) (wl (r_shr (b := 1) (c := h) rfl rfl om (by rw [hh, Nat.shiftRight_eq_div_pow])) (wl (r_cvI Tryd.underlying91 U3 rfl om) (waI rfl ?_)))))
  refine x_nil (e_S (c_seq (c_region (wl (r_mv (v := .func _ _ _) rfl) (wmS rfl ?_)))))
  refine wmI rfl (wl (r_ia (i := h) U37 sz36_GSearch rfl rfl om rfl) (wl (r_ldS U36 rfl rfl hlr sz36_GSearch) (wmI rfl ?_)))
  refine wl_clv rfl fn31 (tcl_any _ _ f _) rfl rfl (fun e' w2 hr => ?_)
  obtain ⟨rfl, hs⟩ := hr
  replace hB := hB.tr0 (Same.of_bel hs)
  refine ⟨_, rfl, ?_⟩
  refine wl (r_lss rfl rfl) (x_nil (e_S ?_))
  refine c_ifd rfl (fun c31 => ?_) (fun c31 => ?_)
  ·
   have hlt := cmpI_lt.1 c31
   obtain ⟨i2, hi2⟩ : ∃ i2, i2 = h + 1 := ⟨_, rfl⟩
   obtain ⟨j2, hj2⟩ : ∃ j2, j2 = j := ⟨_, rfl⟩
   have hlo2 : ∀ x (hx : x < xs.length), x < i2 → (xs[x]).1 < f := fun x hx hxi => by
     by_cases e : x = h
     · subst e; exact hlt
     · have hsx : (xs[x]).1 ≤ (xs[h]).1 := hmono x h hx hhl om
       omega
   have hhi2 : ∀ x (hx : x < xs.length), j2 ≤ x → f ≤ (xs[x]).1 := fun x hx hxj => hhi x hx om
   refine c_region (wmI rfl (wl (r_add rfl rfl rfl om) (waI rfl (x_nil (e_B ?_)))))
   refine e_LS (j2 - i2) om agA ?_
   exact ⟨i2, j2, by omega, by omega, rfl, by subst hi2; rfl, by subst hj2; rfl, hB, hlo2, hhi2⟩
  have hge : ¬ (xs[h]).1 < f := fun h => c31 (cmpI_lt.2 h)
  obtain ⟨i2, hi2⟩ : ∃ i2, i2 = i := ⟨_, rfl⟩
  obtain ⟨j2, hj2⟩ : ∃ j2, j2 = h := ⟨_, rfl⟩
  have hlo2 : ∀ x (hx : x < xs.length), x < i2 → (xs[x]).1 < f := fun x hx hxi => hlo x hx om
  have hhi2 : ∀ x (hx : x < xs.length), j2 ≤ x → f ≤ (xs[x]).1 := fun x hx hxj => by
    have hsx : (xs[h]).1 ≤ (xs[x]).1 := hmono h x hhl hx om
    omega
  refine c_region (wmI rfl (waI rfl (x_nil (e_B (e_LS (j2 - i2) om agA ?_)))))
  exact ⟨i2, j2, by omega, by omega, rfl, by subst hi2; rfl, by subst hj2; rfl, hB, hlo2, hhi2⟩
 have hije : i = j := by omega
 subst hije
 refine c_exit (e_Sx (e_LSx (e_Bx (e_S (c_seq ?_)))))
 refine c_region (wmI rfl (wmI rfl (wmI rfl (wl (r_lss rfl rfl) (wmB rfl ?_)))))
 refine wl_casesd 39 rfl (fun g39 => ?_) (fun g39 => ?_)
 ·
  refine wl_gd 39 rfl rfl (wl (r_mv (v := .func _ _ _) rfl) (wl_gd 39 rfl rfl (wmS rfl (wl_gd 39 rfl rfl (wmI rfl ?_)))))
  have hiN : i < xs.length := by omega
  obtain ⟨lb, lof, rfl, hlb, hlr⟩ := hX.at_ hB hiN
  refine wl_gd 39 rfl rfl (wl (r_ia (i := i) U37 sz36_GSearch rfl rfl om rfl) (wl_gd 39 rfl rfl (wl (r_ldS U36 rfl rfl hlr sz36_GSearch) (wl_gd 39 rfl rfl (wmI rfl ?_)))))
  refine wl_gd 39 rfl rfl ?_
  refine wl_clv rfl fn31 (tcl_any _ _ f _) rfl rfl (fun e' w3 hr => ?_)
  obtain ⟨rfl, hs⟩ := hr
  replace hB := hB.tr0 (Same.of_bel hs)
  refine ⟨_, rfl, ?_⟩
  refine wl_gd 39 rfl rfl (wl (r_eql rfl rfl) (wl (r_pt (v := .bool _) rfl rfl) (waI rfl (waB rfl (x_nil ?_)))))
  refine e_S (c_ret (fin2 (.inl rfl) rfl rfl rfl ?_))
  first
    | exact ⟨⟨i, false, by omega, rfl, hlo, hhi, ⟨fun h => (Bool.noConfusion h), fun hh => absurd hh.1 om⟩⟩, hB⟩
    | exact ⟨⟨i, decide (cmpI (xs[i]'hiN).1 f = 0), by omega, rfl, hlo, hhi, by rw [decide_eq_true_iff, cmpI_eq]; exact ⟨fun h => ⟨hiN, h⟩, fun ⟨_, h⟩ => h⟩⟩, hB⟩
 refine wlgn 39 rfl rfl rfl (wlgn 39 rfl rfl rfl (wlgn 39 rfl rfl rfl (wlgn 39 rfl rfl rfl (wlgn 39 rfl rfl rfl (wlgn 39 rfl rfl rfl ?_)))))
 refine wlgn 39 rfl rfl rfl (wlgn 39 rfl rfl rfl (wl (r_pf (v := .bool _) rfl rfl) (waI rfl (waB rfl (x_nil ?_)))))
 refine e_S (c_ret (fin2 (.inl rfl) rfl rfl rfl ?_))
 first
   | exact ⟨⟨i, false, by omega, rfl, hlo, hhi, ⟨fun h => (Bool.noConfusion h), fun hh => absurd hh.1 om⟩⟩, hB⟩
   | exact ⟨⟨i, decide (cmpI (xs[i]'hiN).1 f = 0), by omega, rfl, hlo, hhi, by rw [decide_eq_true_iff, cmpI_eq]; exact ⟨fun h => ⟨hiN, h⟩, fun ⟨_, h⟩ => h⟩⟩, hB⟩
end Go.Proofs.YteenmolhopbpeaaDoor
