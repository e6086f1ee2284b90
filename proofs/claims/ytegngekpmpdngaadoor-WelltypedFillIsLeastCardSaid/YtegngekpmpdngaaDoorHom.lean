/- Maps between feature graphs: when there is one, that there is one only, and the states of the two searches for it. No program in sight. -/
import Derived.Test.YtegngekpmpdngaaDoorComp
namespace Go.Proofs.YtegngekpmpdngaaDoor
open Go.RowKit
structure Hom (l : List Ty) (a b : List Nd) (φ : Nat → Nat) : Prop where
  zero : φ 0 = 0
  lt : ∀ i, i < a.length → φ i < b.length
  ty : ∀ i, i < a.length → sub l (nd b (φ i)).ty.toNat (nd a i).ty.toNat = true
  ln : ∀ i, i < a.length → ∀ x ∈ (nd a i).ln, tgt (nd b (φ i)).ln x.1 = ((φ x.2.toNat : Nat) : Int)
theorem Hom.uniq {l : List Ty} {a b : List Nd} {φ ψ : Nat → Nat} (h : Hom l a b φ) (k : Hom l a b ψ) {i : Nat} (hr : Rch a i) : φ i = ψ i := by
  induction hr with
  | zero => rw [h.zero, k.zero]
  | step hr hi hx ih =>
    rename_i i x
    have e := nd_eq hi
    have h1 := h.ln i hi x (by rw [e]; exact hx)
    have h2 := k.ln i hi x (by rw [e]; exact hx)
    rw [ih] at h1
    rw [h1] at h2
    exact Int.ofNat.inj h2
def Maps (l : List Ty) (a b : List Nd) : Prop := ∃ φ, Hom l a b φ
noncomputable instance (l : List Ty) (a b : List Nd) : Decidable (Maps l a b) := Classical.propDecidable _
open Classical in
noncomputable def mapF (l : List Ty) (a b : List Nd) : List Int := if h : Maps l a b then (List.range a.length).map (fun i => ((Classical.choose h i : Nat) : Int)) else []
theorem mapF_no {l : List Ty} {a b : List Nd} (h : ¬ Maps l a b) : mapF l a b = [] := by unfold mapF; rw [dif_neg h]
theorem mapF_yes {l : List Ty} {a b : List Nd} {φ : Nat → Nat} (hr : ∀ i, i < a.length → Rch a i) (h : Hom l a b φ) : mapF l a b = (List.range a.length).map (fun i => ((φ i : Nat) : Int)) := by
  have hm : Maps l a b := ⟨φ, h⟩
  unfold mapF
  rw [dif_pos hm]
  refine List.map_congr_left (fun i hi => ?_)
  rw [(Classical.choose_spec hm).uniq h (hr i (List.mem_range.1 hi))]
def setI (out : Nat → Int) (t : Nat) (v : Int) (x : Nat) : Int := if x = t then v else out x
theorem setI_self (out : Nat → Int) (t : Nat) (v : Int) : setI out t v t = v := by simp [setI]
theorem setI_ne {out : Nat → Int} {t x : Nat} {v : Int} (h : x ≠ t) : setI out t v x = out x := by simp [setI, h]
theorem row_setI {n j : Nat} {v : Int} {out : Nat → Int} : row n (fun x => if x = j then Value.int .i64 v else .int .i64 (out x)) = row n (fun x => .int .i64 (setI out j v x)) :=
  row_congr (fun x _ => by by_cases e : x = j <;> simp [setI, e])
def got (out : Nat → Int) (x : Nat) : Bool := decide (0 ≤ out x)
def LinksDone (a b : List Nd) (out : Nat → Int) (j k : Nat) : Prop := ∀ x ∈ (nd a j).ln.take k, 0 ≤ out x.2.toNat ∧ tgt (nd b (out j).toNat).ln x.1 = out x.2.toNat
def NodeDone (l : List Ty) (a b : List Nd) (out : Nat → Int) (j : Nat) : Prop := sub l (nd b (out j).toNat).ty.toNat (nd a j).ty.toNat = true ∧ LinksDone a b out j (nd a j).ln.length
structure FS (l : List Ty) (a b : List Nd) (out : Nat → Int) (st : List Int) (i k : Nat) : Prop where
  zero : out 0 = 0
  rng : ∀ j, -1 ≤ out j ∧ out j < b.length
  only : ∀ j, 0 ≤ out j → ∀ φ, Hom l a b φ → out j = (φ j : Nat)
  stk : ∀ s ∈ st, ∃ n : Nat, s = (n : Int) ∧ n < a.length ∧ 0 ≤ out n
  cl : ∀ j, j < a.length → 0 ≤ out j → j ≠ i → (j : Int) ∈ st ∨ NodeDone l a b out j
  me : i < a.length → 0 ≤ out i ∧ LinksDone a b out i k
  ty : i < a.length → 0 < k → sub l (nd b (out i).toNat).ty.toNat (nd a i).ty.toNat = true
theorem FS.start {l : List Ty} {a b : List Nd} (ha : 0 < a.length) (hb : 0 < b.length) : FS l a b (setI (fun _ => -1) 0 0) [0] a.length 0 := by
  refine ⟨by simp [setI], fun j => ?_, fun j hj φ h => ?_, fun s hs => ?_, fun j _ hj _ => ?_, fun hi => absurd hi (Nat.lt_irrefl _), fun hi => absurd hi (Nat.lt_irrefl _)⟩
  · by_cases e : j = 0
    · subst e; rw [setI_self]; omega
    · rw [setI_ne e]; show (-1 : Int) ≤ -1 ∧ (-1 : Int) < _; omega
  · by_cases e : j = 0
    · subst e; rw [h.zero]; simp [setI]
    · rw [setI_ne e] at hj; omega
  · obtain rfl := List.mem_singleton.1 hs
    exact ⟨0, rfl, ha, by simp [setI]⟩
  · by_cases e : j = 0
    · subst e; exact .inl (by simp)
    · rw [setI_ne e] at hj; omega
theorem FS.pop {l : List Ty} {a b : List Nd} {out : Nat → Int} {st : List Int} {z : Int} (h : FS l a b out (st ++ [z]) a.length 0) : ∃ n m : Nat, z = (n : Int) ∧ n < a.length ∧ out n = (m : Int) ∧ m < b.length ∧ FS l a b out st n 0 := by
  obtain ⟨n, rfl, hn, hm⟩ := h.stk z (by simp)
  have hr := h.rng n
  refine ⟨n, (out n).toNat, rfl, hn, by omega, by omega, h.zero, h.rng, h.only, fun s hs => h.stk s (by simp [hs]), fun j hj hmj hne => ?_, fun _ => ⟨hm, fun x hx => by simp at hx⟩, fun _ hk => absurd hk (Nat.lt_irrefl _)⟩
  rcases h.cl j hj hmj om with h1 | h1
  · rcases List.mem_append.1 h1 with h2 | h2
    · exact .inl h2
    · have := List.mem_singleton.1 h2
      omega
  · exact .inr h1
theorem FS.noTy {l : List Ty} {a b : List Nd} {out : Nat → Int} {st : List Int} {i k : Nat} (h : FS l a b out st i k) (hi : i < a.length) (ht : ¬ sub l (nd b (out i).toNat).ty.toNat (nd a i).ty.toNat = true) : ¬ Maps l a b := by
  rintro ⟨φ, hφ⟩
  have e := h.only i (h.me hi).1 φ hφ
  rw [e, Int.toNat_natCast] at ht
  exact ht (hφ.ty i hi)
theorem FS.noLn {l : List Ty} {a b : List Nd} {out : Nat → Int} {st : List Int} {i k : Nat} (h : FS l a b out st i k) (hi : i < a.length) {x : Int × Int} (hx : x ∈ (nd a i).ln) (ht : tgt (nd b (out i).toNat).ln x.1 < 0 ∨ 0 ≤ out x.2.toNat ∧ ¬ out x.2.toNat = tgt (nd b (out i).toNat).ln x.1) : ¬ Maps l a b := by
  rintro ⟨φ, hφ⟩
  have e := h.only i (h.me hi).1 φ hφ
  rw [e, Int.toNat_natCast, hφ.ln i hi x hx] at ht
  rcases ht with ht | ⟨h1, h2⟩
  · omega
  · exact h2 (h.only _ h1 φ hφ)
theorem take_nd {a : List Nd} {i k : Nat} (hi : i < a.length) (hk : k < (a[i]).ln.length) : (nd a i).ln.take (k + 1) = (nd a i).ln.take k ++ [(a[i]).ln[k]] := by
  rw [nd_eq hi, List.take_succ_eq_append_getElem hk]
theorem LinksDone.snoc {a b : List Nd} {out : Nat → Int} {i k : Nat} (h : LinksDone a b out i k) (hi : i < a.length) (hk : k < (a[i]).ln.length) (hx : 0 ≤ out ((a[i]).ln[k]).2.toNat ∧ tgt (nd b (out i).toNat).ln ((a[i]).ln[k]).1 = out ((a[i]).ln[k]).2.toNat) : LinksDone a b out i (k + 1) := fun x hxm => by
  rw [take_nd hi hk] at hxm
  rcases List.mem_append.1 hxm with h1 | h1
  · exact h x h1
  · rw [List.mem_singleton.1 h1]; exact hx
theorem FS.old {l : List Ty} {a b : List Nd} {out : Nat → Int} {st : List Int} {i k : Nat} (h : FS l a b out st i k) (hi : i < a.length) (hk : k < (a[i]).ln.length) (hty : sub l (nd b (out i).toNat).ty.toNat (nd a i).ty.toNat = true)
    (hm : 0 ≤ out ((a[i]).ln[k]).2.toNat) (he : out ((a[i]).ln[k]).2.toNat = tgt (nd b (out i).toNat).ln ((a[i]).ln[k]).1) : FS l a b out st i (k + 1) :=
  ⟨h.zero, h.rng, h.only, h.stk, h.cl, fun _ => ⟨(h.me hi).1, (h.me hi).2.snoc hi hk ⟨hm, he.symm⟩⟩, fun _ _ => hty⟩
theorem LinksDone.set {a b : List Nd} {out : Nat → Int} {j k t : Nat} {v : Int} (h : LinksDone a b out j k) (hj : 0 ≤ out j) (ht : out t < 0) : LinksDone a b (setI out t v) j k := fun x hx => by
  have h1 := h x hx
  rw [setI_ne (x := x.2.toNat) (fun e => by rw [e] at h1; omega), setI_ne (x := j) (fun e => by rw [e] at hj; omega)]
  exact h1
theorem FS.new {l : List Ty} {a b : List Nd} {out : Nat → Int} {st : List Int} {i k t : Nat} (h : FS l a b out st i k) (hi : i < a.length) (hk : k < (a[i]).ln.length) (hty : sub l (nd b (out i).toNat).ty.toNat (nd a i).ty.toNat = true)
    (htt : ((a[i]).ln[k]).2 = (t : Int)) (htl : t < a.length) (hn : out t < 0) (h0 : 0 ≤ tgt (nd b (out i).toNat).ln ((a[i]).ln[k]).1) (hb : tgt (nd b (out i).toNat).ln ((a[i]).ln[k]).1 < b.length) : FS l a b (setI out t (tgt (nd b (out i).toNat).ln ((a[i]).ln[k]).1)) (st ++ [(t : Int)]) i (k + 1) := by
  have hme := (h.me hi).1
  have hit : i ≠ t := fun e => by rw [e] at hme; omega
  have h0t : 0 ≠ t := fun e => by have := h.zero; rw [e] at this; omega
  have hxm : (a[i]).ln[k] ∈ (nd a i).ln := by rw [nd_eq hi]; exact List.getElem_mem hk
  refine ⟨by rw [setI_ne h0t]; exact h.zero, fun j => ?_, fun j hj φ hφ => ?_, fun s hs => ?_, fun j hj hm hne => ?_, fun _ => ?_, fun _ _ => by rw [setI_ne hit]; exact hty⟩
  · by_cases e : j = t
    · subst e; rw [setI_self]; omega
    · rw [setI_ne e]; exact h.rng j
  · by_cases e : j = t
    · subst e
      rw [setI_self, h.only i hme φ hφ, Int.toNat_natCast, hφ.ln i hi _ hxm, htt, Int.toNat_natCast]
    · rw [setI_ne e] at hj ⊢; exact h.only j hj φ hφ
  · rcases List.mem_append.1 hs with hs | hs
    · obtain ⟨n, h1, h2, h3⟩ := h.stk s hs
      refine ⟨n, h1, h2, ?_⟩
      rw [setI_ne (fun e => by rw [e] at h3; omega)]; exact h3
    · exact ⟨t, List.mem_singleton.1 hs, htl, by rw [setI_self]; exact h0⟩
  · by_cases e : j = t
    · subst e; exact .inl (by simp)
    · rw [setI_ne e] at hm
      rcases h.cl j hj hm hne with h1 | h1
      · exact .inl (by simp [h1])
      · refine .inr ⟨by rw [setI_ne e]; exact h1.1, h1.2.set hm hn⟩
  · refine ⟨by rw [setI_ne hit]; exact hme, ?_⟩
    refine LinksDone.snoc ((h.me hi).2.set hme hn) hi hk ?_
    rw [htt, Int.toNat_natCast, setI_self, setI_ne hit]
    exact ⟨h0, rfl⟩
theorem FS.done {l : List Ty} {a b : List Nd} {out : Nat → Int} {st : List Int} {i k : Nat} (h : FS l a b out st i k) (hi : i < a.length) (hk : k = (a[i]).ln.length) (hty : sub l (nd b (out i).toNat).ty.toNat (nd a i).ty.toNat = true) : FS l a b out st a.length 0 :=
  ⟨h.zero, h.rng, h.only, h.stk, fun j hj hm _ => by
    by_cases e : j = i
    · subst e
      refine .inr ⟨hty, ?_⟩
      have h1 := (h.me hj).2
      rw [hk, ← nd_eq hj] at h1
      exact h1
    · exact h.cl j hj hm e, fun hi => absurd hi (Nat.lt_irrefl _), fun hi => absurd hi (Nat.lt_irrefl _)⟩
theorem FS.end_ {l : List Ty} {a b : List Nd} {out : Nat → Int} (hr : ∀ i, i < a.length → Rch a i) (h : FS l a b out [] a.length 0) : Hom l a b (fun i => (out i).toNat) ∧ ∀ i, i < a.length → 0 ≤ out i := by
  have hd : ∀ i, i < a.length → 0 ≤ out i → NodeDone l a b out i := fun i hi hm => by
    rcases h.cl i hi hm om with h1 | h1
    · cases h1
    · exact h1
  have hall : ∀ i, Rch a i → i < a.length → 0 ≤ out i := fun i hri => by
    induction hri with
    | zero => intro _; rw [h.zero]; exact Int.le_refl _
    | step hr hi hx ih =>
      rename_i i x
      intro _
      have h1 := (hd i hi (ih hi)).2 x (by rw [List.take_length, nd_eq hi]; exact hx)
      exact h1.1
  have hpos : ∀ i, i < a.length → 0 ≤ out i := fun i hi => hall i (hr i hi) hi
  refine ⟨⟨by show (out 0).toNat = 0; rw [h.zero]; rfl, fun i hi => ?_, fun i hi => (hd i hi (hpos i hi)).1, fun i hi x hx => ?_⟩, hpos⟩
  · have h1 := h.rng i; have h2 := hpos i hi; show (out i).toNat < b.length; omega
  · have h1 := (hd i hi (hpos i hi)).2 x (by rw [List.take_length]; exact hx)
    show tgt (nd b (out i).toNat).ln x.1 = ((out x.2.toNat).toNat : Nat)
    rw [h1.2]; have := h1.1; omega
theorem lack_got {n t : Nat} {out : Nat → Int} {v : Int} (ht : t < n) (h : out t < 0) (hv : 0 ≤ v) : lackN n (got (setI out t v)) < lackN n (got out) :=
  countP_lt (fun x hx => by
    by_cases e : x = t
    · subst e; simp [got]; omega
    · simp only [got, setI_ne e] at hx ⊢; exact hx) (List.range n) t (List.mem_range.2 ht) (by simp [got]; omega) (by simp [got, setI_self, hv])
def setP (p : Nat → Nat → Bool) (i j : Nat) (x y : Nat) : Bool := if x = i ∧ y = j then true else p x y
theorem setP_self (p : Nat → Nat → Bool) (i j : Nat) : setP p i j i j = true := by simp [setP]
theorem setP_mono {p : Nat → Nat → Bool} {i j x y : Nat} (h : p x y = true) : setP p i j x y = true := by
  unfold setP; split
  · rfl
  · exact h
theorem setP_cases {p : Nat → Nat → Bool} {i j x y : Nat} (h : setP p i j x y = true) : (x = i ∧ y = j) ∨ p x y = true := by
  unfold setP at h
  by_cases e : x = i ∧ y = j
  · exact .inl e
  · rw [if_neg e] at h; exact .inr h
def lackP (na nb : Nat) (p : Nat → Nat → Bool) : Nat := (List.range (na * nb)).countP (fun z => !p (z / nb) (z % nb))
theorem lackP_lt {na nb i j : Nat} {p q : Nat → Nat → Bool} (hpq : ∀ x y, p x y = true → q x y = true) (hi : i < na) (hj : j < nb) (h1 : p i j = false) (h2 : q i j = true) : lackP na nb q < lackP na nb p := by
  have hd : (i * nb + j) / nb = i := by
    rw [Nat.mul_comm, Nat.mul_add_div om, Nat.div_eq_of_lt hj, Nat.add_zero]
  have hm : (i * nb + j) % nb = j := by
    rw [Nat.mul_comm, Nat.mul_add_mod, Nat.mod_eq_of_lt hj]
  have hl : i * nb + j < na * nb := by
    have := Nat.mul_le_mul_right nb (show i + 1 ≤ na from hi)
    rw [Nat.add_mul, Nat.one_mul] at this
    omega
  refine countP_lt (fun z hz => ?_) (List.range (na * nb)) (i * nb + j) (List.mem_range.2 hl) ?_ ?_
  · cases hp : p (z / nb) (z % nb) with
    | false => rfl
    | true => rw [hpq _ _ hp] at hz; cases hz
  · show (!p ((i * nb + j) / nb) ((i * nb + j) % nb)) = true
    rw [hd, hm, h1]; rfl
  · show (!q ((i * nb + j) / nb) ((i * nb + j) % nb)) = false
    rw [hd, hm, h2]; rfl
def PairLn (a b : List Nd) (p : Nat → Nat → Bool) (i j k : Nat) : Prop := ∀ x ∈ (nd a i).ln.take k, ∃ t : Nat, tgt (nd b j).ln x.1 = (t : Int) ∧ p x.2.toNat t = true
def PairOk (l : List Ty) (a b : List Nd) (p : Nat → Nat → Bool) (i j : Nat) : Prop := sub l (nd b j).ty.toNat (nd a i).ty.toNat = true ∧ PairLn a b p i j (nd a i).ln.length
structure PB (l : List Ty) (a b : List Nd) (p : Nat → Nat → Bool) : Prop where
  zero : p 0 0 = true
  rng : ∀ i j, p i j = true → i < a.length ∧ j < b.length
  only : ∀ i j, p i j = true → ∀ φ, Hom l a b φ → φ i = j
structure MPS (l : List Ty) (a b : List Nd) (p : Nat → Nat → Bool) (ch : Bool) : Prop where
  pb : PB l a b p
  cl : ch = false → ∀ i j, p i j = true → PairOk l a b p i j
structure MPP (l : List Ty) (a b : List Nd) (p0 p : Nat → Nat → Bool) (ch : Bool) (i j k : Nat) : Prop where
  pb : PB l a b p
  sup : ∀ x y, p0 x y = true → p x y = true
  same : ch = false → ∀ x y, p x y = true → p0 x y = true
  more : ch = true → lackP a.length b.length p < lackP a.length b.length p0
  done : ∀ x y, p0 x y = true → x < i ∨ x = i ∧ y < j → PairOk l a b p x y
  me : 0 < k → i < a.length ∧ j < b.length ∧ p i j = true ∧ sub l (nd b j).ty.toNat (nd a i).ty.toNat = true ∧ PairLn a b p i j k
theorem MPS.start {l : List Ty} {a b : List Nd} (ha : 0 < a.length) (hb : 0 < b.length) : MPS l a b (setP (fun _ _ => false) 0 0) true :=
  ⟨⟨setP_self _ _ _, (fun i j h => by
    rcases setP_cases h with ⟨rfl, rfl⟩ | h
    · exact ⟨ha, hb⟩
    · cases h), (fun i j h φ hφ => by
    rcases setP_cases h with ⟨rfl, rfl⟩ | h
    · exact hφ.zero
    · cases h)⟩, fun h => nomatch h⟩
theorem MPP.start {l : List Ty} {a b : List Nd} {p : Nat → Nat → Bool} {ch : Bool} (h : MPS l a b p ch) : MPP l a b p p false 0 0 0 :=
  ⟨h.pb, fun _ _ h => h, fun _ _ _ h => h, (fun h => nomatch h), (fun x y _ hx => by omega), fun hk => absurd hk (Nat.lt_irrefl _)⟩
theorem MPP.row {l : List Ty} {a b : List Nd} {p0 p : Nat → Nat → Bool} {ch : Bool} {i : Nat} (h : MPP l a b p0 p ch i b.length 0) : MPP l a b p0 p ch (i + 1) 0 0 :=
  ⟨h.pb, h.sup, h.same, h.more, fun x y hp hx => h.done x y hp (by
    have := (h.pb.rng x y (h.sup x y hp)).2
    omega), fun hk => absurd hk (Nat.lt_irrefl _)⟩
theorem MPP.skip {l : List Ty} {a b : List Nd} {p0 p : Nat → Nat → Bool} {ch : Bool} {i j : Nat} (h : MPP l a b p0 p ch i j 0) (hp : p i j = false) : MPP l a b p0 p ch i (j + 1) 0 :=
  ⟨h.pb, h.sup, h.same, h.more, fun x y h0 hx => by
    by_cases e : x = i ∧ y = j
    · obtain ⟨rfl, rfl⟩ := e
      rw [h.sup _ _ h0] at hp; cases hp
    · exact h.done x y h0 om, fun hk => absurd hk (Nat.lt_irrefl _)⟩
theorem MPP.noTy {l : List Ty} {a b : List Nd} {p : Nat → Nat → Bool} {i j : Nat} (h : PB l a b p) (hp : p i j = true) (ht : ¬ sub l (nd b j).ty.toNat (nd a i).ty.toNat = true) : ¬ Maps l a b := by
  rintro ⟨φ, hφ⟩
  have e := h.only i j hp φ hφ
  subst e
  exact ht (hφ.ty i (h.rng _ _ hp).1)
theorem MPP.noLn {l : List Ty} {a b : List Nd} {p : Nat → Nat → Bool} {i j : Nat} (h : PB l a b p) (hp : p i j = true) {x : Int × Int} (hx : x ∈ (nd a i).ln) (ht : tgt (nd b j).ln x.1 < 0) : ¬ Maps l a b := by
  rintro ⟨φ, hφ⟩
  have e := h.only i j hp φ hφ
  subst e
  rw [hφ.ln i (h.rng _ _ hp).1 x hx] at ht
  omega
theorem PairLn.snoc {a b : List Nd} {p : Nat → Nat → Bool} {i j k : Nat} (h : PairLn a b p i j k) (hi : i < a.length) (hk : k < (a[i]).ln.length) (hx : ∃ t : Nat, tgt (nd b j).ln ((a[i]).ln[k]).1 = (t : Int) ∧ p ((a[i]).ln[k]).2.toNat t = true) : PairLn a b p i j (k + 1) := fun x hxm => by
  rw [take_nd hi hk] at hxm
  rcases List.mem_append.1 hxm with h1 | h1
  · exact h x h1
  · rw [List.mem_singleton.1 h1]; exact hx
theorem PairLn.mono {a b : List Nd} {p q : Nat → Nat → Bool} {i j k : Nat} (h : PairLn a b p i j k) (hpq : ∀ x y, p x y = true → q x y = true) : PairLn a b q i j k := fun x hx => by
  obtain ⟨t, h1, h2⟩ := h x hx
  exact ⟨t, h1, hpq _ _ h2⟩
structure MPK (l : List Ty) (a b : List Nd) (p0 p : Nat → Nat → Bool) (ch : Bool) (i j k : Nat) : Prop where
  pp : MPP l a b p0 p ch i j 0
  at_ : p i j = true
  ty : sub l (nd b j).ty.toNat (nd a i).ty.toNat = true
  ln : PairLn a b p i j k
theorem MPK.start {l : List Ty} {a b : List Nd} {p0 p : Nat → Nat → Bool} {ch : Bool} {i j : Nat} (h : MPP l a b p0 p ch i j 0) (hp : p i j = true) (ht : sub l (nd b j).ty.toNat (nd a i).ty.toNat = true) : MPK l a b p0 p ch i j 0 := ⟨h, hp, ht, fun x hx => by simp at hx⟩
theorem MPK.old {l : List Ty} {a b : List Nd} {p0 p : Nat → Nat → Bool} {ch : Bool} {i j k s t : Nat} (h : MPK l a b p0 p ch i j k) (hi : i < a.length) (hk : k < (a[i]).ln.length) (hs : ((a[i]).ln[k]).2 = (s : Int)) (ht : tgt (nd b j).ln ((a[i]).ln[k]).1 = (t : Int)) (hp : p s t = true) : MPK l a b p0 p ch i j (k + 1) :=
  ⟨h.pp, h.at_, h.ty, h.ln.snoc hi hk ⟨t, ht, by rw [hs, Int.toNat_natCast]; exact hp⟩⟩
theorem MPK.new {l : List Ty} {a b : List Nd} {p0 p : Nat → Nat → Bool} {ch : Bool} {i j k s t : Nat} (h : MPK l a b p0 p ch i j k) (hi : i < a.length) (hk : k < (a[i]).ln.length) (hs : ((a[i]).ln[k]).2 = (s : Int)) (hsl : s < a.length) (ht : tgt (nd b j).ln ((a[i]).ln[k]).1 = (t : Int)) (htl : t < b.length) (hp : p s t = false) : MPK l a b p0 (setP p s t) true i j (k + 1) := by
  have hxm : (a[i]).ln[k] ∈ (nd a i).ln := by rw [nd_eq hi]; exact List.getElem_mem hk
  have hm : ∀ x y, p x y = true → setP p s t x y = true := fun x y h => setP_mono h
  refine ⟨⟨⟨hm _ _ h.pp.pb.zero, fun x y hx => ?_, fun x y hx φ hφ => ?_⟩, fun x y hx => hm _ _ (h.pp.sup x y hx), (fun h => nomatch h), fun _ => ?_, fun x y h0 hx => ?_, fun hk => absurd hk (Nat.lt_irrefl _)⟩, hm _ _ h.at_, h.ty, (h.ln.mono hm).snoc hi hk ⟨t, ht, by rw [hs, Int.toNat_natCast]; exact setP_self _ _ _⟩⟩
  · rcases setP_cases hx with ⟨rfl, rfl⟩ | hx
    · exact ⟨hsl, htl⟩
    · exact h.pp.pb.rng _ _ hx
  · rcases setP_cases hx with ⟨rfl, rfl⟩ | hx
    · have e := h.pp.pb.only i j h.at_ φ hφ
      have h1 := hφ.ln i hi _ hxm
      rw [e, ht, hs, Int.toNat_natCast] at h1
      exact (Int.ofNat.inj h1).symm
    · exact h.pp.pb.only x y hx φ hφ
  · have h1 := lackP_lt (na := a.length) (nb := b.length) hm hsl htl hp (setP_self p s t)
    cases ch with
    | true => exact Nat.lt_trans h1 (h.pp.more rfl)
    | false =>
      have e : lackP a.length b.length p0 = lackP a.length b.length p := by
        unfold lackP
        refine List.countP_congr (fun z _ => ?_)
        cases hz : p0 (z / b.length) (z % b.length) with
        | true => rw [h.pp.sup _ _ hz]
        | false =>
          cases hz2 : p (z / b.length) (z % b.length) with
          | false => rfl
          | true => rw [h.pp.same rfl _ _ hz2] at hz; cases hz
      rw [e]; exact h1
  · obtain ⟨h1, h2⟩ := h.pp.done x y h0 hx
    exact ⟨h1, h2.mono hm⟩
theorem MPK.done {l : List Ty} {a b : List Nd} {p0 p : Nat → Nat → Bool} {ch : Bool} {i j k : Nat} (h : MPK l a b p0 p ch i j k) (hi : i < a.length) (hk : k = (a[i]).ln.length) : MPP l a b p0 p ch i (j + 1) 0 :=
  ⟨h.pp.pb, h.pp.sup, h.pp.same, h.pp.more, fun x y h0 hx => by
    by_cases e : x = i ∧ y = j
    · obtain ⟨rfl, rfl⟩ := e
      have h1 := h.ln
      rw [hk, ← nd_eq hi] at h1
      exact ⟨h.ty, h1⟩
    · exact h.pp.done x y h0 om, fun hk => absurd hk (Nat.lt_irrefl _)⟩
theorem MPP.end_ {l : List Ty} {a b : List Nd} {p0 p : Nat → Nat → Bool} {ch : Bool} (h : MPP l a b p0 p ch a.length 0 0) : MPS l a b p ch :=
  ⟨h.pb, fun hc i j hp => h.done i j (h.same hc i j hp) (.inl (h.pb.rng i j hp).1)⟩
theorem MPS.tot {l : List Ty} {a b : List Nd} {p : Nat → Nat → Bool} (hr : ∀ i, i < a.length → Rch a i) (h : MPS l a b p false) {i : Nat} (hi : i < a.length) : ∃ j, j < b.length ∧ p i j = true := by
  have hall : ∀ i, Rch a i → ∃ j, p i j = true := fun i hri => by
    induction hri with
    | zero => exact ⟨0, h.pb.zero⟩
    | step hr hi hx ih =>
      rename_i i x
      obtain ⟨j, hj⟩ := ih
      obtain ⟨t, _, h2⟩ := (h.cl rfl i j hj).2 x (by rw [List.take_length, nd_eq hi]; exact hx)
      exact ⟨t, h2⟩
  obtain ⟨j, hj⟩ := hall i (hr i hi)
  exact ⟨j, (h.pb.rng i j hj).2, hj⟩
theorem MPS.two {l : List Ty} {a b : List Nd} {p : Nat → Nat → Bool} {ch : Bool} {i j k : Nat} (h : MPS l a b p ch) (h1 : p i j = true) (h2 : p i k = true) (hne : j ≠ k) : ¬ Maps l a b := by
  rintro ⟨φ, hφ⟩
  exact hne ((h.pb.only i j h1 φ hφ).symm.trans (h.pb.only i k h2 φ hφ))
theorem MPS.hom {l : List Ty} {a b : List Nd} {p : Nat → Nat → Bool} (h : MPS l a b p false) {φ : Nat → Nat} (ha : 0 < a.length) (hφ : ∀ i, i < a.length → p i (φ i) = true ∧ ∀ j, p i j = true → j = φ i) : Hom l a b φ := by
  refine ⟨((hφ 0 ha).2 0 h.pb.zero).symm, fun i hi => (h.pb.rng _ _ (hφ i hi).1).2, fun i hi => (h.cl rfl _ _ (hφ i hi).1).1, fun i hi x hx => ?_⟩
  obtain ⟨t, h1, h2⟩ := (h.cl rfl _ _ (hφ i hi).1).2 x (by rw [List.take_length]; exact hx)
  rw [h1, (hφ _ (h.pb.rng _ _ h2).1).2 t h2]
end Go.Proofs.YtegngekpmpdngaaDoor
