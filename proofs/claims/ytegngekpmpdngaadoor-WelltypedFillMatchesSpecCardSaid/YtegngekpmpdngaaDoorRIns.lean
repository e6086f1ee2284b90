/- The reference's way to unify: numbers of classes until nothing changes, then one node for each class. No program in sight. Suffixes of rows of links, and slices of such: what the walks of a pool of nodes read. No program in sight. What these functions of the program compute, at every world: slices.Insert[[]glosswright/api.Link,glosswright/api.Link]. -/
import Derived.Test.YtegngekpmpdngaaDoorUni
import Derived.Test.YtegngekpmpdngaaDoorGro
import Derived.Test.YtegngekpmpdngaaDoorU
import Derived.Test.YtegngekpmpdngaaDoorSBase
namespace Go.Proofs.YtegngekpmpdngaaDoor
open Go.RowKit
section join
variable {l : List Ty} {U : List Nd} {J : List (Nat × Nat)} {rep r0 : Nat → Nat} {k i j : Nat} {ch : Bool}
structure CS (l : List Ty) (U : List Nd) (J : List (Nat × Nat)) (k : Nat) (rep : Nat → Nat) : Prop where
  lt : ∀ i, i < U.length → rep i < U.length
  id : ∀ i, i < U.length → rep (rep i) = rep i
  only : ∀ c θ, Adm l U c θ → (∀ p ∈ J, θ p.1 = θ p.2) → ∀ i, i < U.length → θ i = θ (rep i)
  jc : ∀ p ∈ J.take k, rep p.1 = rep p.2
theorem CS.start : CS l U J 0 (fun i => i) := ⟨fun _ h => h, fun _ _ => rfl, fun _ _ _ _ _ _ => rfl, fun p hp => by simp at hp⟩
def LC (U : List Nd) (rep : Nat → Nat) (a b : Nat) : Prop := ∀ x ∈ (nd U a).ln, ∀ y ∈ (nd U b).ln, x.1 = y.1 → rep x.2.toNat = rep y.2.toNat
structure JP (l : List Ty) (U : List Nd) (J : List (Nat × Nat)) (k : Nat) (r0 rep : Nat → Nat) (ch : Bool) (i j : Nat) : Prop where
  cs : CS l U J k rep
  le : roots U.length rep ≤ roots U.length r0
  less : ch = true → roots U.length rep < roots U.length r0
  done : ch = false → ∀ a b, a < U.length → b < a → (a < i ∨ a = i ∧ b < j) → rep a = rep b → LC U rep a b
theorem JP.start (h : CS l U J k rep) : JP l U J k rep rep false 0 0 := ⟨h, Nat.le_refl _, (fun h => nomatch h), fun _ a b _ _ h => by omega⟩
theorem JP.row (h : JP l U J k r0 rep ch i i) : JP l U J k r0 rep ch (i + 1) 0 := ⟨h.cs, h.le, h.less, fun hc a b ha hb hx => h.done hc a b ha hb om⟩
theorem JP.skip (h : JP l U J k r0 rep ch i j) (hn : ¬ rep i = rep j) : JP l U J k r0 rep ch i (j + 1) := ⟨h.cs, h.le, h.less, fun hc a b ha hb hx he => by
  by_cases e : a = i ∧ b = j
  · obtain ⟨rfl, rfl⟩ := e; exact absurd he hn
  · exact h.done hc a b ha hb om he⟩
def LP (U : List Nd) (rep : Nat → Nat) (i j p q : Nat) : Prop := ∀ a b (ha : a < (nd U i).ln.length) (hb : b < (nd U j).ln.length), (a < p ∨ a = p ∧ b < q) → ((nd U i).ln[a]).1 = ((nd U j).ln[b]).1 → rep ((nd U i).ln[a]).2.toNat = rep ((nd U j).ln[b]).2.toNat
structure JK (l : List Ty) (U : List Nd) (J : List (Nat × Nat)) (k : Nat) (r0 rep : Nat → Nat) (ch : Bool) (i j p q : Nat) : Prop where
  pp : JP l U J k r0 rep ch i j
  eq : rep i = rep j
  lp : ch = false → LP U rep i j p q
variable {p q : Nat}
theorem JK.start (h : JP l U J k r0 rep ch i j) (he : rep i = rep j) : JK l U J k r0 rep ch i j 0 0 := ⟨h, he, fun _ a b _ _ hx => by omega⟩
theorem JK.row (h : JK l U J k r0 rep ch i j p (nd U j).ln.length) : JK l U J k r0 rep ch i j (p + 1) 0 := ⟨h.pp, h.eq, fun hc a b ha hb hx => h.lp hc a b ha hb om⟩
theorem JK.skip (h : JK l U J k r0 rep ch i j p q) (hp : p < (nd U i).ln.length) (hq : q < (nd U j).ln.length) (hn : ((nd U i).ln[p]).1 = ((nd U j).ln[q]).1 → rep ((nd U i).ln[p]).2.toNat = rep ((nd U j).ln[q]).2.toNat) : JK l U J k r0 rep ch i j p (q + 1) := ⟨h.pp, h.eq, fun hc a b ha hb hx => by
  by_cases e : a = p ∧ b = q
  · obtain ⟨rfl, rfl⟩ := e; exact hn
  · exact h.lp hc a b ha hb om⟩
theorem JK.done (h : JK l U J k r0 rep ch i j (nd U i).ln.length 0) : JP l U J k r0 rep ch i (j + 1) := ⟨h.pp.cs, h.pp.le, h.pp.less, fun hc a b ha hb hx he => by
  by_cases e : a = i ∧ b = j
  · obtain ⟨rfl, rfl⟩ := e
    intro x hxm y hym hxy
    obtain ⟨u, hu, rfl⟩ := List.getElem_of_mem hxm
    obtain ⟨v, hv, rfl⟩ := List.getElem_of_mem hym
    exact h.lp hc u v hu hv (.inl hu) hxy
  · exact h.pp.done hc a b ha hb om he⟩
structure JF (l : List Ty) (U : List Nd) (J : List (Nat × Nat)) (rep : Nat → Nat) : Prop where
  cs : CS l U J J.length rep
  clo : ∀ a b, a < U.length → b < U.length → rep a = rep b → LC U rep a b
theorem JP.end_ (hs : ∀ i, i < U.length → Srt (nd U i).ln) (h : JP l U J J.length r0 rep false U.length 0) : JF l U J rep := by
  refine ⟨h.cs, fun a b ha hb he => ?_⟩
  rcases Nat.lt_trichotomy a b with hab | hab | hab
  · have := h.done rfl b a hb hab (.inl hb) he.symm
    exact fun x hx y hy e => (this y hy x hx e.symm).symm
  · subst hab
    intro x hx y hy e
    have e1 := tgt_in (hs a ha) hx
    have e2 := tgt_in (hs a ha) hy
    rw [e, e2] at e1
    rw [← e1]
  · exact h.done rfl a b ha hab (.inl ha) he
def rpL (rep : Nat → Nat) (xs : List (Int × Int)) : List (Int × Int) := xs.map (fun x => (x.1, ((rep x.2.toNat : Nat) : Int)))
def insL (L : List (Int × Int)) (k : Nat) (x : Int × Int) : List (Int × Int) := L.take k ++ x :: L.drop k
theorem insL_mem {L : List (Int × Int)} {k : Nat} {x z : Int × Int} : z ∈ insL L k x ↔ z = x ∨ z ∈ L := by
  unfold insL
  rw [List.mem_append, List.mem_cons]
  constructor
  · rintro (h | h | h)
    · exact .inr (List.mem_of_mem_take h)
    · exact .inl h
    · exact .inr (List.mem_of_mem_drop h)
  · rintro (h | h)
    · exact .inr (.inl h)
    · rw [← List.take_append_drop k L] at h
      rcases List.mem_append.1 h with h | h
      · exact .inl h
      · exact .inr (.inr h)
theorem insL_len (L : List (Int × Int)) (k : Nat) (x : Int × Int) : (insL L k x).length = L.length + 1 := by
  unfold insL
  have := congrArg List.length (List.take_append_drop k L)
  rw [List.length_append] at this
  rw [List.length_append, List.length_cons]; omega
theorem insL_srt {L : List (Int × Int)} {k : Nat} {x : Int × Int} (h : Srt L) (hk : k ≤ L.length) (h1 : ∀ i (hi : i < L.length), i < k → (L[i]).1 < x.1) (h2 : ∀ hk : k < L.length, ¬ (L[k]).1 < x.1) (hn : ∀ y ∈ L, y.1 ≠ x.1) : Srt (insL L k x) := by
  unfold insL
  have hd : Srt (L.take k ++ L.drop k) := by rw [List.take_append_drop]; exact h
  obtain ⟨a1, a2, a3⟩ := List.pairwise_append.1 hd
  have hlo : ∀ y ∈ L.take k, y.1 < x.1 := fun y hy => by
    obtain ⟨u, hu, rfl⟩ := List.getElem_of_mem hy
    rw [List.length_take] at hu
    rw [List.getElem_take]
    exact h1 u om om
  have hhi : ∀ y ∈ L.drop k, x.1 < y.1 := fun y hy => by
    by_cases hkl : k < L.length
    · have e : L.drop k = L[k] :: L.drop (k + 1) := List.drop_eq_getElem_cons hkl
      have h3 := h2 hkl
      have h4 := hn _ (List.getElem_mem hkl)
      rw [e] at hy a2
      rcases List.mem_cons.1 hy with hy | hy
      · rw [hy]; omega
      · have := (List.pairwise_cons.1 a2).1 y hy
        omega
    · rw [List.drop_eq_nil_of_le om] at hy; cases hy
  refine List.pairwise_append.2 ⟨a1, List.pairwise_cons.2 ⟨hhi, a2⟩, fun y hy z hz => ?_⟩
  rcases List.mem_cons.1 hz with hz | hz
  · rw [hz]; exact hlo y hy
  · exact a3 y hy z hz
theorem rpL_no {L : List (Int × Int)} {f : Int} (h : tgt (rpL rep L) f < 0) : ∀ y ∈ L, y.1 ≠ f := fun y hy e => by
  have hm : (f, ((rep y.2.toNat : Nat) : Int)) ∈ rpL rep L := List.mem_map.2 ⟨y, hy, by rw [← e]⟩
  have key : ∀ {xs : List (Int × Int)} {t : Int}, (∀ z ∈ xs, 0 ≤ z.2) → (f, t) ∈ xs → 0 ≤ tgt xs f := fun {xs t} hz hm => by
    unfold tgt
    split
    · rename_i y hy
      exact hz y (List.mem_of_find?_eq_some hy)
    · rename_i hn
      have := List.find?_eq_none.1 hn _ hm
      simp at this
  have := key (fun z hz => by
    obtain ⟨y, _, rfl⟩ := List.mem_map.1 hz
    exact Int.natCast_nonneg _) hm
  omega
theorem rpL_yes {L : List (Int × Int)} {f : Int} (h : 0 ≤ tgt (rpL rep L) f) : ∃ t, (f, t) ∈ L := by
  obtain ⟨y, hy, e⟩ := List.mem_map.1 (mem_tgt h)
  have e1 := congrArg Prod.fst e
  simp only at e1
  exact ⟨y.2, by rw [← e1]; exact hy⟩
structure MJ (l : List Ty) (U : List Nd) (J : List (Nat × Nat)) (rep : Nat → Nat) (seen : Nat → Bool) (T : Nat → Int) (L : Nat → List (Int × Int)) (it il q : Nat) : Prop where
  seen : ∀ c, seen c = true ↔ ∃ u, u < it ∧ rep u = c
  ty : ∀ c, c < U.length → 0 ≤ T c ∧ T c < l.length
  cov : ∀ u, u < it → sub l (T (rep u)).toNat (nd U u).ty.toNat = true
  low : ∀ c θ, (∀ i, i < c.length → 0 ≤ (nd c i).ty ∧ (nd c i).ty < l.length) → Adm l U c θ → (∀ p ∈ J, θ p.1 = θ p.2) → ∀ u, u < it → sub l (nd c (θ (rep u))).ty.toNat (T (rep u)).toNat = true
  srt : ∀ c, Srt (L c)
  val : ∀ c, ∀ x ∈ L c, ∃ u, u < U.length ∧ rep u = c ∧ x ∈ (nd U u).ln
  lc1 : ∀ u, u < il → ∀ x ∈ (nd U u).ln, ∃ t, (x.1, t) ∈ L (rep u)
  lc2 : ∀ x ∈ (nd U il).ln.take q, ∃ t, (x.1, t) ∈ L (rep il)
variable {seen : Nat → Bool} {T : Nat → Int} {L : Nat → List (Int × Int)}
theorem MJ.start (hp : 0 < l.length) : MJ l U J rep (fun _ => false) (fun _ => 0) (fun _ => []) 0 0 0 :=
  ⟨fun c => ⟨(fun h => nomatch h), fun ⟨u, hu, _⟩ => absurd hu (Nat.not_lt_zero _)⟩, fun c _ => ⟨Int.le_refl _, by omega⟩, fun u hu => absurd hu (Nat.not_lt_zero _), fun _ _ _ _ _ u hu => absurd hu (Nat.not_lt_zero _), fun _ => List.Pairwise.nil, (fun c x hx => by cases hx), fun u hu => absurd hu (Nat.not_lt_zero _), fun x hx => by simp at hx⟩
theorem MJ.first (hv : VT l) (hc : CS l U J k rep) (h : MJ l U J rep seen T L i i 0) (hi : i < U.length) (hty : 0 ≤ (nd U i).ty ∧ (nd U i).ty < l.length) (hn : seen (rep i) = false) : MJ l U J rep (setB seen (rep i)) (fun x => if x = rep i then (nd U i).ty else T x) L (i + 1) i 0 := by
  have hns : ∀ u, u < i → rep u ≠ rep i := fun u hu e => by
    have := (h.seen (rep i)).2 ⟨u, hu, e⟩
    rw [hn] at this; cases this
  refine ⟨fun c => ?_, fun c hc => ?_, fun u hu => ?_, fun c θ hct hθ hj u hu => ?_, h.srt, h.val, h.lc1, h.lc2⟩
  · unfold setB
    by_cases e : c = rep i
    · rw [if_pos e]; exact ⟨fun _ => ⟨i, Nat.lt_succ_self _, e.symm⟩, fun _ => rfl⟩
    · rw [if_neg e, h.seen c]
      exact ⟨fun ⟨u, hu, hr⟩ => ⟨u, by omega, hr⟩, fun ⟨u, hu, hr⟩ => ⟨u, by
        have : u ≠ i := fun e2 => e (by rw [← e2]; exact hr.symm)
        omega, hr⟩⟩
  · (try dsimp only)
    split
    · exact hty
    · exact h.ty c hc
  · (try dsimp only)
    by_cases e : u = i
    · subst e; rw [if_pos rfl]; exact sub_refl hv _
    · rw [if_neg (hns u om)]; exact h.cov u om
  · (try dsimp only)
    by_cases e : u = i
    · subst e
      rw [if_pos rfl, ← hc.only c θ hθ hj u hi]
      exact hθ.ty u hi
    · rw [if_neg (hns u om)]; exact h.low c θ hct hθ hj u om
theorem MJ.meet (hs : Sound l) (hc : CS l U J k rep) {m : Nat} (h : MJ l U J rep seen T L i i 0) (hi : i < U.length) (hn : seen (rep i) = true) (ht : (Go.Proofs.YtegngekpmpdngaaDoor.meet l (T (rep i)).toNat (nd U i).ty.toNat).2.1 = true) (hm : (Go.Proofs.YtegngekpmpdngaaDoor.meet l (T (rep i)).toNat (nd U i).ty.toNat).1 = m) : MJ l U J rep seen (fun x => if x = rep i then (m : Int) else T x) L (i + 1) i 0 := by
  obtain ⟨m1, m2, m3⟩ := meet_spec hs.le (a := (T (rep i)).toNat) (b := (nd U i).ty.toNat) ht
  rw [hm] at m1 m2 m3
  have m2' : sub l m (T (rep i)).toNat = true ∧ sub l m (nd U i).ty.toNat = true := by simpa [comm] using m2
  obtain ⟨v, hvi, hvr⟩ := (h.seen (rep i)).1 hn
  refine ⟨fun c => ?_, fun c hc => ?_, fun u hu => ?_, fun c θ hct hθ hj u hu => ?_, h.srt, h.val, h.lc1, h.lc2⟩
  · rw [h.seen c]
    exact ⟨fun ⟨u, hu, hr⟩ => ⟨u, by omega, hr⟩, fun ⟨u, hu, hr⟩ => by
      by_cases e : u = i
      · exact ⟨v, hvi, by rw [hvr, ← e]; exact hr⟩
      · exact ⟨u, by omega, hr⟩⟩
  · (try dsimp only)
    split
    · omega
    · exact h.ty c hc
  · (try dsimp only)
    by_cases e : rep u = rep i
    · rw [if_pos e, Int.toNat_natCast]
      by_cases e2 : u = i
      · rw [e2]; exact m2'.2
      · have := h.cov u om
        rw [e] at this
        exact sub_tr hs.vt m2'.1 this
    · rw [if_neg e]
      exact h.cov u (by
        have : u ≠ i := fun e2 => e (by rw [e2])
        omega)
  · (try dsimp only)
    by_cases e : rep u = rep i
    · rw [if_pos e, e, Int.toNat_natCast]
      have s1 := h.low c θ hct hθ hj v hvi
      rw [hvr] at s1
      have s2 := hθ.ty i hi
      rw [hc.only c θ hθ hj i hi] at s2
      have hl := hθ.lt _ (hc.lt i hi)
      have := hct _ hl
      exact m3 _ om (by simp [comm, s1, s2])
    · rw [if_neg e]
      exact h.low c θ hct hθ hj u (by
        have : u ≠ i := fun e2 => e (by rw [e2])
        omega)
theorem take_ln {x : Nd} {q : Nat} (hq : q < x.ln.length) : x.ln.take (q + 1) = x.ln.take q ++ [x.ln[q]] := List.take_succ_eq_append_getElem hq
theorem MJ.old {it : Nat} (h : MJ l U J rep seen T L it i q) (hq : q < (nd U i).ln.length) (ht : 0 ≤ tgt (rpL rep (L (rep i))) ((nd U i).ln[q]).1) : MJ l U J rep seen T L it i (q + 1) :=
  ⟨h.seen, h.ty, h.cov, h.low, h.srt, h.val, h.lc1, fun x hx => by
    rw [take_ln hq] at hx
    rcases List.mem_append.1 hx with hx | hx
    · exact h.lc2 x hx
    · rw [List.mem_singleton.1 hx]; exact rpL_yes ht⟩
theorem MJ.new {it k : Nat} (h : MJ l U J rep seen T L it i q) (hi : i < U.length) (hq : q < (nd U i).ln.length) (ht : tgt (rpL rep (L (rep i))) ((nd U i).ln[q]).1 < 0) (hk : k ≤ (L (rep i)).length) (h1 : ∀ j (hj : j < (L (rep i)).length), j < k → ((L (rep i))[j]).1 < ((nd U i).ln[q]).1) (h2 : ∀ hk : k < (L (rep i)).length, ¬ ((L (rep i))[k]).1 < ((nd U i).ln[q]).1) :
    MJ l U J rep seen T (fun x => if x = rep i then insL (L (rep i)) k ((nd U i).ln[q]) else L x) it i (q + 1) := by
  have hmem : ∀ c z, z ∈ L c → z ∈ (if c = rep i then insL (L (rep i)) k ((nd U i).ln[q]) else L c) := fun c z hz => by
    split
    · rename_i e; rw [e] at hz; exact insL_mem.2 (.inr hz)
    · exact hz
  refine ⟨h.seen, h.ty, h.cov, h.low, fun c => ?_, fun c x hx => ?_, fun u hu x hx => ?_, fun x hx => ?_⟩
  · (try dsimp only)
    split
    · exact insL_srt (h.srt _) hk h1 h2 (rpL_no ht)
    · exact h.srt c
  · (try dsimp only at hx)
    split at hx
    · rename_i e
      rcases insL_mem.1 hx with hx | hx
      · exact ⟨i, hi, e.symm, by rw [hx]; exact List.getElem_mem hq⟩
      · rw [e]; exact h.val _ x hx
    · exact h.val c x hx
  · obtain ⟨t, h3⟩ := h.lc1 u hu x hx
    exact ⟨t, hmem _ _ h3⟩
  · rw [take_ln hq] at hx
    rcases List.mem_append.1 hx with hx | hx
    · obtain ⟨t, h3⟩ := h.lc2 x hx
      exact ⟨t, hmem _ _ h3⟩
    · rw [List.mem_singleton.1 hx]
      exact ⟨((nd U i).ln[q]).2, by simp only [if_true]; exact insL_mem.2 (.inl rfl)⟩
theorem MJ.next (h : MJ l U J rep seen T L (i + 1) i (nd U i).ln.length) : MJ l U J rep seen T L (i + 1) (i + 1) 0 :=
  ⟨h.seen, h.ty, h.cov, h.low, h.srt, h.val, fun u hu x hx => by
    by_cases e : u = i
    · subst e; exact h.lc2 x (by rw [List.take_length]; exact hx)
    · exact h.lc1 u om x hx, fun x hx => by simp at hx⟩
theorem MJ.us (hF : JF l U J rep) (h : MJ l U J rep seen T L U.length U.length 0) (hur : ∀ i, i < U.length → ∀ x ∈ (nd U i).ln, 0 ≤ x.2 ∧ x.2.toNat < U.length) (hJ : ∀ p ∈ J, p.1 < U.length ∧ p.2 < U.length) : US l U J rep rep (fun i => if rep i = i then 0 else 1) T L [] := by
  have hc := hF.cs
  refine ⟨⟨fun i hi hne => ?_, hc.lt, hc.lt, fun i hi => hc.id i hi, fun i hi => hc.id i hi, fun i hi h => h⟩, h.ty, fun i _ => h.srt i, (fun w hw => by cases hw), fun c θ hct hθ hj => ⟨⟨hc.only c θ hθ hj, fun w hw => by cases hw⟩, fun i hi hr => ?_⟩, h.cov, fun i hi x hx => ?_, fun p hp κ hκ => ?_, fun i _ _ x hx => h.val i x hx, hur⟩
  · rw [if_neg hne, if_pos (hc.id i hi)]; exact Nat.zero_lt_one
  · have := h.low c θ hct hθ hj i hi
    rwa [hr] at this
  · obtain ⟨t, ht⟩ := h.lc1 i hi x hx
    refine ⟨t, ht, fun κ hκ => ?_⟩
    obtain ⟨u, hu, hur2, hum⟩ := h.val _ _ ht
    have e := hF.clo i u hi hu hur2.symm x hx _ hum rfl
    rw [hκ.1 _ (hur i hi x hx).2, hκ.1 _ (hur u hu _ hum).2, e]
  · have e := hc.jc p (by rw [List.take_length]; exact hp)
    have := hJ p hp
    rw [hκ.1 _ this.1, hκ.1 _ this.2, e]
end join
end Go.Proofs.YtegngekpmpdngaaDoor
namespace Go.Proofs.YtegngekpmpdngaaDoor
open Go.RowKit
theorem lnV_len (xs : List (Int × Int)) : (lnV xs).length = xs.length * 2 := by
  induction xs with
  | nil => rfl
  | cons x xs ih => rw [show lnV (x :: xs) = [Value.int .i64 x.1, Value.int .i64 x.2] ++ lnV xs from rfl, List.length_append, ih]; simp; omega
theorem lnV_one (xs : List (Int × Int)) : (lnV xs).all (·.oneCell') = true := by
  induction xs with
  | nil => rfl
  | cons x xs ih => rw [show lnV (x :: xs) = [Value.int .i64 x.1, Value.int .i64 x.2] ++ lnV xs from rfl, List.all_append, ih]; rfl
theorem lnV_app (xs ys : List (Int × Int)) : lnV (xs ++ ys) = lnV xs ++ lnV ys := by simp [lnV]
theorem LinksIn.news {w : World} {A : Option Addr} {xs : List (Int × Int)} (h : LinksIn w A xs) : 0 < xs.length → ∃ b o', A = some ⟨b, o', none⟩ ∧ ∀ j u, (lnV xs)[j]? = some u → w.cell? ⟨b, o' + j, none⟩ = some u := fun hm => by
  obtain ⟨b, o, rfl, _, hc⟩ := h.2 (fun e => by rw [e] at hm; simp at hm)
  refine ⟨b, o, rfl, fun j u hu => ?_⟩
  have hj : j < xs.length * 2 := by
    have := (List.getElem?_eq_some_iff.1 hu).1
    rwa [lnV_len] at this
  have hk : j / 2 < xs.length := by omega
  have h2 := lnV_get xs (j / 2) hk
  have h3 := hc (j / 2) hk
  rcases Nat.mod_two_eq_zero_or_one j with e | e
  · have e2 : j = j / 2 * 2 := by omega
    rw [e2] at hu
    rw [h2.1] at hu
    cases hu
    have := h3 0 (.int .i64 (xs[j / 2]).1) rfl
    rw [show o + j = o + j / 2 * 2 + 0 by omega]; exact this
  · have e2 : j = j / 2 * 2 + 1 := by omega
    rw [e2] at hu
    rw [h2.2] at hu
    cases hu
    have := h3 1 (.int .i64 (xs[j / 2]).2) rfl
    rw [show o + j = o + j / 2 * 2 + 1 by omega]; exact this
def Suf (w : World) (lo bs : Nat) (v : Value) (xs : List (Int × Int)) : Prop := ∃ (A0 : Option Addr) (c0 k : Nat) (ys : List (Int × Int)) (A : Option Addr), RowO w lo bs (.slice A0 ys.length c0) ys ∧ k ≤ ys.length ∧ xs = ys.drop k ∧ v = .slice A xs.length (c0 - k) ∧ (xs ≠ [] → ∃ g, A0 = some ⟨g, 0, none⟩ ∧ A = some ⟨g, k * 2, none⟩)
theorem Suf.tr {w w' : World} {lo bs : Nat} {v : Value} {xs : List (Int × Int)} {X : List Nat} (h : Suf w lo bs v xs) (hs : Same X w w') (hx : ∀ g ∈ X, bs ≤ g ∨ ∃ cs t, Blk w g t cs ∧ t ≠ 30) : Suf w' lo bs v xs := by
  obtain ⟨A0, c0, k, ys, A, h1, h2⟩ := h
  exact ⟨A0, c0, k, ys, A, h1.tr hs hx, h2⟩
theorem RowO.own {w : World} {lo bs : Nat} {A : Option Addr} {n c : Nat} {xs : List (Int × Int)} (h : RowO w lo bs (.slice A n c) xs) : n = xs.length ∧ Own w lo 30 2 A xs.length c (lnV xs) ∧ ∀ g ∈ aL A, g < bs := by
  obtain ⟨A', c', e, h1, h2⟩ := h
  cases e; exact ⟨rfl, h1, h2⟩
theorem Suf.of {w : World} {lo bs : Nat} {v : Value} {xs : List (Int × Int)} (h : RowO w lo bs v xs) : Suf w lo bs v xs := by
  obtain ⟨A, c, rfl, h1, h2⟩ := h
  refine ⟨A, c, 0, xs, A, ⟨A, c, rfl, h1, h2⟩, Nat.zero_le _, rfl, rfl, fun hne => ?_⟩
  obtain ⟨g, hg, _⟩ := h1.cell (fun e => hne (by have := congrArg List.length e; rw [lnV_len] at this; exact List.length_eq_zero_iff.1 (by simp at this; omega)))
  exact ⟨g, hg, by rw [hg, Nat.zero_mul]⟩
structure SufC (w : World) (lo bs : Nat) (A : Option Addr) (n c : Nat) (x : Int × Int) (xs : List (Int × Int)) : Prop where
  len : n = xs.length + 1
  at_ : ∃ g o, A = some ⟨g, o, none⟩ ∧ g < w.heap.size ∧ w.rangeAt g o [.int .i64 x.1, .int .i64 x.2]
  next : Suf w lo bs (.slice (if c = 1 then A else A.map (·.add (1 * 2))) (n - 1) (c - 1)) xs
theorem Suf.slice {w : World} {lo bs : Nat} {v : Value} {xs : List (Int × Int)} (h : Suf w lo bs v xs) : ∃ A c, v = .slice A xs.length c := by
  obtain ⟨A0, c0, k, ys, A, h1, h2, h3, h4, h5⟩ := h
  exact ⟨A, c0 - k, h4⟩
theorem Suf.cons {w : World} {lo bs n c : Nat} {A : Option Addr} {x : Int × Int} {xs : List (Int × Int)} (h : Suf w lo bs (.slice A n c) (x :: xs)) : SufC w lo bs A n c x xs := by
  obtain ⟨A0, c0, k, ys, A', h1, h2, h3, h4, h5⟩ := h
  obtain ⟨g, e0, e1⟩ := h5 (by simp)
  cases h4
  subst e0
  obtain ⟨_, ho, hb⟩ := h1.own
  have hcl := ho.cap_le
  have hk : k < ys.length := by
    have := congrArg List.length h3
    simp at this; omega
  have hx : ys[k] = x := by
    have h6 : (ys.drop k)[0]? = some x := by rw [← h3]; rfl
    rw [List.getElem?_drop, Nat.add_zero, List.getElem?_eq_getElem hk] at h6
    exact Option.some.inj h6
  have hxs : xs = ys.drop (k + 1) := by
    have : (x :: xs).tail = (ys.drop k).tail := by rw [h3]
    simpa [List.tail_drop] using this
  obtain ⟨q, e2, _, hql, hqc⟩ := ho.cell (fun e => by have := congrArg List.length e; rw [lnV_len] at this; simp at this; omega)
  cases e2
  have h7 := lnV_get ys k hk
  rw [hx] at h7
  refine ⟨by simp, ⟨g, k * 2, e1, hql, fun j v hj => ?_⟩, ?_⟩
  · match j, hj with
    | 0, hj => cases hj; exact hqc _ _ h7.1
    | 1, hj => cases hj; exact hqc _ _ h7.2
    | _ + 2, hj => cases hj
  · subst e1
    refine ⟨some ⟨g, 0, none⟩, c0, k + 1, ys, (if c0 - k = 1 then some (⟨g, k * 2, none⟩ : Addr) else Option.map (fun z : Addr => z.add (1 * 2)) (some (⟨g, k * 2, none⟩ : Addr))), h1, by omega, hxs, ?_, fun hne => ⟨g, rfl, ?_⟩⟩
    · rw [show (x :: xs).length - 1 = xs.length by simp, show c0 - k - 1 = c0 - (k + 1) by omega]
    · have hl : 0 < xs.length := List.length_pos_iff.2 hne
      have : xs.length = ys.length - (k + 1) := by rw [hxs]; simp
      rw [if_neg om]
      show some ((⟨g, k * 2, none⟩ : Addr).add (1 * 2)) = _
      rw [Addr.add_mid, show k * 2 + 1 * 2 = (k + 1) * 2 by omega]
def LMat (w : World) (A : Option Addr) (L : List (List (Int × Int))) : Prop := L.length ≤ maxI ∧ (L ≠ [] → ∃ b o, A = some ⟨b, o, none⟩ ∧ b < w.heap.size ∧ ∀ k (hk : k < L.length), ∃ A' c', w.cell? ⟨b, o + k * 1, none⟩ = some (.slice A' (L[k]).length c') ∧ LinksIn w A' L[k])
theorem LMat.mono {w w' : World} {A : Option Addr} {L : List (List (Int × Int))} (h : LMat w A L) (hb : Bel w w') : LMat w' A L :=
  ⟨h.1, fun hne => by
    obtain ⟨b, o, h1, h2, h3⟩ := h.2 hne
    refine ⟨b, o, h1, nLL h2 hb.size, fun k hk => ?_⟩
    obtain ⟨A', c', h4, h5⟩ := h3 k hk
    exact ⟨A', c', hb.cell h2 h4, h5.mono hb⟩⟩
theorem LMat.at_ {w w' : World} {A : Option Addr} {L : List (List (Int × Int))} (h : LMat w A L) (hb : Bel w w') {k : Nat} (hk : k < L.length) : ∃ b o A' c', A = some ⟨b, o, none⟩ ∧ w'.cell? ⟨b, o + k * 1, none⟩ = some (.slice A' (L[k]).length c') ∧ LinksIn w' A' L[k] := by
  obtain ⟨b, o, h1, h2, h3⟩ := h.2 (fun e => by rw [e] at hk; exact absurd hk (Nat.not_lt_zero _))
  obtain ⟨A', c', h4, h5⟩ := h3 k hk
  exact ⟨b, o, A', c', h1, hb.cell h2 h4, h5.mono hb⟩
end Go.Proofs.YtegngekpmpdngaaDoor
namespace Go.Proofs.YtegngekpmpdngaaDoor
open Go.RowKit
theorem cur_drop {cur : Array Value} {Ps Ys : List Value} {m j : Nat} {v : Value} (h : cur.toList.take m = Ps ++ Ys) (hj : Ys[j]? = some v) : cur[Ps.length + j]? = some v := by
  have h1 : (Ps ++ Ys)[Ps.length + j]? = some v := by
    rw [List.getElem?_append_right (Nat.le_add_right _ _), Nat.add_sub_cancel_left]; exact hj
  rw [← h, List.getElem?_take] at h1
  split at h1
  · simpa using h1
  · cases h1
theorem cur_take {cur : Array Value} {Ps Ys : List Value} {m j : Nat} {v : Value} (h : cur.toList.take m = Ps ++ Ys) (hj : Ps[j]? = some v) : cur[j]? = some v := by
  have hlt := (List.getElem?_eq_some_iff.1 hj).1
  have h1 : (Ps ++ Ys)[j]? = some v := by
    rw [List.getElem?_append_left hlt]; exact hj
  rw [← h, List.getElem?_take] at h1
  split at h1
  · simpa using h1
  · cases h1
def lk1 (x : Int × Int) : List Value := [Value.int .i64 x.1, Value.int .i64 x.2]
theorem lnV_ins (L : List (Int × Int)) (k : Nat) (x : Int × Int) : lnV (insL L k x) = lnV (L.take k) ++ (lk1 x ++ lnV (L.drop k)) := by
  unfold insL
  rw [lnV_app, show x :: L.drop k = [x] ++ L.drop k from rfl, lnV_app]
  rfl
theorem lnV_cut (L : List (Int × Int)) (k : Nat) : lnV L = lnV (L.take k) ++ lnV (L.drop k) := by rw [← lnV_app, List.take_append_drop]
theorem tk_len {L : List (Int × Int)} {k : Nat} (hk : k ≤ L.length) : (lnV (L.take k)).length = k * 2 := by rw [lnV_len, List.length_take, Nat.min_eq_left hk]
theorem dr_len {L : List (Int × Int)} {k : Nat} : (lnV (L.drop k)).length = (L.length - k) * 2 := by rw [lnV_len, List.length_drop]
theorem ins_new {w : World} {base g cap k : Nat} {R0 : Array Value} {Zs : List Value} {L : List (Int × Int)} {x : Int × Int} (hb : Blk w g 30 (cpy (cpy R0 (0 + k * 2) (lk1 x)) (0 + (k + 1) * 2) (lnV (L.drop k)))) (hR : R0.toList = lnV (L.take k) ++ Zs) (hsz : R0.size = cap * 2) (hcap : L.length + 1 ≤ cap) (hm : cap ≤ 9223372036854775807) (hbase : base ≤ g) (hk : k ≤ L.length) : Own w base 30 2 (some ⟨g, 0, none⟩) (L.length + 1) cap (lnV (insL L k x)) := by
  have h1 := tk_len hk
  have h2 := dr_len (L := L) (k := k)
  have h3 : (lk1 x).length = 2 := rfl
  refine own_mk hb hbase hcap hm ?_ ?_
  · rw [cpy_size, cpy_size, hsz]
    · rw [hsz, h3]; omega
    · rw [cpy_size, hsz, h2]
      · omega
      · rw [hsz, h3]; omega
  · rw [lnV_ins, show (L.length + 1) * 2 = (lnV (L.take k)).length + (lk1 x).length + (lnV (L.drop k)).length by omega]
    exact cpy_new hR om om
theorem ins_move {w : World} {base g cap k : Nat} {R0 : Array Value} {L : List (Int × Int)} {x : Int × Int} (hb : Blk w g 30 (cpy (cpy R0 (0 + (k + 1) * 2) (lnV (L.drop k))) (0 + k * 2) (lk1 x))) (hR : R0.toList.take (L.length * 2) = lnV L) (hsz : R0.size = cap * 2) (hcap : L.length + 1 ≤ cap) (hm : cap ≤ 9223372036854775807) (hbase : base ≤ g) (hk : k ≤ L.length) : Own w base 30 2 (some ⟨g, 0, none⟩) (L.length + 1) cap (lnV (insL L k x)) := by
  have h1 := tk_len hk
  have h2 := dr_len (L := L) (k := k)
  have h3 : (lk1 x).length = 2 := rfl
  have h4 : R0.toList = lnV (L.take k) ++ (lnV (L.drop k) ++ R0.toList.drop (L.length * 2)) := by
    rw [← List.append_assoc, ← lnV_cut, ← hR, List.take_append_drop]
  have h5 : (R0.toList.drop (L.length * 2)).length = cap * 2 - L.length * 2 := by rw [List.length_drop, Array.length_toList, hsz]
  refine own_mk hb hbase hcap hm ?_ ?_
  · rw [cpy_size, cpy_size, hsz]
    · rw [hsz, h2]; omega
    · rw [cpy_size, hsz, h3]
      · omega
      · rw [hsz, h2]; omega
  · rw [lnV_ins, show (L.length + 1) * 2 = (lnV (L.take k)).length + (lk1 x).length + (lnV (L.drop k)).length by omega]
    exact cpy_move h4 om om om
theorem ins_end {w : World} {base cap : Nat} {A : Option Addr} {L : List (Int × Int)} {x : Int × Int} (h : Own w base 30 2 A (L.length + 1) cap (lnV L ++ lk1 x)) : Own w base 30 2 A (L.length + 1) cap (lnV (insL L L.length x)) := by
  rw [lnV_ins, List.take_length, List.drop_eq_nil_of_le (Nat.le_refl _)]
  simpa [lnV] using h
theorem lk1_one (x : Int × Int) : ∀ v ∈ lk1 x, v.oneCell' = true := fun v hv => by
  simp only [lk1, List.mem_cons, List.not_mem_nil, or_false] at hv
  rcases hv with rfl | rfl <;> rfl
theorem lnV_one' (xs : List (Int × Int)) : ∀ v ∈ lnV xs, v.oneCell' = true := List.all_eq_true.1 (lnV_one xs)
theorem ovl_any {w : World} {a b la ca lb cb oa ob : Nat} {tA tB : TypeId} {ka kb : Array Value} (ha : Blk w a tA ka) (hb : Blk w b tB kb) (hne : a ≠ b) (hk : kb.size ≠ 0) : (callFunc 86 #[.slice (some ⟨a, oa, none⟩) la ca, .slice (some ⟨b, ob, none⟩) lb cb]).run Tryd.prog w = .ok (.value (.bool false)) w :=
  run_apart (fn := Tryd.f86) (t := 31) (tR := 4) (e := 30) kR kR kR kR kR U31 (sz := 2) kR ha hb hne hk
set_option maxHeartbeats 1000000 in
theorem insl_any {base b vc c k : Nat} {A : Option Addr} {L : List (Int × Int)} {x : Int × Int} (w : World) (ho : Own w base 30 2 A L.length c (lnV L)) (hb : Blk w b 30 #[.int .i64 x.1, .int .i64 x.2]) (hA : ∀ g ∈ aL A, g ≠ b) (hk : k ≤ L.length) (hl : L.length ≤ 1000000) (hbase : base ≤ w.heap.size) : Calls Tryd.prog 55 #[.slice A L.length c, .int .i64 (k : Nat), .slice (some ⟨b, 0, none⟩) 1 vc] w fun e w' => ∃ A' c', e = .returned (.slice A' (L.length + 1) c') ∧ Own w' base 30 2 A' (L.length + 1) c' (lnV (insL L k x)) ∧ Same (aL A) w w' ∧ ∀ g ∈ aL A', g ∈ aL A ∨ w.heap.size ≤ g := by
 have hcl := ho.cap_le
 refine enter Tryd.func55 Tryd.ntmps55 rfl (Nat.le_of_ble_eq_true rfl) (c_seq (c_region (waS rfl (x_nil (e_S ?_)))))
 refine c_seq (c_region (wmS rfl (wmI rfl (wl (r_slL (l := k) U31 sz30_GSearch rfl rfl hk) (x_nil ?_)))))
 refine e_S (c_seq (c_region (wmS rfl (wl (r_len U31 rfl) (waI rfl ?_)))))
 refine x_nil (e_S (c_seq (c_seq (c_region (wmI rfl ?_)))))
 refine wl (r_eql rfl rfl) (x_nil (e_S ?_))
 refine c_ifd rfl (fun c16 => ?_) (fun c16 => ?_)
 ·
  exact absurd c16 dE
 refine c_skip (e_S (c_seq (c_region (wmS rfl (wl (r_len U31 rfl) ?_)))))
 refine waI rfl (x_nil (e_S (c_seq (c_seq (c_region ?_)))))
 refine wmI rfl (wmI rfl (wl (r_eql rfl rfl) (x_nil (e_S ?_))))
 refine c_ifd rfl (fun c22 => ?_) (fun c22 => ?_)
 ·
  have hkn : k = L.length := by omega
  subst hkn
  refine c_seq (c_region (wmS rfl (wmS rfl ?_)))
  refine wl_app U31 in30 rfl dE ho hb rfl rfl rfl oneA dE om om hbase (fun g25 cap25 w25 ho25 hs25 hg25 => ?_)
  refine waS rfl (x_nil (e_S (c_ret (e_Sr (fin1 (.inl rfl) rfl rfl ?_)))))
  exact ⟨_, _, rfl, ins_end ho25, hs25, fun g2 hg2 => by rw [List.mem_singleton.1 hg2]; rcases hg25 with h | h; (· left; rw [h]; exact List.mem_singleton.2 rfl); exact .inr h⟩
 have hkn : k < L.length := by omega
 obtain ⟨g, cur, rfl, hgb, hcur, hcm, hcs, hct⟩ := ho.whole (show 0 < L.length by omega)
 have hgl := hcur.lt
 have hgn : g ≠ b := hA g (List.mem_singleton.2 rfl)
 have htk := tk_len hk
 have hdr := dr_len (L := L) (k := k)
 rw [lnV_cut L k] at hct
 refine c_skip (e_S (c_seq (c_seq (c_region (wmI rfl ?_)))))
 refine wmI rfl (wl (r_add (c := ((L.length + 1 : Nat) : Int)) rfl rfl om om) (wmS rfl (wl (r_cap U31 rfl) (wl (r_gtr rfl rfl) (x_nil ?_)))))
 refine e_S ?_
 refine c_ifd rfl (fun c31 => ?_) (fun c31 => ?_)
 ·
  have hroom : c < L.length + 1 := by omega
  refine c_seq (c_region (wmS rfl (wmI rfl (wl (r_slH (h := k) U31 sz30_GSearch rfl rfl om) (wmI rfl ?_)))))
  refine wmI rfl (wl (r_add (c := ((L.length + 1 : Nat) : Int)) rfl rfl om om) (wmI rfl (wl (r_sub (c := ((L.length + 1 - k : Nat) : Int)) rfl rfl om om) ?_)))
  refine wl_appZ2 (olds := lnV (L.take k)) (m := k) (k := L.length + 1 - k) U31 U3 in30 om dE om om om rfl rfl htk (fun j v hj => hcur.cell (cur_take hct hj)) (fun b40 cap40 w40 hb40 hs40 hr40 hge hle => ?_)
  have e40 : k + (L.length + 1 - k) = L.length + 1 := by omega
  rw [e40] at hge hb40 ⊢
  have hne40 : b ≠ b40 := by have := hb.lt; omega
  have hng40 : g ≠ b40 := by omega
  replace hb := hb.tr0 hs40
  replace hcur := hcur.tr0 hs40
  have hS : SameQ [b40] w40 w40 := Same.refl _ _
  obtain ⟨Zs, hZs⟩ : ∃ Zs : List Value, Zs = (Builtin.zeroCells (Value.agg #[.int .i64 0, .int .i64 0]).cells (L.length + 1 - k)).toList ++ (Builtin.zeroCells (Value.agg #[.int .i64 0, .int .i64 0]).cells (cap40 - (L.length + 1))).toList := ⟨_, rfl⟩
  obtain ⟨R0, hR0⟩ : ∃ R0 : Array Value, R0 = (lnV (L.take k)).toArray ++ Builtin.zeroCells (Value.agg #[.int .i64 0, .int .i64 0]).cells (L.length + 1 - k) ++ Builtin.zeroCells (Value.agg #[.int .i64 0, .int .i64 0]).cells (cap40 - (L.length + 1)) := ⟨_, rfl⟩
  have hRl : R0.toList = lnV (L.take k) ++ Zs := by rw [hR0, hZs]; simp
  have hRs : R0.size = cap40 * 2 := by
    rw [hR0]
    simp only [Array.size_append, List.size_toArray, htk, Builtin.zeroCells, Array.size_map, Array.size_range, show (Value.agg #[.int .i64 0, .int .i64 0]).cells.size = 2 from rfl]
    omega
  rw [← hR0] at hb40
  clear hR0 hZs
  refine waS rfl (x_nil (e_S (c_seq (c_region (wmS rfl ?_)))))
  refine wmI rfl (wl (r_slM (l := k) (l2 := L.length + 1 - k) U31 sz30_GSearch rfl rfl om om om) (wmS rfl ?_))
  refine wl_cp (m := 1) (cs := lk1 x) U31 sz30_GSearch rfl rfl hb40 (by simp only [Nat.min_def]; split <;> omega) rfl (fun j v hj => by rw [Addr.add_mid, Nat.zero_add]; exact hb.cell (by simpa [lk1] using hj)) (by rw [hRs]; simp only [lk1, List.length_cons, List.length_nil]; omega) (lk1_one x) (fun w45 hb45 hs45 => ?_)
  replace hb := hb.tr1 hs45 hne40
  replace hcur := hcur.tr1 hs45 hng40
  replace hS := SameQ.trans hS hs45 (by simp)
  have hR1 : (cpy R0 (0 + k * 2) (lk1 x)).size = cap40 * 2 := by rw [cpy_size (by rw [hRs]; simp only [lk1, List.length_cons, List.length_nil]; omega), hRs]
  refine x_nil (e_S (c_seq ?_))
  refine c_tail 8 kR kR (fun w1 hs => ?_)
  replace hb := hb.tr0 hs
  replace hcur := hcur.tr0 hs
  replace hb45 := hb45.tr0 hs
  replace hS := SameQ.trans hS hs (by simp)
  clear hs
  refine ws (r_mv (v := .slice _ _ _) rfl) (ws (r_mv (v := .int _ _) rfl) (ws (r_mv (v := .int _ _) rfl) (ws (r_add (c := ((k + 1 : Nat) : Int)) rfl rfl om om) (ws (r_slM (l := k + 1) (l2 := L.length - k) U31 sz30_GSearch rfl rfl om om om) (ws (r_mv (v := .slice _ _ _) rfl) ?_)))))
  refine ws (r_mv (v := .int _ _) rfl) (ws (r_slM (l := k) (l2 := L.length - k) U31 sz30_GSearch rfl rfl om om om) (s_tail ?_))
  refine wl_cp (m := L.length - k) (cs := lnV (L.drop k)) U31 sz30_GSearch rfl rfl hb45 (by simp only [Nat.min_def]; split <;> omega) hdr (fun j v hj => by
    rw [Addr.add_mid]
    have h := cur_drop hct hj
    rw [htk] at h
    exact hcur.cell (by rw [Nat.zero_add]; exact h)) (by rw [hR1, hdr]; omega) (lnV_one' _) (fun w54 hb54 hs54 => ?_)
  replace hS := SameQ.trans hS hs54 (by simp)
  refine x_nil (e_S (c_seq (c_region (wmS rfl (waS rfl ?_)))))
  refine x_nil (e_S (c_ret (e_Sr (fin1 (.inl rfl) rfl rfl ?_))))
  exact ⟨_, _, rfl, ins_new hb54 hRl hRs hge hle (nLT hbase hr40) hk, (hs40.freshL (show Same [b40] _ _ from hS) (fun g hg => .inr (by rw [List.mem_singleton.1 hg]; exact hr40))).weak (by simp), fun g2 hg2 => .inr (by rw [List.mem_singleton.1 hg2]; exact hr40)⟩
 have hroom : L.length + 1 ≤ c := by omega
 refine c_skip (e_S (c_seq (c_region (wmS rfl (wmI rfl ?_)))))
 refine wmI rfl (wl (r_add (c := ((L.length + 1 : Nat) : Int)) rfl rfl om om) (wl (r_slH (h := (L.length + 1)) U31 sz30_GSearch rfl rfl hroom) (waS rfl (x_nil (e_S ?_)))))
 refine c_seq (c_seq (c_region (wmS rfl (wmS rfl (wmI rfl ?_)))))
 refine wmI rfl (wl (r_add (c := ((k + 1 : Nat) : Int)) rfl rfl om om) (wl (r_slM (l := k + 1) (l2 := L.length - k) U31 sz30_GSearch rfl rfl om om om) (wl (r_ext (ovl_any hb hcur (fun e => hgn e.symm) om) rfl) (wl (r_not rfl) (x_nil ?_)))))
 refine e_S ?_
 refine c_if rfl (fun c68 => ?_) (fun c68 => ?_)
 ·
  have hS : SameQ [g] w w := Same.refl _ _
  refine c_seq ?_
  refine c_tail 8 kR kR (fun w2 hs => ?_)
  replace hb := hb.tr0 hs
  replace hcur := hcur.tr0 hs
  replace hS := SameQ.trans hS hs (by simp)
  clear hs
  refine ws (r_mv (v := .slice _ _ _) rfl) (ws (r_mv (v := .int _ _) rfl) (ws (r_mv (v := .int _ _) rfl) (ws (r_add (c := ((k + 1 : Nat) : Int)) rfl rfl om om) (ws (r_slM (l := k + 1) (l2 := L.length - k) U31 sz30_GSearch rfl rfl om om om) (ws (r_mv (v := .slice _ _ _) rfl) ?_)))))
  refine ws (r_mv (v := .int _ _) rfl) (ws (r_slM (l := k) (l2 := L.length + 1 - k) U31 sz30_GSearch rfl rfl om om om) (s_tail ?_))
  refine wl_cp (m := L.length - k) (cs := lnV (L.drop k)) U31 sz30_GSearch rfl rfl hcur (by simp only [Nat.min_def]; split <;> omega) hdr (fun j v hj => by
    rw [Addr.add_mid]
    have h := cur_drop hct hj
    rw [htk] at h
    exact hcur.cell (by rw [Nat.zero_add]; exact h)) (by rw [hcs, hdr]; omega) (lnV_one' _) (fun w77 hb77 hs77 => ?_)
  replace hS := SameQ.trans hS hs77 (by simp)
  replace hb := hb.tr1 hs77 (fun e => hgn e.symm)
  have hR1 : (cpy cur (0 + (k + 1) * 2) (lnV (L.drop k))).size = c * 2 := by rw [cpy_size (by rw [hcs, hdr]; omega), hcs]
  refine x_nil (e_S (c_seq (c_region (wmS rfl (wmI rfl ?_)))))
  refine wl (r_slM (l := k) (l2 := L.length + 1 - k) U31 sz30_GSearch rfl rfl om om om) (wmS rfl ?_)
  refine wl_cp (m := 1) (cs := lk1 x) U31 sz30_GSearch rfl rfl hb77 (by simp only [Nat.min_def]; split <;> omega) rfl (fun j v hj => by rw [Addr.add_mid, Nat.zero_add]; exact hb.cell (by simpa [lk1] using hj)) (by rw [hR1]; simp only [lk1, List.length_cons, List.length_nil]; omega) (lk1_one x) (fun w82 hb82 hs82 => ?_)
  replace hS := SameQ.trans hS hs82 (by simp)
  refine x_nil (e_S (c_seq (c_region (wmS rfl (waS rfl ?_)))))
  refine x_nil (e_S (c_ret (e_Sr (fin1 (.inl rfl) rfl rfl ?_))))
  exact ⟨_, _, rfl, ins_move hb82 (by rw [lnV_cut L k]; exact hct) hcs hroom hcm hgb hk, by simpa [aL, SameQ] using hS, fun g2 hg2 => .inl hg2⟩
 exact absurd c68 dE
end Go.Proofs.YtegngekpmpdngaaDoor
