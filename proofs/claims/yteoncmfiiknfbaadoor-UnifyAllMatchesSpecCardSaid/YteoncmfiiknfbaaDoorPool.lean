/- The reference's way to unify: numbers of classes until nothing changes, then one node for each class. No program in sight. What these functions of the program compute, at every world: cmp.isNaN[int], cmp.Compare[int], glosswright/graph.Target$1, slices.BinarySearchFunc[[]glosswright/api.Link,glosswright/api.Link,int]. What these functions of the program compute, at every world: glosswright/graph.Target, glosswright/glosswrightref3.Target, glosswright/glosswrightlaw3.single. What these functions of the program compute, at every world: glosswright/subsume.Both, glosswright/subsume.Find, glosswright/subsume.Subsumes, glosswright/glosswrightlaw3.twoFault. Suffixes of rows of links, and slices of such: what the walks of a pool of nodes read. No program in sight. -/
import Derived.Test.YteoncmfiiknfbaaDoorUni
import Derived.Test.YteoncmfiiknfbaaDoorTurn
import Derived.Test.YteoncmfiiknfbaaDoorU
import Derived.Test.YteoncmfiiknfbaaDoorOrd
import Derived.Test.YteoncmfiiknfbaaDoorEng4
namespace Go.Proofs.YteoncmfiiknfbaaDoor
open Go.RowKit
section join
variable {l : List Ty} {U : List Nd} {J : List (Nat × Nat)} {rep r0 : Nat → Nat} {k i j : Nat} {ch : Bool}
structure CS (l : List Ty) (U : List Nd) (J : List (Nat × Nat)) (k : Nat) (rep : Nat → Nat) : Prop where
  lt : ∀ i, i < U.length → rep i < U.length
  id : ∀ i, i < U.length → rep (rep i) = rep i
  only : ∀ c θ, Adm l U c θ → (∀ p ∈ J, θ p.1 = θ p.2) → ∀ i, i < U.length → θ i = θ (rep i)
  jc : ∀ p ∈ J.take k, rep p.1 = rep p.2
theorem CS.start : CS l U J 0 (fun i => i) := ⟨fun _ h => h, fun _ _ => rfl, fun _ _ _ _ _ _ => rfl, fun p hp => by simp at hp⟩
theorem CS.ren {a b : Nat} (h : CS l U J k rep) (ha : a < U.length) (ra : rep a = a) (hab : ∀ c θ, Adm l U c θ → (∀ p ∈ J, θ p.1 = θ p.2) → θ a = θ b) : CS l U J k (UF.un rep a b) := by
  refine ⟨fun i hi => ?_, fun i hi => ?_, fun c θ hθ hj i hi => ?_, fun p hp => ?_⟩
  · unfold UF.un; split
    · exact ha
    · exact h.lt i hi
  · unfold UF.un
    by_cases e : rep i = b
    · rw [if_pos e]
      split
      · rfl
      · exact ra
    · rw [if_neg e, h.id i hi, if_neg e]
  · have h1 := h.only c θ hθ hj i hi
    unfold UF.un
    by_cases e : rep i = b
    · rw [if_pos e, h1, e]; exact (hab c θ hθ hj).symm
    · rw [if_neg e]; exact h1
  · unfold UF.un; rw [h.jc p hp]
theorem CS.pair {x y : Nat} (h : CS l U J k rep) (hk : k < J.length) (hxy : J[k] = (x, y)) (hx : x < U.length) (hy : y < U.length) : CS l U J (k + 1) (UF.un rep (rep x) (rep y)) := by
  have h1 := h.ren (b := rep y) (h.lt x hx) (h.id x hx) (fun c θ hθ hj => by
    rw [← h.only c θ hθ hj x hx, ← h.only c θ hθ hj y hy]
    have := hj _ (List.getElem_mem hk)
    rwa [hxy] at this)
  refine ⟨h1.lt, h1.id, h1.only, fun p hp => ?_⟩
  rw [List.take_succ_eq_append_getElem hk] at hp
  rcases List.mem_append.1 hp with hp | hp
  · exact h1.jc p hp
  · rw [List.mem_singleton.1 hp, hxy]
    unfold UF.un
    simp only
    split <;> simp
def LC (U : List Nd) (rep : Nat → Nat) (a b : Nat) : Prop := ∀ x ∈ (nd U a).ln, ∀ y ∈ (nd U b).ln, x.1 = y.1 → rep x.2.toNat = rep y.2.toNat
structure JP (l : List Ty) (U : List Nd) (J : List (Nat × Nat)) (k : Nat) (r0 rep : Nat → Nat) (ch : Bool) (i j : Nat) : Prop where
  cs : CS l U J k rep
  le : roots U.length rep ≤ roots U.length r0
  less : ch = true → roots U.length rep < roots U.length r0
  done : ch = false → ∀ a b, a < U.length → b < a → (a < i ∨ a = i ∧ b < j) → rep a = rep b → LC U rep a b
theorem JP.start (h : CS l U J k rep) : JP l U J k rep rep false 0 0 := ⟨h, Nat.le_refl _, (fun h => nomatch h), fun _ a b _ _ h => by omega⟩
theorem JP.row (h : JP l U J k r0 rep ch i i) : JP l U J k r0 rep ch (i + 1) 0 := ⟨h.cs, h.le, h.less, fun hc a b ha hb hx => h.done hc a b ha hb om⟩
theorem JP.skip (h : JP l U J k r0 rep ch i j) (hn : ¬ rep i = rep j) : JP l U J k r0 rep ch i (j + 1) := ⟨h.cs, h.le, h.less, fun hc a b ha hb hx he => by
  by_cases e : a = i ∧ b = j
  · obtain ⟨rfl, rfl⟩ := e; exact absurd he hn
  · exact h.done hc a b ha hb om he⟩
def LP (U : List Nd) (rep : Nat → Nat) (i j p q : Nat) : Prop := ∀ a b (ha : a < (nd U i).ln.length) (hb : b < (nd U j).ln.length), (a < p ∨ a = p ∧ b < q) → ((nd U i).ln[a]).1 = ((nd U j).ln[b]).1 → rep ((nd U i).ln[a]).2.toNat = rep ((nd U j).ln[b]).2.toNat
structure JK (l : List Ty) (U : List Nd) (J : List (Nat × Nat)) (k : Nat) (r0 rep : Nat → Nat) (ch : Bool) (i j p q : Nat) : Prop where
  pp : JP l U J k r0 rep ch i j
  eq : rep i = rep j
  lp : ch = false → LP U rep i j p q
variable {p q : Nat}
theorem JK.start (h : JP l U J k r0 rep ch i j) (he : rep i = rep j) : JK l U J k r0 rep ch i j 0 0 := ⟨h, he, fun _ a b _ _ hx => by omega⟩
theorem JK.row (h : JK l U J k r0 rep ch i j p (nd U j).ln.length) : JK l U J k r0 rep ch i j (p + 1) 0 := ⟨h.pp, h.eq, fun hc a b ha hb hx => h.lp hc a b ha hb om⟩
theorem JK.skip (h : JK l U J k r0 rep ch i j p q) (hp : p < (nd U i).ln.length) (hq : q < (nd U j).ln.length) (hn : ((nd U i).ln[p]).1 = ((nd U j).ln[q]).1 → rep ((nd U i).ln[p]).2.toNat = rep ((nd U j).ln[q]).2.toNat) : JK l U J k r0 rep ch i j p (q + 1) := ⟨h.pp, h.eq, fun hc a b ha hb hx => by
  by_cases e : a = p ∧ b = q
  · obtain ⟨rfl, rfl⟩ := e; exact hn
  · exact h.lp hc a b ha hb om⟩
theorem JK.ren (h : JK l U J k r0 rep ch i j p q) (hi : i < U.length) (hj : j < U.length) (hp : p < (nd U i).ln.length) (hq : q < (nd U j).ln.length) (he : ((nd U i).ln[p]).1 = ((nd U j).ln[q]).1) (hx : ((nd U i).ln[p]).2.toNat < U.length) (hy : ((nd U j).ln[q]).2.toNat < U.length) (hne : ¬ rep ((nd U i).ln[p]).2.toNat = rep ((nd U j).ln[q]).2.toNat) :
    JK l U J k r0 (UF.un rep (rep ((nd U j).ln[q]).2.toNat) (rep ((nd U i).ln[p]).2.toNat)) true i j p (q + 1) := by
  have c := h.pp.cs
  have hr := c.ren (a := rep ((nd U j).ln[q]).2.toNat) (b := rep ((nd U i).ln[p]).2.toNat) (c.lt _ hy) (c.id _ hy) (fun d θ hθ hJ => by
    rw [← c.only d θ hθ hJ _ hx, ← c.only d θ hθ hJ _ hy]
    have e1 := hθ.ln i hi _ (List.getElem_mem hp)
    have e2 := hθ.ln j hj _ (List.getElem_mem hq)
    have e3 : θ i = θ j := by rw [c.only d θ hθ hJ i hi, c.only d θ hθ hJ j hj, h.eq]
    rw [e3, he, e2] at e1
    exact Int.ofNat.inj e1)
  have hl := roots_join (n := U.length) (rep := rep) (a := rep ((nd U j).ln[q]).2.toNat) (b := rep ((nd U i).ln[p]).2.toNat) (c.lt _ hx) (c.id _ hx) (c.id _ hy) (fun e => hne e.symm)
  have hle := h.pp.le
  refine ⟨⟨hr, by omega, fun _ => by omega, fun h => nomatch h⟩, ?_, fun h => nomatch h⟩
  unfold UF.un; rw [h.eq]
theorem JK.done (h : JK l U J k r0 rep ch i j (nd U i).ln.length 0) : JP l U J k r0 rep ch i (j + 1) := ⟨h.pp.cs, h.pp.le, h.pp.less, fun hc a b ha hb hx he => by
  by_cases e : a = i ∧ b = j
  · obtain ⟨rfl, rfl⟩ := e
    intro x hxm y hym hxy
    obtain ⟨u, hu, rfl⟩ := List.getElem_of_mem hxm
    obtain ⟨v, hv, rfl⟩ := List.getElem_of_mem hym
    exact h.lp hc u v hu hv (.inl hu) hxy
  · exact h.pp.done hc a b ha hb om he⟩
structure JF (l : List Ty) (U : List Nd) (J : List (Nat × Nat)) (rep : Nat → Nat) : Prop where
  cs : CS l U J J.length rep
  clo : ∀ a b, a < U.length → b < U.length → rep a = rep b → LC U rep a b
theorem JP.end_ (hs : ∀ i, i < U.length → Srt (nd U i).ln) (h : JP l U J J.length r0 rep false U.length 0) : JF l U J rep := by
  refine ⟨h.cs, fun a b ha hb he => ?_⟩
  rcases Nat.lt_trichotomy a b with hab | hab | hab
  · have := h.done rfl b a hb hab (.inl hb) he.symm
    exact fun x hx y hy e => (this y hy x hx e.symm).symm
  · subst hab
    intro x hx y hy e
    have e1 := tgt_in (hs a ha) hx
    have e2 := tgt_in (hs a ha) hy
    rw [e, e2] at e1
    rw [← e1]
  · exact h.done rfl a b ha hab (.inl ha) he
def rpL (rep : Nat → Nat) (xs : List (Int × Int)) : List (Int × Int) := xs.map (fun x => (x.1, ((rep x.2.toNat : Nat) : Int)))
def insL (L : List (Int × Int)) (k : Nat) (x : Int × Int) : List (Int × Int) := L.take k ++ x :: L.drop k
theorem insL_mem {L : List (Int × Int)} {k : Nat} {x z : Int × Int} : z ∈ insL L k x ↔ z = x ∨ z ∈ L := by
  unfold insL
  rw [List.mem_append, List.mem_cons]
  constructor
  · rintro (h | h | h)
    · exact .inr (List.mem_of_mem_take h)
    · exact .inl h
    · exact .inr (List.mem_of_mem_drop h)
  · rintro (h | h)
    · exact .inr (.inl h)
    · rw [← List.take_append_drop k L] at h
      rcases List.mem_append.1 h with h | h
      · exact .inl h
      · exact .inr (.inr h)
theorem insL_len (L : List (Int × Int)) (k : Nat) (x : Int × Int) : (insL L k x).length = L.length + 1 := by
  unfold insL
  have := congrArg List.length (List.take_append_drop k L)
  rw [List.length_append] at this
  rw [List.length_append, List.length_cons]; omega
theorem insL_srt {L : List (Int × Int)} {k : Nat} {x : Int × Int} (h : Srt L) (hk : k ≤ L.length) (h1 : ∀ i (hi : i < L.length), i < k → (L[i]).1 < x.1) (h2 : ∀ hk : k < L.length, ¬ (L[k]).1 < x.1) (hn : ∀ y ∈ L, y.1 ≠ x.1) : Srt (insL L k x) := by
  unfold insL
  have hd : Srt (L.take k ++ L.drop k) := by rw [List.take_append_drop]; exact h
  obtain ⟨a1, a2, a3⟩ := List.pairwise_append.1 hd
  have hlo : ∀ y ∈ L.take k, y.1 < x.1 := fun y hy => by
    obtain ⟨u, hu, rfl⟩ := List.getElem_of_mem hy
    rw [List.length_take] at hu
    rw [List.getElem_take]
    exact h1 u om om
  have hhi : ∀ y ∈ L.drop k, x.1 < y.1 := fun y hy => by
    by_cases hkl : k < L.length
    · have e : L.drop k = L[k] :: L.drop (k + 1) := List.drop_eq_getElem_cons hkl
      have h3 := h2 hkl
      have h4 := hn _ (List.getElem_mem hkl)
      rw [e] at hy a2
      rcases List.mem_cons.1 hy with hy | hy
      · rw [hy]; omega
      · have := (List.pairwise_cons.1 a2).1 y hy
        omega
    · rw [List.drop_eq_nil_of_le om] at hy; cases hy
  refine List.pairwise_append.2 ⟨a1, List.pairwise_cons.2 ⟨hhi, a2⟩, fun y hy z hz => ?_⟩
  rcases List.mem_cons.1 hz with hz | hz
  · rw [hz]; exact hlo y hy
  · exact a3 y hy z hz
theorem rpL_ins (rep : Nat → Nat) (L : List (Int × Int)) (k : Nat) (x : Int × Int) : rpL rep (insL L k x) = insL (rpL rep L) k (x.1, ((rep x.2.toNat : Nat) : Int)) := by
  simp [rpL, insL, List.map_take, List.map_drop]
theorem rpL_len (rep : Nat → Nat) (L : List (Int × Int)) : (rpL rep L).length = L.length := by simp [rpL]
theorem rpL_no {L : List (Int × Int)} {f : Int} (h : tgt (rpL rep L) f < 0) : ∀ y ∈ L, y.1 ≠ f := fun y hy e => by
  have hm : (f, ((rep y.2.toNat : Nat) : Int)) ∈ rpL rep L := List.mem_map.2 ⟨y, hy, by rw [← e]⟩
  have key : ∀ {xs : List (Int × Int)} {t : Int}, (∀ z ∈ xs, 0 ≤ z.2) → (f, t) ∈ xs → 0 ≤ tgt xs f := fun {xs t} hz hm => by
    unfold tgt
    split
    · rename_i y hy
      exact hz y (List.mem_of_find?_eq_some hy)
    · rename_i hn
      have := List.find?_eq_none.1 hn _ hm
      simp at this
  have := key (fun z hz => by
    obtain ⟨y, _, rfl⟩ := List.mem_map.1 hz
    exact Int.natCast_nonneg _) hm
  omega
theorem rpL_yes {L : List (Int × Int)} {f : Int} (h : 0 ≤ tgt (rpL rep L) f) : ∃ t, (f, t) ∈ L := by
  obtain ⟨y, hy, e⟩ := List.mem_map.1 (mem_tgt h)
  have e1 := congrArg Prod.fst e
  simp only at e1
  exact ⟨y.2, by rw [← e1]; exact hy⟩
structure MJ (l : List Ty) (U : List Nd) (J : List (Nat × Nat)) (rep : Nat → Nat) (seen : Nat → Bool) (T : Nat → Int) (L : Nat → List (Int × Int)) (it il q : Nat) : Prop where
  seen : ∀ c, seen c = true ↔ ∃ u, u < it ∧ rep u = c
  ty : ∀ c, c < U.length → 0 ≤ T c ∧ T c < l.length
  cov : ∀ u, u < it → sub l (T (rep u)).toNat (nd U u).ty.toNat = true
  low : ∀ c θ, (∀ i, i < c.length → 0 ≤ (nd c i).ty ∧ (nd c i).ty < l.length) → Adm l U c θ → (∀ p ∈ J, θ p.1 = θ p.2) → ∀ u, u < it → sub l (nd c (θ (rep u))).ty.toNat (T (rep u)).toNat = true
  srt : ∀ c, Srt (L c)
  val : ∀ c, ∀ x ∈ L c, ∃ u, u < U.length ∧ rep u = c ∧ x ∈ (nd U u).ln
  lc1 : ∀ u, u < il → ∀ x ∈ (nd U u).ln, ∃ t, (x.1, t) ∈ L (rep u)
  lc2 : ∀ x ∈ (nd U il).ln.take q, ∃ t, (x.1, t) ∈ L (rep il)
variable {seen : Nat → Bool} {T : Nat → Int} {L : Nat → List (Int × Int)}
theorem MJ.start (hp : 0 < l.length) : MJ l U J rep (fun _ => false) (fun _ => 0) (fun _ => []) 0 0 0 :=
  ⟨fun c => ⟨(fun h => nomatch h), fun ⟨u, hu, _⟩ => absurd hu (Nat.not_lt_zero _)⟩, fun c _ => ⟨Int.le_refl _, by omega⟩, fun u hu => absurd hu (Nat.not_lt_zero _), fun _ _ _ _ _ u hu => absurd hu (Nat.not_lt_zero _), fun _ => List.Pairwise.nil, (fun c x hx => by cases hx), fun u hu => absurd hu (Nat.not_lt_zero _), fun x hx => by simp at hx⟩
theorem MJ.first (hv : VT l) (hc : CS l U J k rep) (h : MJ l U J rep seen T L i i 0) (hi : i < U.length) (hty : 0 ≤ (nd U i).ty ∧ (nd U i).ty < l.length) (hn : seen (rep i) = false) : MJ l U J rep (setB seen (rep i)) (fun x => if x = rep i then (nd U i).ty else T x) L (i + 1) i 0 := by
  have hns : ∀ u, u < i → rep u ≠ rep i := fun u hu e => by
    have := (h.seen (rep i)).2 ⟨u, hu, e⟩
    rw [hn] at this; cases this
  refine ⟨fun c => ?_, fun c hc => ?_, fun u hu => ?_, fun c θ hct hθ hj u hu => ?_, h.srt, h.val, h.lc1, h.lc2⟩
  · unfold setB
    by_cases e : c = rep i
    · rw [if_pos e]; exact ⟨fun _ => ⟨i, Nat.lt_succ_self _, e.symm⟩, fun _ => rfl⟩
    · rw [if_neg e, h.seen c]
      exact ⟨fun ⟨u, hu, hr⟩ => ⟨u, by omega, hr⟩, fun ⟨u, hu, hr⟩ => ⟨u, by
        have : u ≠ i := fun e2 => e (by rw [← e2]; exact hr.symm)
        omega, hr⟩⟩
  · (try dsimp only)
    split
    · exact hty
    · exact h.ty c hc
  · (try dsimp only)
    by_cases e : u = i
    · subst e; rw [if_pos rfl]; exact sub_refl hv _
    · rw [if_neg (hns u om)]; exact h.cov u om
  · (try dsimp only)
    by_cases e : u = i
    · subst e
      rw [if_pos rfl, ← hc.only c θ hθ hj u hi]
      exact hθ.ty u hi
    · rw [if_neg (hns u om)]; exact h.low c θ hct hθ hj u om
theorem MJ.meet (hs : Sound l) (hc : CS l U J k rep) {m : Nat} (h : MJ l U J rep seen T L i i 0) (hi : i < U.length) (hn : seen (rep i) = true) (ht : (Go.Proofs.YteoncmfiiknfbaaDoor.meet l (T (rep i)).toNat (nd U i).ty.toNat).2.1 = true) (hm : (Go.Proofs.YteoncmfiiknfbaaDoor.meet l (T (rep i)).toNat (nd U i).ty.toNat).1 = m) : MJ l U J rep seen (fun x => if x = rep i then (m : Int) else T x) L (i + 1) i 0 := by
  obtain ⟨m1, m2, m3⟩ := meet_spec hs.le (a := (T (rep i)).toNat) (b := (nd U i).ty.toNat) ht
  rw [hm] at m1 m2 m3
  have m2' : sub l m (T (rep i)).toNat = true ∧ sub l m (nd U i).ty.toNat = true := by simpa [comm] using m2
  obtain ⟨v, hvi, hvr⟩ := (h.seen (rep i)).1 hn
  refine ⟨fun c => ?_, fun c hc => ?_, fun u hu => ?_, fun c θ hct hθ hj u hu => ?_, h.srt, h.val, h.lc1, h.lc2⟩
  · rw [h.seen c]
    exact ⟨fun ⟨u, hu, hr⟩ => ⟨u, by omega, hr⟩, fun ⟨u, hu, hr⟩ => by
      by_cases e : u = i
      · exact ⟨v, hvi, by rw [hvr, ← e]; exact hr⟩
      · exact ⟨u, by omega, hr⟩⟩
  · (try dsimp only)
    split
    · omega
    · exact h.ty c hc
  · (try dsimp only)
    by_cases e : rep u = rep i
    · rw [if_pos e, Int.toNat_natCast]
      by_cases e2 : u = i
      · rw [e2]; exact m2'.2
      · have := h.cov u om
        rw [e] at this
        exact sub_tr hs.vt m2'.1 this
    · rw [if_neg e]
      exact h.cov u (by
        have : u ≠ i := fun e2 => e (by rw [e2])
        omega)
  · (try dsimp only)
    by_cases e : rep u = rep i
    · rw [if_pos e, e, Int.toNat_natCast]
      have s1 := h.low c θ hct hθ hj v hvi
      rw [hvr] at s1
      have s2 := hθ.ty i hi
      rw [hc.only c θ hθ hj i hi] at s2
      have hl := hθ.lt _ (hc.lt i hi)
      have := hct _ hl
      exact m3 _ om (by simp [comm, s1, s2])
    · rw [if_neg e]
      exact h.low c θ hct hθ hj u (by
        have : u ≠ i := fun e2 => e (by rw [e2])
        omega)
theorem MJ.fail (hs : Sound l) (hc : CS l U J k rep) (h : MJ l U J rep seen T L i i 0) (hi : i < U.length) (hty : 0 ≤ (nd U i).ty ∧ (nd U i).ty < l.length) (hn : seen (rep i) = true) (hm : (Go.Proofs.YteoncmfiiknfbaaDoor.meet l (T (rep i)).toNat (nd U i).ty.toNat).2.1 = false) : ¬ Bound l U J := by
  rintro ⟨c, θ, hct, hθ, hj⟩
  obtain ⟨v, hvi, hvr⟩ := (h.seen (rep i)).1 hn
  have s1 := h.low c θ hct hθ hj v hvi
  rw [hvr] at s1
  have s2 := hθ.ty i hi
  rw [hc.only c θ hθ hj i hi] at s2
  have hl := hθ.lt _ (hc.lt i hi)
  have h1 := hct _ hl
  have h2 := h.ty _ (hc.lt i hi)
  have := hs.all (T (rep i)).toNat (nd U i).ty.toNat (nd c (θ (rep i))).ty.toNat om om om (by simp [comm, s1, s2])
  rw [hm] at this; cases this
theorem take_ln {x : Nd} {q : Nat} (hq : q < x.ln.length) : x.ln.take (q + 1) = x.ln.take q ++ [x.ln[q]] := List.take_succ_eq_append_getElem hq
theorem MJ.old {it : Nat} (h : MJ l U J rep seen T L it i q) (hq : q < (nd U i).ln.length) (ht : 0 ≤ tgt (rpL rep (L (rep i))) ((nd U i).ln[q]).1) : MJ l U J rep seen T L it i (q + 1) :=
  ⟨h.seen, h.ty, h.cov, h.low, h.srt, h.val, h.lc1, fun x hx => by
    rw [take_ln hq] at hx
    rcases List.mem_append.1 hx with hx | hx
    · exact h.lc2 x hx
    · rw [List.mem_singleton.1 hx]; exact rpL_yes ht⟩
theorem MJ.new {it k : Nat} (h : MJ l U J rep seen T L it i q) (hi : i < U.length) (hq : q < (nd U i).ln.length) (ht : tgt (rpL rep (L (rep i))) ((nd U i).ln[q]).1 < 0) (hk : k ≤ (L (rep i)).length) (h1 : ∀ j (hj : j < (L (rep i)).length), j < k → ((L (rep i))[j]).1 < ((nd U i).ln[q]).1) (h2 : ∀ hk : k < (L (rep i)).length, ¬ ((L (rep i))[k]).1 < ((nd U i).ln[q]).1) :
    MJ l U J rep seen T (fun x => if x = rep i then insL (L (rep i)) k ((nd U i).ln[q]) else L x) it i (q + 1) := by
  have hmem : ∀ c z, z ∈ L c → z ∈ (if c = rep i then insL (L (rep i)) k ((nd U i).ln[q]) else L c) := fun c z hz => by
    split
    · rename_i e; rw [e] at hz; exact insL_mem.2 (.inr hz)
    · exact hz
  refine ⟨h.seen, h.ty, h.cov, h.low, fun c => ?_, fun c x hx => ?_, fun u hu x hx => ?_, fun x hx => ?_⟩
  · (try dsimp only)
    split
    · exact insL_srt (h.srt _) hk h1 h2 (rpL_no ht)
    · exact h.srt c
  · (try dsimp only at hx)
    split at hx
    · rename_i e
      rcases insL_mem.1 hx with hx | hx
      · exact ⟨i, hi, e.symm, by rw [hx]; exact List.getElem_mem hq⟩
      · rw [e]; exact h.val _ x hx
    · exact h.val c x hx
  · obtain ⟨t, h3⟩ := h.lc1 u hu x hx
    exact ⟨t, hmem _ _ h3⟩
  · rw [take_ln hq] at hx
    rcases List.mem_append.1 hx with hx | hx
    · obtain ⟨t, h3⟩ := h.lc2 x hx
      exact ⟨t, hmem _ _ h3⟩
    · rw [List.mem_singleton.1 hx]
      exact ⟨((nd U i).ln[q]).2, by simp only [if_true]; exact insL_mem.2 (.inl rfl)⟩
theorem MJ.next (h : MJ l U J rep seen T L (i + 1) i (nd U i).ln.length) : MJ l U J rep seen T L (i + 1) (i + 1) 0 :=
  ⟨h.seen, h.ty, h.cov, h.low, h.srt, h.val, fun u hu x hx => by
    by_cases e : u = i
    · subst e; exact h.lc2 x (by rw [List.take_length]; exact hx)
    · exact h.lc1 u om x hx, fun x hx => by simp at hx⟩
theorem MJ.us (hF : JF l U J rep) (h : MJ l U J rep seen T L U.length U.length 0) (hur : ∀ i, i < U.length → ∀ x ∈ (nd U i).ln, 0 ≤ x.2 ∧ x.2.toNat < U.length) (hJ : ∀ p ∈ J, p.1 < U.length ∧ p.2 < U.length) : US l U J rep rep (fun i => if rep i = i then 0 else 1) T L [] := by
  have hc := hF.cs
  refine ⟨⟨fun i hi hne => ?_, hc.lt, hc.lt, fun i hi => hc.id i hi, fun i hi => hc.id i hi, fun i hi h => h⟩, h.ty, fun i _ => h.srt i, (fun w hw => by cases hw), fun c θ hct hθ hj => ⟨⟨hc.only c θ hθ hj, fun w hw => by cases hw⟩, fun i hi hr => ?_⟩, h.cov, fun i hi x hx => ?_, fun p hp κ hκ => ?_, fun i _ _ x hx => h.val i x hx, hur⟩
  · rw [if_neg hne, if_pos (hc.id i hi)]; exact Nat.zero_lt_one
  · have := h.low c θ hct hθ hj i hi
    rwa [hr] at this
  · obtain ⟨t, ht⟩ := h.lc1 i hi x hx
    refine ⟨t, ht, fun κ hκ => ?_⟩
    obtain ⟨u, hu, hur2, hum⟩ := h.val _ _ ht
    have e := hF.clo i u hi hu hur2.symm x hx _ hum rfl
    rw [hκ.1 _ (hur i hi x hx).2, hκ.1 _ (hur u hu _ hum).2, e]
  · have e := hc.jc p (by rw [List.take_length]; exact hp)
    have := hJ p hp
    rw [hκ.1 _ this.1, hκ.1 _ this.2, e]
end join
end Go.Proofs.YteoncmfiiknfbaaDoor
namespace Go.Proofs.YteoncmfiiknfbaaDoor
open Go.RowKit
def cmpI (a b : Int) : Int := if a < b then -1 else if b < a then 1 else 0
theorem cmpI_lt {a b : Int} : cmpI a b < 0 ↔ a < b := by unfold cmpI; split <;> (try split) <;> omega
theorem cmpI_eq {a b : Int} : cmpI a b = 0 ↔ a = b := by unfold cmpI; split <;> (try split) <;> omega
theorem fn60 : callable Tryd.prog 60 = true := by kernel_rfl
theorem fn70 : callable Tryd.prog 70 = true := by kernel_rfl
theorem sz3_GSearch : (Tryd.prog.info? 3).map (·.size) = some 1 := by kernel_rfl
theorem sz74_GSearch : (Tryd.prog.info? 74).map (·.size) = some 2 := by kernel_rfl
theorem nan_any (a : Int) (w : World) : Calls Tryd.prog 70 #[.int .i64 a] w fun e w' => e = .returned (.bool false) ∧ Bel w w' := by
 refine enter Tryd.func70 Tryd.ntmps70 rfl (Nat.le_of_ble_eq_true rfl) ?_
 have hB : Bel w w := Below.refl _ _
 refine c_seq (c_region (waB rfl (x_nil (e_S (c_seq ?_)))))
 refine c_region (wmI rfl (wmI rfl (wl (r_neq rfl rfl) (waB rfl (x_nil ?_)))))
 refine e_S (c_ret (fin1 (.inl rfl) rfl rfl ?_))
 exact ⟨ret_bool (decide_eq_false (fun h => h rfl)).symm, hB⟩
theorem compare_any (a b : Int) (w : World) : Calls Tryd.prog 60 #[.int .i64 a, .int .i64 b] w fun e w' => e = .returned (.int .i64 (cmpI a b)) ∧ Bel w w' := by
 refine enter Tryd.func60 Tryd.ntmps60 rfl (Nat.le_of_ble_eq_true rfl) ?_
 have hB : Bel w w := Below.refl _ _
 refine c_seq (c_region (waI rfl (x_nil (e_S (c_seq ?_)))))
 refine c_region (wmI rfl ?_)
 refine wl_cl fn70 (nan_any _ _) rfl (fun e' w1 hr => ?_)
 obtain ⟨rfl, hs⟩ := hr
 replace hs := Same.of_bel hs
 replace hB := hB.tr0 hs
 clear hs
 refine ⟨_, rfl, ?_⟩
 refine waB rfl (x_nil (e_S (c_seq (c_region (wmI rfl ?_)))))
 refine wl_cl fn70 (nan_any _ _) rfl (fun e' w2 hr => ?_)
 obtain ⟨rfl, hs⟩ := hr
 replace hs := Same.of_bel hs
 replace hB := hB.tr0 hs
 clear hs
 refine ⟨_, rfl, ?_⟩
 refine waB rfl (x_nil (e_S (c_seq (c_seq (c_region ?_)))))
 refine wmB rfl (x_nil (e_S ?_))
 refine c_if rfl (fun c11 => ?_) (fun c11 => ?_)
 ·
  exact absurd c11 dE
 refine c_skip (e_S (c_seq (c_seq (c_region (wmB rfl ?_)))))
 refine x_nil (e_S ?_)
 refine c_if rfl (fun c13 => ?_) (fun c13 => ?_)
 ·
  exact absurd c13 dE
 refine c_skip (e_S (c_seq (c_seq (c_region (wmI rfl ?_)))))
 refine wmI rfl (wl (r_lss rfl rfl) (x_nil (e_S ?_)))
 refine c_ifd rfl (fun c16 => ?_) (fun c16 => ?_)
 ·
  refine c_seq (c_region (waI rfl (x_nil (e_S (c_ret ?_)))))
  refine e_Sr (fin1 (.inl rfl) rfl rfl ?_)
  exact ⟨ret_int (by unfold cmpI; rw [if_pos c16]), hB⟩
 refine c_skip (e_S (c_seq (c_seq (c_region (wmI rfl ?_)))))
 refine wmI rfl (wl (r_gtr rfl rfl) (x_nil (e_S ?_)))
 refine c_ifd rfl (fun c19 => ?_) (fun c19 => ?_)
 ·
  refine c_seq (c_region (waI rfl (x_nil (e_S (c_ret ?_)))))
  refine e_Sr (fin1 (.inl rfl) rfl rfl ?_)
  exact ⟨ret_int (by unfold cmpI; rw [if_neg c16]; exact if_pos c19), hB⟩
 refine c_skip (e_S (c_seq (c_region (waI rfl (x_nil ?_)))))
 refine e_S (c_ret (fin1 (.inl rfl) rfl rfl ?_))
 exact ⟨ret_int (by unfold cmpI; rw [if_neg c16]; exact if_neg c19), hB⟩
end Go.Proofs.YteoncmfiiknfbaaDoor
namespace Go.Proofs.YteoncmfiiknfbaaDoor
open Go.RowKit
theorem sz26_GTgt : (Tryd.prog.info? 26).map (·.size) = some 1 := by kernel_rfl
theorem sz28_GTgt : (Tryd.prog.info? 28).map (·.size) = some 1 := by kernel_rfl
theorem sz53_GTgt : (Tryd.prog.info? 53).map (·.size) = some 1 := by kernel_rfl
theorem sz55_GTgt : (Tryd.prog.info? 55).map (·.size) = some 2 := by kernel_rfl
theorem ze28_GTgt : (Tryd.prog.info? 28).map (·.zero) = some (some (.agg #[.slice none 0 0])) := by kernel_rfl
theorem ze55_GTgt : (Tryd.prog.info? 55).map (·.zero) = some (some (.agg #[.int .i64 0, .slice none 0 0])) := by kernel_rfl
theorem ze74_GTgt : (Tryd.prog.info? 74).map (·.zero) = some (some (.agg #[.int .i64 0, .int .i64 0])) := by kernel_rfl
theorem rtarget_any (G : Option Addr) (cg : Nat) (gr : List Nd) (i : Nat) (f : Int) (w : World) (hG : NodesIn w G gr) (hi : i < gr.length) : Calls Tryd.prog 48 #[.agg #[.slice G gr.length cg], .int .i64 i, .int .i64 f] w fun e w' => e = .returned (.int .i64 (tgt (gr[i]'hi).ln f)) ∧ Bel w w' := by
 obtain ⟨nb, no, LA, lc, rfl, hnb, hnr, hln⟩ := hG.at_ (Below.refl _ _ : Bel w w) hi
 have hmx := hln.1
 unfold maxI at hmx
 refine enter Tryd.func48 Tryd.ntmps48 rfl (Nat.le_of_ble_eq_true rfl) ?_
 have hB : Bel w w := Below.refl _ _
 refine c_seq (c_region ?_)
 refine wl_bx (v := .agg #[_]) (cs := #[_]) rfl rfl (fun b3 w1 hb3 hs hr => ?_)
 have lo3 := lT (Bel.size hB) hr
 replace hB := hB.tr0 hs
 clear hs
 clear hr
 refine waI rfl (x_nil (e_S (c_seq (c_seq (c_region ?_)))))
 refine wl (r_fa U28 sz26_GTgt dE rfl rfl rfl) (wl (r_ld1 (v := .slice _ _ _) U26 rfl rfl (hb3.cell rfl)) (wmI rfl (wl (r_ia (i := i) U26 sz55_GTgt rfl rfl hi rfl) (wl (r_fa U55 sz53_GTgt dE rfl rfl rfl) (wl (r_ld1 (v := .slice _ _ _) U53 rfl rfl (hB.cell hnb (hnr 1 _ rfl))) ?_)))))
 refine wl (r_len U53 rfl) (wmI rfl (x_nil (e_S (c_block ?_))))
 refine c_loopS [6, 8, 16, 17, 18, 19, 20, 21, 22, 23, 24, 25, 26] (fun m g w' => ∃ k : Nat, k ≤ (gr[i]'hi).ln.length ∧ m = (gr[i]'hi).ln.length - k ∧ g 16 = .int .i64 k ∧ Bel w w' ∧ (∀ j (hj : j < (gr[i]'hi).ln.length), j < k → ¬ ((gr[i]'hi).ln[j]).1 = f)) ((gr[i]'hi).ln.length) ?_ (fun m g2 w2 hI => ?_)
 ·
  exact ⟨0, Nat.zero_le _, rfl, rfl, hB, fun j _ h => by omega⟩
 obtain ⟨k, hk, hm, h16, hB, hno⟩ := hI
 refine c_know 16 (.int .i64 k) h16 nu (c_seq (c_region (wl (r_lss rfl rfl) (x_nil (e_S ?_)))))
 refine c_seq ?_
 refine c_ifd rfl (fun c17 => ?_) (fun c17 => ?_)
 ·
  have hkl : k < (gr[i]'hi).ln.length := by omega
  obtain ⟨lb, lof, rfl, hlb, hlr⟩ := hln.at_ hB hkl
  refine c_skip (e_S (c_seq (c_block (c_seq (c_region ?_)))))
  refine wl (r_ia (i := k) U53 sz74_GSearch rfl rfl om rfl) (wl (r_ldS U74 rfl rfl hlr sz74_GSearch) ?_)
  refine wl_al (cs := #[.int .i64 0, .int .i64 0]) ze74_GTgt rfl (fun b8 w3 hb8 hs hr => ?_)
  have lo8 := lT (Bel.size hB) hr
  replace hB := hB.tr0 hs
  clear hs
  clear hr
  refine wl_stW hb8 rfl rfl sz74_GSearch rfl oneA (fun w4 hq hs => ?_)
  replace hB := hB.tr1 hs lo8
  clear hs
  replace hb8 := hq
  refine x_nil (e_S (c_seq (c_region (wl (r_fa U74 sz3_GSearch dE rfl rfl rfl) (wl (r_ld1 (v := .int _ _) U3 rfl rfl (hb8.cell rfl)) ?_)))))
  refine wmI rfl (wl (r_eql rfl rfl) (x_nil (e_S ?_)))
  refine c_ifd rfl (fun c23 => ?_) (fun c23 => ?_)
  ·
   refine c_seq (c_region (wl (r_fa U74 sz3_GSearch dE rfl rfl rfl) (wl (r_ld1 (v := .int _ _) U3 rfl rfl (hb8.cell rfl)) (waI rfl (x_nil ?_)))))
   refine e_S (c_ret (e_Br (e_Sr (e_LSr (e_Br ?_)))))
   refine e_Sr (fin1 (.inl rfl) rfl rfl ?_)
   exact ⟨ret_int (tgt_at hkl c23 (fun j hj h => hno j hj h)), hB⟩
  refine c_skip (e_B (e_S (c_region (wl (r_add rfl rfl rfl om) (wmI rfl ?_)))))
  refine x_nil (e_LS ((gr[i]'hi).ln.length - (k + 1)) om agA ?_)
  exact ⟨k + 1, by omega, rfl, rfl, hB, fun j hj h => by
    by_cases e : j = k
    · subst e; exact c23
    · exact hno j hj om⟩
 have hall : tgt (gr[i]'hi).ln f = -1 := tgt_no (fun j hj => hno j hj om)
 refine c_exit (e_Sx (e_LSx (e_Bx (e_S (c_seq ?_)))))
 refine c_region (waI rfl (x_nil (e_S (c_ret (fin1 (.inl rfl) rfl rfl ?_)))))
 exact ⟨ret_int hall, hB⟩
theorem single_any (t : Int) (w : World) : Calls Tryd.prog 17 #[.int .i64 t] w fun e w' => (∃ A, e = .returned (.agg #[.slice A 1 1]) ∧ NodesIn w' A [⟨t, []⟩]) ∧ Bel w w' := by
 refine enter Tryd.func17 Tryd.ntmps17 rfl (Nat.le_of_ble_eq_true rfl) ?_
 have hB : Bel w w := Below.refl _ _
 refine c_seq (c_region ?_)
 refine wl_al (cs := #[.slice none 0 0]) ze28_GTgt rfl (fun b2 w1 hb2 hs hr => ?_)
 have lo2 := lT (Bel.size hB) hr
 replace hB := hB.tr0 hs
 clear hs
 clear hr
 refine x_nil (e_S (c_seq (c_region (wmI rfl (wl (r_bd1 (v0 := .int _ _) (fun v0 => #[v0, .slice none 0 0]) rfl kR) ?_)))))
 refine wl_bs (cs := #[_, _]) [(0, .agg _)] rfl U26 sz55_GTgt ze55_GTgt dE dE kR rfl (fun b5 w2 hb5 hs hr => ?_)
 have or_b2_b5 : b2 < b5 := lL hb2.lt hr
 have lo5 := lT (Bel.size hB) hr
 replace hB := hB.tr0 hs
 replace hb2 := hb2.tr0 hs
 clear hs
 clear hr
 refine wl (r_bd1 (v0 := .slice _ _ _) (fun v0 => #[v0]) rfl kR) ?_
 refine wl_stW hb2 rfl rfl sz28_GTgt rfl oneA (fun w3 hq hs => ?_)
 replace hB := hB.tr1 hs lo2
 replace hb5 := hb5.tr1 hs om
 clear hs
 replace hb2 := hq
 refine x_nil (e_S (c_ret (fin1 (.inl rfl) rfl (rr_cell U28 rfl rfl hb2.range0 sz28_GTgt) ?_)))
 exact ⟨⟨_, rfl, nodes_of_blk (l := [⟨t, []⟩]) hb5 (.cons (links_nil _ _) .nil) (by simp; decide)⟩, hB⟩
end Go.Proofs.YteoncmfiiknfbaaDoor
namespace Go.Proofs.YteoncmfiiknfbaaDoor
open Go.RowKit
theorem fn15_SFind : callable Tryd.prog 15 = true := by kernel_rfl
theorem in3_SFind : (Tryd.prog.info? 3).map (fun i => (i.zero, i.size, i.bytes)) = some (some (.int .i64 0), 1, 8) := by kernel_rfl
theorem sz22_SFind : (Tryd.prog.info? 22).map (·.size) = some 1 := by kernel_rfl
theorem sz25_SFind : (Tryd.prog.info? 25).map (·.size) = some 2 := by kernel_rfl
theorem sz30_SFind : (Tryd.prog.info? 30).map (·.size) = some 2 := by kernel_rfl
theorem sz60_SFind : (Tryd.prog.info? 60).map (·.size) = some 2 := by kernel_rfl
theorem ze3_SFind : (Tryd.prog.info? 3).map (·.zero) = some (some (.int .i64 0)) := by kernel_rfl
theorem ze30_SFind : (Tryd.prog.info? 30).map (·.zero) = some (some (.agg #[.int .i64 0, .int .i64 0])) := by kernel_rfl
end Go.Proofs.YteoncmfiiknfbaaDoor
namespace Go.Proofs.YteoncmfiiknfbaaDoor
open Go.RowKit
theorem Own.rowq {w : World} {base q m cap : Nat} {e : TypeId} {g : Nat → Value} (h : Own w base e 1 (some ⟨q, 0, none⟩) m cap (rowL m g)) {j : Nat} (hj : j < m) : w.cell? ⟨q, 0 + j * 1, none⟩ = some (g j) := by
  obtain ⟨q', h1, _, _, h2⟩ := h.rowc hj
  cases h1; exact h2
def vN (P : Nat → Nat) (x : Nat) : Value := .int .i64 ((P x : Nat) : Int)
def vI (T : Nat → Int) (x : Nat) : Value := .int .i64 (T x)
theorem lnV_len (xs : List (Int × Int)) : (lnV xs).length = xs.length * 2 := by
  induction xs with
  | nil => rfl
  | cons x xs ih => rw [show lnV (x :: xs) = [Value.int .i64 x.1, Value.int .i64 x.2] ++ lnV xs from rfl, List.length_append, ih]; simp; omega
theorem lnV_one (xs : List (Int × Int)) : (lnV xs).all (·.oneCell') = true := by
  induction xs with
  | nil => rfl
  | cons x xs ih => rw [show lnV (x :: xs) = [Value.int .i64 x.1, Value.int .i64 x.2] ++ lnV xs from rfl, List.all_append, ih]; rfl
theorem lnV_app (xs ys : List (Int × Int)) : lnV (xs ++ ys) = lnV xs ++ lnV ys := by simp [lnV]
theorem lnV_take (xs : List (Int × Int)) (k : Nat) : (lnV xs).take (k * 2) = lnV (xs.take k) := by
  induction xs generalizing k with
  | nil => simp [lnV]
  | cons x xs ih =>
    cases k with
    | zero => simp [lnV]
    | succ k =>
      rw [show (k + 1) * 2 = k * 2 + 1 + 1 from by omega, show lnV (x :: xs) = Value.int .i64 x.1 :: Value.int .i64 x.2 :: lnV xs from rfl, List.take_succ_cons, List.take_succ_cons, ih]
      rfl
theorem LinksIn.news {w : World} {A : Option Addr} {xs : List (Int × Int)} (h : LinksIn w A xs) : 0 < xs.length → ∃ b o', A = some ⟨b, o', none⟩ ∧ ∀ j u, (lnV xs)[j]? = some u → w.cell? ⟨b, o' + j, none⟩ = some u := fun hm => by
  obtain ⟨b, o, rfl, _, hc⟩ := h.2 (fun e => by rw [e] at hm; simp at hm)
  refine ⟨b, o, rfl, fun j u hu => ?_⟩
  have hj : j < xs.length * 2 := by
    have := (List.getElem?_eq_some_iff.1 hu).1
    rwa [lnV_len] at this
  have hk : j / 2 < xs.length := by omega
  have h2 := lnV_get xs (j / 2) hk
  have h3 := hc (j / 2) hk
  rcases Nat.mod_two_eq_zero_or_one j with e | e
  · have e2 : j = j / 2 * 2 := by omega
    rw [e2] at hu
    rw [h2.1] at hu
    cases hu
    have := h3 0 (.int .i64 (xs[j / 2]).1) rfl
    rw [show o + j = o + j / 2 * 2 + 0 by omega]; exact this
  · have e2 : j = j / 2 * 2 + 1 := by omega
    rw [e2] at hu
    rw [h2.2] at hu
    cases hu
    have := h3 1 (.int .i64 (xs[j / 2]).2) rfl
    rw [show o + j = o + j / 2 * 2 + 1 by omega]; exact this
def Suf (w : World) (lo bs : Nat) (v : Value) (xs : List (Int × Int)) : Prop := ∃ (A0 : Option Addr) (c0 k : Nat) (ys : List (Int × Int)) (A : Option Addr), RowO w lo bs (.slice A0 ys.length c0) ys ∧ k ≤ ys.length ∧ xs = ys.drop k ∧ v = .slice A xs.length (c0 - k) ∧ (xs ≠ [] → ∃ g, A0 = some ⟨g, 0, none⟩ ∧ A = some ⟨g, k * 2, none⟩)
theorem Suf.tr {w w' : World} {lo bs : Nat} {v : Value} {xs : List (Int × Int)} {X : List Nat} (h : Suf w lo bs v xs) (hs : Same X w w') (hx : ∀ g ∈ X, bs ≤ g ∨ ∃ cs t, Blk w g t cs ∧ t ≠ 74) : Suf w' lo bs v xs := by
  obtain ⟨A0, c0, k, ys, A, h1, h2⟩ := h
  exact ⟨A0, c0, k, ys, A, h1.tr hs hx, h2⟩
theorem RowO.own {w : World} {lo bs : Nat} {A : Option Addr} {n c : Nat} {xs : List (Int × Int)} (h : RowO w lo bs (.slice A n c) xs) : n = xs.length ∧ Own w lo 74 2 A xs.length c (lnV xs) ∧ ∀ g ∈ aL A, g < bs := by
  obtain ⟨A', c', e, h1, h2⟩ := h
  cases e; exact ⟨rfl, h1, h2⟩
theorem Suf.of {w : World} {lo bs : Nat} {v : Value} {xs : List (Int × Int)} (h : RowO w lo bs v xs) : Suf w lo bs v xs := by
  obtain ⟨A, c, rfl, h1, h2⟩ := h
  refine ⟨A, c, 0, xs, A, ⟨A, c, rfl, h1, h2⟩, Nat.zero_le _, rfl, rfl, fun hne => ?_⟩
  obtain ⟨g, hg, _⟩ := h1.cell (fun e => hne (by have := congrArg List.length e; rw [lnV_len] at this; exact List.length_eq_zero_iff.1 (by simp at this; omega)))
  exact ⟨g, hg, by rw [hg, Nat.zero_mul]⟩
structure SufC (w : World) (lo bs : Nat) (A : Option Addr) (n c : Nat) (x : Int × Int) (xs : List (Int × Int)) : Prop where
  len : n = xs.length + 1
  at_ : ∃ g o, A = some ⟨g, o, none⟩ ∧ g < w.heap.size ∧ w.rangeAt g o [.int .i64 x.1, .int .i64 x.2]
  next : Suf w lo bs (.slice (if c = 1 then A else A.map (·.add (1 * 2))) (n - 1) (c - 1)) xs
theorem Suf.slice {w : World} {lo bs : Nat} {v : Value} {xs : List (Int × Int)} (h : Suf w lo bs v xs) : ∃ A c, v = .slice A xs.length c := by
  obtain ⟨A0, c0, k, ys, A, h1, h2, h3, h4, h5⟩ := h
  exact ⟨A, c0 - k, h4⟩
theorem Suf.cons {w : World} {lo bs n c : Nat} {A : Option Addr} {x : Int × Int} {xs : List (Int × Int)} (h : Suf w lo bs (.slice A n c) (x :: xs)) : SufC w lo bs A n c x xs := by
  obtain ⟨A0, c0, k, ys, A', h1, h2, h3, h4, h5⟩ := h
  obtain ⟨g, e0, e1⟩ := h5 (by simp)
  cases h4
  subst e0
  obtain ⟨_, ho, hb⟩ := h1.own
  have hcl := ho.cap_le
  have hk : k < ys.length := by
    have := congrArg List.length h3
    simp at this; omega
  have hx : ys[k] = x := by
    have h6 : (ys.drop k)[0]? = some x := by rw [← h3]; rfl
    rw [List.getElem?_drop, Nat.add_zero, List.getElem?_eq_getElem hk] at h6
    exact Option.some.inj h6
  have hxs : xs = ys.drop (k + 1) := by
    have : (x :: xs).tail = (ys.drop k).tail := by rw [h3]
    simpa [List.tail_drop] using this
  obtain ⟨q, e2, _, hql, hqc⟩ := ho.cell (fun e => by have := congrArg List.length e; rw [lnV_len] at this; simp at this; omega)
  cases e2
  have h7 := lnV_get ys k hk
  rw [hx] at h7
  refine ⟨by simp, ⟨g, k * 2, e1, hql, fun j v hj => ?_⟩, ?_⟩
  · match j, hj with
    | 0, hj => cases hj; exact hqc _ _ h7.1
    | 1, hj => cases hj; exact hqc _ _ h7.2
    | _ + 2, hj => cases hj
  · subst e1
    refine ⟨some ⟨g, 0, none⟩, c0, k + 1, ys, (if c0 - k = 1 then some (⟨g, k * 2, none⟩ : Addr) else Option.map (fun z : Addr => z.add (1 * 2)) (some (⟨g, k * 2, none⟩ : Addr))), h1, by omega, hxs, ?_, fun hne => ⟨g, rfl, ?_⟩⟩
    · rw [show (x :: xs).length - 1 = xs.length by simp, show c0 - k - 1 = c0 - (k + 1) by omega]
    · have hl : 0 < xs.length := List.length_pos_iff.2 hne
      have : xs.length = ys.length - (k + 1) := by rw [hxs]; simp
      rw [if_neg om]
      show some ((⟨g, k * 2, none⟩ : Addr).add (1 * 2)) = _
      rw [Addr.add_mid, show k * 2 + 1 * 2 = (k + 1) * 2 by omega]
theorem Suf.links {w : World} {lo bs n c : Nat} {A : Option Addr} {xs : List (Int × Int)} (h : Suf w lo bs (.slice A n c) xs) : n = xs.length ∧ LinksIn w A xs := by
  obtain ⟨A0, c0, k, ys, A', h1, h2, h3, h4, h5⟩ := h
  cases h4
  obtain ⟨_, ho, hb⟩ := h1.own
  have hm := ho.max
  have hl : xs.length = ys.length - k := by rw [h3]; simp
  refine ⟨rfl, by unfold maxI; omega, fun hne => ?_⟩
  obtain ⟨g, e0, e1⟩ := h5 hne
  subst e0
  have hp : 0 < xs.length := List.length_pos_iff.2 hne
  obtain ⟨q, e2, _, hql, hqc⟩ := ho.cell (fun e => by have := congrArg List.length e; rw [lnV_len] at this; simp at this; omega)
  cases e2
  refine ⟨g, k * 2, e1, hql, fun j hj i v hi => ?_⟩
  have hjk : k + j < ys.length := by omega
  have h7 := lnV_get ys (k + j) hjk
  have hx : xs[j] = ys[k + j] := by simp only [h3, List.getElem_drop]
  rw [hx] at hi
  match i, hi with
  | 0, hi => cases hi; rw [show k * 2 + j * 2 + 0 = (k + j) * 2 by omega]; exact hqc _ _ h7.1
  | 1, hi => cases hi; rw [show k * 2 + j * 2 + 1 = (k + j) * 2 + 1 by omega]; exact hqc _ _ h7.2
  | _ + 2, hi => cases hi
theorem RowO.links {w : World} {lo bs n c : Nat} {A : Option Addr} {xs : List (Int × Int)} (h : RowO w lo bs (.slice A n c) xs) : n = xs.length ∧ LinksIn w A xs := (Suf.of h).links
def LMat (w : World) (A : Option Addr) (L : List (List (Int × Int))) : Prop := L.length ≤ maxI ∧ (L ≠ [] → ∃ b o, A = some ⟨b, o, none⟩ ∧ b < w.heap.size ∧ ∀ k (hk : k < L.length), ∃ A' c', w.cell? ⟨b, o + k * 1, none⟩ = some (.slice A' (L[k]).length c') ∧ LinksIn w A' L[k])
theorem lmat_three {w : World} {b t : Nat} {A1 A2 A3 : Option Addr} {c1 c2 c3 : Nat} {p q r : List (Int × Int)} (h : Blk w b t #[.slice A1 p.length c1, .slice A2 q.length c2, .slice A3 r.length c3]) (h1 : LinksIn w A1 p) (h2 : LinksIn w A2 q) (h3 : LinksIn w A3 r) : LMat w (some ⟨b, 0, none⟩) [p, q, r] :=
  ⟨by simp [maxI], fun _ => ⟨b, 0, rfl, h.lt, fun k hk => by
    match k, hk with
    | 0, _ => exact ⟨A1, c1, h.cell rfl, h1⟩
    | 1, _ => exact ⟨A2, c2, h.cell rfl, h2⟩
    | 2, _ => exact ⟨A3, c3, h.cell rfl, h3⟩⟩⟩
theorem LMat.mono {w w' : World} {A : Option Addr} {L : List (List (Int × Int))} (h : LMat w A L) (hb : Bel w w') : LMat w' A L :=
  ⟨h.1, fun hne => by
    obtain ⟨b, o, h1, h2, h3⟩ := h.2 hne
    refine ⟨b, o, h1, lL h2 hb.size, fun k hk => ?_⟩
    obtain ⟨A', c', h4, h5⟩ := h3 k hk
    exact ⟨A', c', hb.cell h2 h4, h5.mono hb⟩⟩
theorem LMat.at_ {w w' : World} {A : Option Addr} {L : List (List (Int × Int))} (h : LMat w A L) (hb : Bel w w') {k : Nat} (hk : k < L.length) : ∃ b o A' c', A = some ⟨b, o, none⟩ ∧ w'.cell? ⟨b, o + k * 1, none⟩ = some (.slice A' (L[k]).length c') ∧ LinksIn w' A' L[k] := by
  obtain ⟨b, o, h1, h2, h3⟩ := h.2 (fun e => by rw [e] at hk; exact absurd hk (Nat.not_lt_zero _))
  obtain ⟨A', c', h4, h5⟩ := h3 k hk
  exact ⟨b, o, A', c', h1, hb.cell h2 h4, h5.mono hb⟩
def sumM (L : List (List (Int × Int))) (k : Nat) : Nat := (L.take k).flatten.length
theorem flatM_succ {L : List (List (Int × Int))} {k : Nat} (hk : k < L.length) : (L.take (k + 1)).flatten = (L.take k).flatten ++ L[k] := by
  rw [List.take_succ_eq_append_getElem hk, List.flatten_append]; simp
theorem sumM_succ {L : List (List (Int × Int))} {k : Nat} (hk : k < L.length) : sumM L (k + 1) = sumM L k + (L[k]).length := by
  unfold sumM; rw [flatM_succ hk, List.length_append]
theorem sumM_le (L : List (List (Int × Int))) (k : Nat) : sumM L k ≤ L.flatten.length := by
  unfold sumM
  have h : L.flatten = (L.take k).flatten ++ (L.drop k).flatten := by rw [← List.flatten_append, List.take_append_drop]
  rw [h, List.length_append]; omega
theorem sumM_all {L : List (List (Int × Int))} {k : Nat} (h : L.length ≤ k) : (L.take k).flatten = L.flatten := by rw [List.take_of_length_le h]
end Go.Proofs.YteoncmfiiknfbaaDoor
