/- Generalization as the greatest bound: the graph of the pairs of nodes, and what maps to it. No program in sight. What these functions of the program compute, at every world: cmp.isNaN[int], cmp.Compare[int], glosswright/graph.Target$1, slices.BinarySearchFunc[[]glosswright/api.Link,glosswright/api.Link,int]. What these functions of the program compute, at every world: glosswright/graph.Target. -/
import Derived.Test.YteenmolhopbpeaaDoorOrd
import Derived.Test.YteenmolhopbpeaaDoorU
import Derived.Test.YteenmolhopbpeaaDoorComp
namespace Go.Proofs.YteenmolhopbpeaaDoor
open Go.RowKit
theorem top_of {l : List Ty} (h : (typesFault l).1 = 0) : ∀ (n i : Nat), i ≤ n → i < l.length → sub l i 0 = true
  | n, i, hin, hi => by
    have hv := vt_of h
    by_cases e : i = 0
    · subst e; exact sub_refl hv 0
    · have ht := (tyFault_ok hi (types_ok h hi)).2.2.1
      have hne : (l[i]).par ≠ [] := fun hp => by rw [hp] at ht; simp [e] at ht
      obtain ⟨p, hp⟩ := List.exists_mem_of_ne_nil _ hne
      have hpr := hv i hi p hp
      cases n with
      | zero => omega
      | succ n =>
        have := top_of h n p.toNat om om
        exact sub_tr hv (sub_par hv hi hp) this
theorem join_mem {l : List Ty} {a b : Nat} {z : Int} : z ∈ joinsK l a b l.length ↔ ∃ n : Nat, z = (n : Int) ∧ n < l.length ∧ joinB l a b n = true := by
  simp only [joinsK, List.mem_map, List.mem_filter, List.mem_range]
  constructor
  · rintro ⟨n, ⟨h1, h2⟩, rfl⟩; exact ⟨n, rfl, h1, h2⟩
  · rintro ⟨n, rfl, h1, h2⟩; exact ⟨n, ⟨h1, h2⟩, rfl⟩
theorem join_below {l : List Ty} (hv : VT l) {a b : Nat} : ∀ (d c : Nat), l.length - c ≤ d → c < l.length → capB l a b c = true → ∃ m, m < l.length ∧ joinB l a b m = true ∧ sub l m c = true
  | d, c, hd, hc, hcap => by
    by_cases hj : joinB l a b c = true
    · exact ⟨c, hc, hj, sub_refl hv c⟩
    · have : ¬ ∀ j, j < l.length → j ≠ c → sub l j c = true → capB l a b j = false := fun h => hj (joinB_iff.2 ⟨hcap, h⟩)
      have ⟨j, h1, h2, h3, h4⟩ : ∃ j, j < l.length ∧ j ≠ c ∧ sub l j c = true ∧ ¬ capB l a b j = false := by
        refine Classical.byContradiction (fun hn => this (fun j h1 h2 h3 => ?_))
        exact Classical.byContradiction (fun h4 => hn ⟨j, h1, h2, h3, h4⟩)
      have hle := sub_le' hv h3
      cases d with
      | zero => omega
      | succ d =>
        obtain ⟨m, m1, m2, m3⟩ := join_below hv d j om h1 (by simpa using h4)
        exact ⟨m, m1, m2, sub_tr hv m3 h3⟩
theorem join_pos {l : List Ty} (h : (typesFault l).1 = 0) {a b : Nat} (ha : a < l.length) (hb : b < l.length) : 0 < (joinsK l a b l.length).length := by
  have hc : capB l a b 0 = true := by simp [capB, top_of h a a (Nat.le_refl _) ha, top_of h b b (Nat.le_refl _) hb]
  obtain ⟨m, m1, m2, _⟩ := join_below (vt_of h) _ 0 (Nat.le_refl _) om hc
  exact List.length_pos_of_mem (join_mem.2 ⟨m, rfl, m1, m2⟩)
def jnV (l : List Ty) (a b : Nat) : Int := (joinsK l a b l.length).headD 0
def jok (l : List Ty) (a b : Nat) : Bool := decide ((joinsK l a b l.length).length = 1)
theorem jn_one {l : List Ty} {a b : Nat} (h : jok l a b = true) : joinsK l a b l.length = [jnV l a b] := by
  simp only [jok, decide_eq_true_eq] at h
  unfold jnV
  match hj : joinsK l a b l.length, h with
  | [z], _ => rfl
theorem jn_lt {l : List Ty} (h : 0 < l.length) (a b : Nat) : 0 ≤ jnV l a b ∧ jnV l a b < l.length := by
  unfold jnV
  match hj : joinsK l a b l.length with
  | [] => exact ⟨Int.le_refl _, by show (0 : Int) < _; omega⟩
  | z :: zs =>
    obtain ⟨n, e, h1, _⟩ := join_mem.1 (show z ∈ joinsK l a b l.length by rw [hj]; exact List.mem_cons_self ..)
    show 0 ≤ z ∧ z < _
    omega
theorem jn_cap {l : List Ty} {a b : Nat} (h : jok l a b = true) : sub l a (jnV l a b).toNat = true ∧ sub l b (jnV l a b).toNat = true := by
  obtain ⟨n, e, _, h2⟩ := join_mem.1 (show jnV l a b ∈ joinsK l a b l.length by rw [jn_one h]; exact List.mem_cons_self ..)
  have := (joinB_iff.1 h2).1
  rw [e, Int.toNat_natCast]
  simpa [capB] using this
theorem jn_least {l : List Ty} (hv : VT l) {a b c : Nat} (h : jok l a b = true) (hc : c < l.length) (h1 : sub l a c = true) (h2 : sub l b c = true) : sub l (jnV l a b).toNat c = true := by
  obtain ⟨m, m1, m2, m3⟩ := join_below hv _ c (Nat.le_refl _) hc (a := a) (b := b) (by simp [capB, h1, h2])
  have := join_mem.2 ⟨m, rfl, m1, m2⟩
  rw [jn_one h, List.mem_singleton] at this
  rw [← this, Int.toNat_natCast]; exact m3
def pLn (a b : List Nd) (i j : Nat) : List (Int × Int) := (nd a i).ln.filterMap (fun x => if tgt (nd b j).ln x.1 < 0 then none else some (x.1, ((x.2.toNat * b.length + (tgt (nd b j).ln x.1).toNat : Nat) : Int)))
def pG (l : List Ty) (a b : List Nd) : List Nd := (List.range (a.length * b.length)).map (fun z => ⟨jnV l (nd a (z / b.length)).ty.toNat (nd b (z % b.length)).ty.toNat, pLn a b (z / b.length) (z % b.length)⟩)
def pok (l : List Ty) (a b : List Nd) (z : Nat) : Bool := jok l (nd a (z / b.length)).ty.toNat (nd b (z % b.length)).ty.toNat
theorem pG_len (l : List Ty) (a b : List Nd) : (pG l a b).length = a.length * b.length := by simp [pG]
theorem pG_nd {l : List Ty} {a b : List Nd} {z : Nat} (hz : z < a.length * b.length) : nd (pG l a b) z = ⟨jnV l (nd a (z / b.length)).ty.toNat (nd b (z % b.length)).ty.toNat, pLn a b (z / b.length) (z % b.length)⟩ := by
  rw [nd_eq (by rw [pG_len]; exact hz)]; simp [pG]
theorem enc_div {nb i j : Nat} (hj : j < nb) : (i * nb + j) / nb = i ∧ (i * nb + j) % nb = j := by
  constructor
  · rw [Nat.mul_comm, Nat.mul_add_div om, Nat.div_eq_of_lt hj, Nat.add_zero]
  · rw [Nat.mul_comm, Nat.mul_add_mod, Nat.mod_eq_of_lt hj]
theorem enc_lt {na nb i j : Nat} (hi : i < na) (hj : j < nb) : i * nb + j < na * nb := by
  have := Nat.mul_le_mul_right nb (show i + 1 ≤ na from hi)
  rw [Nat.add_mul, Nat.one_mul] at this
  omega
theorem dec_lt {na nb z : Nat} (h : z < na * nb) : z / nb < na ∧ z % nb < nb := by
  have hp : 0 < nb := by
    rcases Nat.eq_zero_or_pos nb with e | e
    · subst e; simp at h
    · exact e
  exact ⟨Nat.div_lt_of_lt_mul (by rw [Nat.mul_comm]; exact h), Nat.mod_lt _ hp⟩
theorem pLn_mem {a b : List Nd} {i j : Nat} {z : Int × Int} : z ∈ pLn a b i j ↔ ∃ x ∈ (nd a i).ln, 0 ≤ tgt (nd b j).ln x.1 ∧ z = (x.1, ((x.2.toNat * b.length + (tgt (nd b j).ln x.1).toNat : Nat) : Int)) := by
  simp only [pLn, List.mem_filterMap]
  constructor
  · rintro ⟨x, hx, h⟩
    by_cases e : tgt (nd b j).ln x.1 < 0
    · rw [if_pos e] at h; cases h
    · rw [if_neg e] at h; exact ⟨x, hx, by omega, (Option.some.inj h).symm⟩
  · rintro ⟨x, hx, h1, rfl⟩
    exact ⟨x, hx, by rw [if_neg om]⟩
theorem srt_filterMap {g : Int × Int → Option (Int × Int)} (hg : ∀ x y, g x = some y → y.1 = x.1) : ∀ {xs : List (Int × Int)}, Srt xs → Srt (xs.filterMap g)
  | [], _ => List.Pairwise.nil
  | x :: xs, h => by
    obtain ⟨h1, h2⟩ := List.pairwise_cons.1 h
    have ih := srt_filterMap hg h2
    cases e : g x with
    | none => rw [List.filterMap_cons, e]; exact ih
    | some y =>
      rw [List.filterMap_cons, e]
      refine List.pairwise_cons.2 ⟨fun z hz => ?_, ih⟩
      obtain ⟨q, hq, e2⟩ := List.mem_filterMap.1 hz
      have := h1 q hq
      rw [hg x y e, hg q z e2]; exact this
section gen
variable {l : List Ty} {fs : List Ft} {a b c : List Nd}
theorem pG_gy (ha : GX l a) (hb : GX l b) (hl : 0 < l.length) : GY l (pG l a b) := by
  refine ⟨ha.vt, by rw [pG_len]; exact Nat.mul_pos ha.pos hb.pos, fun z hz => ?_, fun z hz => ?_, fun z hz x hx => ?_⟩ <;> rw [pG_len] at hz
  · rw [pG_nd hz]; exact jn_lt hl _ _
  · rw [pG_nd hz]
    refine srt_filterMap (fun x y h => ?_) (ha.srt _ (dec_lt hz).1)
    split at h
    · cases h
    · rw [← Option.some.inj h]
  · rw [pG_nd hz] at hx
    obtain ⟨y, hy, h1, rfl⟩ := pLn_mem.1 hx
    have d := dec_lt hz
    have h2 := ha.lr _ d.1 y hy
    have hm := mem_tgt h1
    have h3 := hb.lr _ d.2 _ hm
    rw [pG_len]
    simp only [Int.toNat_natCast]
    exact ⟨by omega, enc_lt h2.2 h3.2⟩
def AllOk (l : List Ty) (a b : List Nd) (o : List Nat) : Prop := ∀ z ∈ o, pok l a b z = true
variable {o : List Nat}
theorem gen_left (ha : GX l a) (hb : GX l b) (hl : 0 < l.length) (t : TrR (pG l a b) 0 o) (hok : AllOk l a b o) : Maps l (canG (pG l a b) o) a ∧ Maps l (canG (pG l a b) o) b := by
  have hgy := pG_gy ha hb hl
  have hz : o.getD 0 0 = 0 := by
    have h0 := get_idx t.has
    have hp : 0 < o.length := by have := h0.1; omega
    have := h0.2
    simp only [t.zero] at this
    simp [List.getD, hp, this]
  have hat : ∀ j, j < (canG (pG l a b) o).length → ∃ z, z ∈ o ∧ o.getD j 0 = z ∧ z < a.length * b.length ∧ nd (canG (pG l a b) o) j = trN (o.idxOf ·) (nd (pG l a b) z) := fun j hj => by
    obtain ⟨z, h1, _, h2, h3⟩ := t.at_ hj
    have := t.lt h1
    rw [pG_len] at this
    exact ⟨z, h1, h2, this, h3⟩
  have hln : ∀ j, j < (canG (pG l a b) o).length → ∀ x ∈ (nd (canG (pG l a b) o) j).ln, ∃ y ∈ (nd a (o.getD j 0 / b.length)).ln, y.1 = x.1 ∧ 0 ≤ y.2 ∧ ∃ s : Nat, tgt (nd b (o.getD j 0 % b.length)).ln x.1 = (s : Int) ∧ o.getD x.2.toNat 0 / b.length = y.2.toNat ∧ o.getD x.2.toNat 0 % b.length = s := fun j hj x hx => by
    obtain ⟨z, h1, h2, h3, h4⟩ := hat j hj
    rw [h4] at hx
    obtain ⟨q, hq, rfl⟩ := List.mem_map.1 hx
    have hqo := get_idx (t.mem h1 hq)
    have e2 : o.getD (o.idxOf q.2.toNat) 0 = q.2.toNat := by
      have := hqo.2
      simp [List.getD, hqo.1, this]
    rw [pG_nd h3] at hq
    obtain ⟨y, hy, p1, rfl⟩ := pLn_mem.1 hq
    have d := dec_lt h3
    have hm := mem_tgt p1
    have hs := hb.lr _ d.2 _ hm
    have hy2 := ha.lr _ d.1 y hy
    have e := enc_div (i := y.2.toNat) hs.2
    rw [h2]
    refine ⟨y, hy, rfl, hy2.1, (tgt (nd b (z % b.length)).ln y.1).toNat, by simp only; omega, ?_⟩
    simp only [Int.toNat_natCast] at e2 ⊢
    rw [e2]
    exact e
  constructor
  · refine ⟨fun j => o.getD j 0 / b.length, by show o.getD 0 0 / _ = 0; rw [hz]; exact Nat.zero_div _, fun j hj => ?_, fun j hj => ?_, fun j hj x hx => ?_⟩
    · obtain ⟨z, h1, h2, h3, h4⟩ := hat j hj
      rw [h2]; exact (dec_lt h3).1
    · obtain ⟨z, h1, h2, h3, h4⟩ := hat j hj
      rw [h2, h4]
      show sub l _ (nd (pG l a b) z).ty.toNat = true
      rw [pG_nd h3]
      exact (jn_cap (hok z h1)).1
    · obtain ⟨z, h1, h2, h3, h4⟩ := hat j hj
      obtain ⟨y, hy, e1, e0, s, _, e3, _⟩ := hln j hj x hx
      rw [e3, ← e1, tgt_in (ha.srt _ (by rw [h2]; exact (dec_lt h3).1)) hy]
      omega
  · refine ⟨fun j => o.getD j 0 % b.length, by show o.getD 0 0 % _ = 0; rw [hz]; exact Nat.zero_mod _, fun j hj => ?_, fun j hj => ?_, fun j hj x hx => ?_⟩
    · obtain ⟨z, h1, h2, h3, h4⟩ := hat j hj
      rw [h2]; exact (dec_lt h3).2
    · obtain ⟨z, h1, h2, h3, h4⟩ := hat j hj
      rw [h2, h4]
      show sub l _ (nd (pG l a b) z).ty.toNat = true
      rw [pG_nd h3]
      exact (jn_cap (hok z h1)).2
    · obtain ⟨y, hy, e1, e0, s, e2, _, e4⟩ := hln j hj x hx
      rw [e4]; exact e2
theorem gen_great (ha : GX l a) (hb : GX l b) (hc : GX l c) (t : TrR (pG l a b) 0 o) (hok : AllOk l a b o) (h1 : Maps l c a) (h2 : Maps l c b) (hl : 0 < l.length) : Maps l c (canG (pG l a b) o) := by
  obtain ⟨φ, hφ⟩ := h1
  obtain ⟨ψ, hψ⟩ := h2
  have hgx := t.gx (pG_gy ha hb hl)
  have hen : ∀ i, i < c.length → φ i * b.length + ψ i < a.length * b.length := fun i hi => enc_lt (hφ.lt i hi) (hψ.lt i hi)
  have hln : ∀ i, i < c.length → ∀ x ∈ (nd c i).ln, (x.1, ((φ x.2.toNat * b.length + ψ x.2.toNat : Nat) : Int)) ∈ (nd (pG l a b) (φ i * b.length + ψ i)).ln := fun i hi x hx => by
    have d := enc_div (i := φ i) (hψ.lt i hi)
    rw [pG_nd (hen i hi), d.1, d.2]
    have e1 := hφ.ln i hi x hx
    have e2 := hψ.ln i hi x hx
    have hm := mem_tgt (xs := (nd a (φ i)).ln) (f := x.1) om
    rw [e1] at hm
    exact pLn_mem.2 ⟨_, hm, by simp only [e2]; omega, by simp only [e2, Int.toNat_natCast]⟩
  have hall : ∀ i, i < c.length → φ i * b.length + ψ i ∈ o := fun i hi => by
    have := hc.rch i hi
    induction this with
    | zero => rw [hφ.zero, hψ.zero]; simpa using t.has
    | step hr hi2 hx2 ih =>
      rename_i j x
      have h3 := t.mem (ih hi2) (hln j hi2 x (by rw [nd_eq hi2]; exact hx2))
      rwa [Int.toNat_natCast] at h3
  refine ⟨fun i => o.idxOf (φ i * b.length + ψ i), ?_, fun i hi => ?_, fun i hi => ?_, fun i hi x hx => ?_⟩
  · rw [hφ.zero, hψ.zero]; simpa using t.zero
  · rw [canG_len]; exact (get_idx (hall i hi)).1
  · rw [hom_can t (hall i hi)]
    show sub l (nd (pG l a b) _).ty.toNat _ = true
    have d := enc_div (i := φ i) (hψ.lt i hi)
    have hk := hok _ (hall i hi)
    unfold pok at hk
    rw [pG_nd (hen i hi)]
    have hct := hc.tr i hi
    rw [d.1, d.2] at hk ⊢
    exact jn_least ha.vt hk om (hφ.ty i hi) (hψ.ty i hi)
  · have hb1 := get_idx (hall i hi)
    have hs := hgx.srt (o.idxOf (φ i * b.length + ψ i)) (by rw [canG_len]; exact hb1.1)
    rw [hom_can t (hall i hi)] at hs ⊢
    refine tgt_in hs (x := (x.1, ((o.idxOf (φ x.2.toNat * b.length + ψ x.2.toNat) : Nat) : Int))) (List.mem_map.2 ⟨_, hln i hi x hx, ?_⟩)
    simp only [Int.toNat_natCast]
theorem gen_valid (ha : GV l fs a) (hb : GV l fs b) (hF : ∀ f : Int, 0 ≤ f → f < fs.length → (0 ≤ (ftAt fs f).of ∧ (ftAt fs f).of < l.length) ∧ 0 ≤ (ftAt fs f).val ∧ (ftAt fs f).val < l.length) (t : TrR (pG l a b) 0 o) (hok : AllOk l a b o) (hle : o.length ≤ 60) : graphF l fs (canG (pG l a b) o) = (0, 0) := by
  have hgy := pG_gy ha.gx hb.gx ha.s.pos
  have key : ∀ i, i < (canG (pG l a b) o).length → ∀ x ∈ (nd (canG (pG l a b) o) i).ln, (0 ≤ x.1 ∧ x.1 < fs.length) ∧ sub l (nd (canG (pG l a b) o) i).ty.toNat (ftAt fs x.1).of.toNat = true ∧ sub l (nd (canG (pG l a b) o) x.2.toNat).ty.toNat (ftAt fs x.1).val.toNat = true := fun i hi x hx => by
    obtain ⟨z, h1, _, h2, h3⟩ := t.at_ hi
    have hzl := t.lt h1
    rw [pG_len] at hzl
    rw [h3] at hx ⊢
    obtain ⟨q, hq, rfl⟩ := List.mem_map.1 hx
    have hqo := t.mem h1 hq
    have hql := t.lt hqo
    rw [pG_len] at hql
    rw [pG_nd hzl] at hq
    obtain ⟨y, hy, p1, rfl⟩ := pLn_mem.1 hq
    have d := dec_lt hzl
    have hm := mem_tgt p1
    obtain ⟨f1, f2, f3, f4⟩ := ha.lt d.1 hy
    obtain ⟨_, _, g3, g4⟩ := hb.lt d.2 hm
    obtain ⟨hof, hvl⟩ := hF y.1 f1 f2
    refine ⟨⟨f1, f2⟩, ?_, ?_⟩
    · show sub l (nd (pG l a b) z).ty.toNat _ = true
      rw [pG_nd hzl]
      exact jn_least ha.s.vt (hok z h1) (c := (ftAt fs y.1).of.toNat) om f3 g3
    · simp only [Int.toNat_natCast] at hqo hql ⊢
      rw [hom_can t hqo]
      show sub l (nd (pG l a b) _).ty.toNat _ = true
      have hs := hb.gx.lr _ d.2 _ hm
      have e := enc_div (i := y.2.toNat) hs.2
      have hk := hok _ hqo
      unfold pok at hk
      rw [pG_nd hql]
      rw [e.1, e.2] at hk ⊢
      exact jn_least ha.s.vt hk (c := (ftAt fs y.1).val.toNat) om f4 g4
  exact gf_mk ha.h (t.gx hgy) (by rw [canG_len]; exact hle) (fun i hi x hx => (key i hi x hx).1) (fun i hi x hx => (key i hi x hx).2)
end gen
def genS (ok : Nat → Bool) : Nat → List Nat → Fl
  | _, [] => (0, 0)
  | k, z :: r => if k = 60 then (17, -1) else if ok z = true then genS ok (k + 1) r else (16, (k : Int))
theorem genS_cons (ok : Nat → Bool) (k z : Nat) (r : List Nat) : genS ok k (z :: r) = if k = 60 then (17, -1) else if ok z = true then genS ok (k + 1) r else (16, (k : Int)) := rfl
theorem genS_app {ok : Nat → Bool} : ∀ {xs ys : List Nat} {k : Nat}, genS ok k (xs ++ ys) = if (genS ok k xs).1 = 0 then genS ok (k + xs.length) ys else genS ok k xs
  | [], ys, k => by simp [genS]
  | x :: xs, ys, k => by
    rw [List.cons_append, genS_cons, genS_cons]
    by_cases h1 : k = 60
    · rw [if_pos h1, if_pos h1]; simp
    · rw [if_neg h1, if_neg h1]
      by_cases h2 : ok x = true
      · rw [if_pos h2, if_pos h2, genS_app, List.length_cons, Nat.add_assoc, Nat.add_comm 1]
      · rw [if_neg h2, if_neg h2]; simp
theorem genS_ok {ok : Nat → Bool} : ∀ {xs : List Nat} {k : Nat}, k ≤ 60 → (genS ok k xs).1 = 0 → genS ok k xs = (0, 0) ∧ k + xs.length ≤ 60 ∧ ∀ z ∈ xs, ok z = true
  | [], k, hk, _ => ⟨rfl, hk, fun z hz => by cases hz⟩
  | x :: xs, k, hk, h => by
    unfold genS at h ⊢
    by_cases h1 : k = 60
    · rw [if_pos h1] at h; cases h
    · rw [if_neg h1] at h ⊢
      by_cases h2 : ok x = true
      · rw [if_pos h2] at h ⊢
        obtain ⟨a1, a2, a3⟩ := genS_ok om h
        refine ⟨a1, by rw [List.length_cons]; omega, fun z hz => ?_⟩
        rcases List.mem_cons.1 hz with e | hz
        · rw [e]; exact h2
        · exact a3 z hz
      · rw [if_neg h2] at h; cases h
theorem genS_code {ok : Nat → Bool} : ∀ {xs : List Nat} {k : Nat}, (genS ok k xs).1 = 0 ∨ (genS ok k xs).1 = 17 ∨ (genS ok k xs).1 = 16
  | [], k => .inl rfl
  | x :: xs, k => by
    unfold genS
    split
    · exact .inr (.inl rfl)
    · split
      · exact genS_code
      · exact .inr (.inr rfl)
end Go.Proofs.YteenmolhopbpeaaDoor
namespace Go.Proofs.YteenmolhopbpeaaDoor
open Go.RowKit
theorem r_cvU {P : Program} {n : Nat} {f : Fr} {w : World} {dst : Option Tmp} {gd : Option (Nat × Bool)} {ty : TypeId} {pos : String} {af : Array Edge} {x : Operand} {k' : IntKind} {a : Int} {t t' : TypeId} {dd : TypeDesc} (hs : P.underlying t = some dd) (hd : P.underlying t' = some (.int .u64)) (hx : ev n f x = .int k' a) (ha : 0 ≤ a ∧ a ≤ 18446744073709551615) :
    RV P n f w ⟨dst, .convert t t' x, ty, pos, af, gd⟩ (.int .u64 a) w := by
  have := IntWalk.u64_in a ha
  simp [RV, execOp, hx, convert, run_underlying hs, run_underlying hd, Conv.intToInt, this]
def cmpI (a b : Int) : Int := if a < b then -1 else if b < a then 1 else 0
theorem cmpI_lt {a b : Int} : cmpI a b < 0 ↔ a < b := by unfold cmpI; split <;> (try split) <;> omega
theorem cmpI_eq {a b : Int} : cmpI a b = 0 ↔ a = b := by unfold cmpI; split <;> (try split) <;> omega
theorem fn31 : callable Tryd.prog 31 = true := by kernel_rfl
theorem fn32 : callable Tryd.prog 32 = true := by kernel_rfl
theorem fn44 : callable Tryd.prog 44 = true := by kernel_rfl
theorem sz3_GSearch : (Tryd.prog.info? 3).map (·.size) = some 1 := by kernel_rfl
theorem sz36_GSearch : (Tryd.prog.info? 36).map (·.size) = some 2 := by kernel_rfl
theorem nan_any (a : Int) (w : World) : Calls Tryd.prog 44 #[.int .i64 a] w fun e w' => e = .returned (.bool false) ∧ Bel w w' := by
 refine enter Tryd.func44 Tryd.ntmps44 rfl (Nat.le_of_ble_eq_true rfl) ?_
 have hB : Bel w w := Below.refl _ _
 refine c_seq (c_region (waB rfl (x_nil (e_S (c_seq ?_)))))
 refine c_region (wmI rfl (wmI rfl (wl (r_neq rfl rfl) (waB rfl (x_nil ?_)))))
 refine e_S (c_ret (fin1 (.inl rfl) rfl rfl ?_))
 exact ⟨ret_bool (decide_eq_false (fun h => h rfl)).symm, hB⟩
theorem compare_any (a b : Int) (w : World) : Calls Tryd.prog 32 #[.int .i64 a, .int .i64 b] w fun e w' => e = .returned (.int .i64 (cmpI a b)) ∧ Bel w w' := by
 refine enter Tryd.func32 Tryd.ntmps32 rfl (Nat.le_of_ble_eq_true rfl) ?_
 have hB : Bel w w := Below.refl _ _
 refine c_seq (c_region (waI rfl (x_nil (e_S (c_seq ?_)))))
 refine c_region (wmI rfl ?_)
 refine wl_cl fn44 (nan_any _ _) rfl (fun e' w1 hr => ?_)
 obtain ⟨rfl, hs⟩ := hr
 replace hs := Same.of_bel hs
 replace hB := hB.tr0 hs
 clear hs
 refine ⟨_, rfl, ?_⟩
 refine waB rfl (x_nil (e_S (c_seq (c_region (wmI rfl ?_)))))
 refine wl_cl fn44 (nan_any _ _) rfl (fun e' w2 hr => ?_)
 obtain ⟨rfl, hs⟩ := hr
 replace hs := Same.of_bel hs
 replace hB := hB.tr0 hs
 clear hs
 refine ⟨_, rfl, ?_⟩
 refine waB rfl (x_nil (e_S (c_seq (c_seq (c_region ?_)))))
 refine wmB rfl (x_nil (e_S ?_))
 refine c_if rfl (fun c11 => ?_) (fun c11 => ?_)
 ·
  exact absurd c11 dE
 refine c_skip (e_S (c_seq (c_seq (c_region (wmB rfl ?_)))))
 refine x_nil (e_S ?_)
 refine c_if rfl (fun c13 => ?_) (fun c13 => ?_)
 ·
  exact absurd c13 dE
 refine c_skip (e_S (c_seq (c_seq (c_region (wmI rfl ?_)))))
 refine wmI rfl (wl (r_lss rfl rfl) (x_nil (e_S ?_)))
 refine c_ifd rfl (fun c16 => ?_) (fun c16 => ?_)
 ·
  refine c_seq (c_region (waI rfl (x_nil (e_S (c_ret ?_)))))
  refine e_Sr (fin1 (.inl rfl) rfl rfl ?_)
  exact ⟨ret_int (by unfold cmpI; rw [if_pos c16]), hB⟩
 refine c_skip (e_S (c_seq (c_seq (c_region (wmI rfl ?_)))))
 refine wmI rfl (wl (r_gtr rfl rfl) (x_nil (e_S ?_)))
 refine c_ifd rfl (fun c19 => ?_) (fun c19 => ?_)
 ·
  refine c_seq (c_region (waI rfl (x_nil (e_S (c_ret ?_)))))
  refine e_Sr (fin1 (.inl rfl) rfl rfl ?_)
  exact ⟨ret_int (by unfold cmpI; rw [if_neg c16]; exact if_pos c19), hB⟩
 refine c_skip (e_S (c_seq (c_region (waI rfl (x_nil ?_)))))
 refine e_S (c_ret (fin1 (.inl rfl) rfl rfl ?_))
 exact ⟨ret_int (by unfold cmpI; rw [if_neg c16]; exact if_neg c19), hB⟩
theorem tcl_any (a b f : Int) (w : World) : Calls Tryd.prog 31 #[.agg #[.int .i64 a, .int .i64 b], .int .i64 f] w fun e w' => e = .returned (.int .i64 (cmpI a f)) ∧ Bel w w' := by
 refine enter Tryd.func31 Tryd.ntmps31 rfl (Nat.le_of_ble_eq_true rfl) ?_
 have hB : Bel w w := Below.refl _ _
 refine c_seq (c_region ?_)
 refine wl_bx (v := .agg #[_, _]) (cs := #[_, _]) rfl rfl (fun b2 w1 hb2 hs hr => ?_)
 have lo2 := nLT (Bel.size hB) hr
 replace hB := hB.tr0 hs
 clear hs
 clear hr
 refine waI rfl (x_nil (e_S (c_seq (c_region (wl (r_fa U36 sz3_GSearch dE rfl rfl rfl) ?_)))))
 refine wl (r_ld1 (v := .int _ _) U3 rfl rfl (hb2.cell rfl)) (wmI rfl ?_)
 refine wl_cl fn32 (compare_any _ _ _) rfl (fun e' w2 hr => ?_)
 obtain ⟨rfl, hs⟩ := hr
 replace hs := Same.of_bel hs
 replace hB := hB.tr0 hs
 replace hb2 := hb2.tr0 hs
 clear hs
 refine ⟨_, rfl, ?_⟩
 refine waI rfl (x_nil (e_S (c_ret (fin1 (.inl rfl) rfl rfl ?_))))
 exact ⟨rfl, hB⟩
theorem bsf_any (A : Option Addr) (c : Nat) (xs : List (Int × Int)) (f : Int) (w : World) (hX : LinksIn w A xs) (hl : xs.length ≤ 1000) (hmono : ∀ i j (hi : i < xs.length) (hj : j < xs.length), i ≤ j → (xs[i]).1 ≤ (xs[j]).1) : Calls Tryd.prog 30 #[.slice A xs.length c, .int .i64 f, .func (.func 31) #[] #[]] w fun e w' => (∃ (i : Nat) (b : Bool), i ≤ xs.length ∧ e = .returned (.tuple #[.int .i64 i, .bool b]) ∧ (∀ j (hj : j < xs.length), j < i → (xs[j]).1 < f) ∧ (∀ j (hj : j < xs.length), i ≤ j → f ≤ (xs[j]).1) ∧ (b = true ↔ ∃ h : i < xs.length, (xs[i]).1 = f)) ∧ Bel w w' := by
 refine enter Tryd.func30 Tryd.ntmps30 rfl (Nat.le_of_ble_eq_true rfl) ?_
 have hB : Bel w w := Below.refl _ _
 refine c_seq (c_region (waI rfl (waB rfl (x_nil (e_S ?_)))))
 refine c_seq (c_region (wmS rfl (wl (r_len U37 rfl) (waI rfl (x_nil ?_)))))
 refine e_S (c_seq (c_region (wmI rfl (waI rfl (waI rfl ?_)))))
 refine x_nil (e_S (c_seq (c_block ?_)))
 refine c_loopS [9, 10, 11, 15, 16, 17, 18, 19, 20, 21, 22, 23, 24, 25, 26, 27, 28, 29, 30, 31, 32, 33, 34] (fun m g w' => ∃ i j : Nat, i ≤ j ∧ j ≤ xs.length ∧ m = j - i ∧ g 9 = .int .i64 i ∧ g 10 = .int .i64 j ∧ Bel w w' ∧ (∀ x (hx : x < xs.length), x < i → (xs[x]).1 < f) ∧ (∀ x (hx : x < xs.length), j ≤ x → f ≤ (xs[x]).1)) (xs.length) ?_ (fun m g3 w1 hI => ?_)
 ·
  exact ⟨0, xs.length, Nat.zero_le _, Nat.le_refl _, rfl, rfl, rfl, hB, fun x _ h => by omega, fun x h1 h2 => by omega⟩
 obtain ⟨i, j, hij, hj, hm, h9, h10, hB, hlo, hhi⟩ := hI
 refine c_know 9 (.int .i64 i) h9 nu (c_know 10 (.int .i64 j) h10 nu (c_seq (c_seq (c_region (wmI rfl ?_)))))
 refine wmI rfl (wl (r_lss rfl rfl) (x_nil (e_S ?_)))
 refine c_ifd rfl (fun c17 => ?_) (fun c17 => ?_)
 ·
  obtain ⟨h, hh⟩ : ∃ h, h = (i + j) / 2 := ⟨_, rfl⟩
  have hhl : h < xs.length := by omega
  obtain ⟨lb, lof, rfl, hlb, hlr⟩ := hX.at_ hB hhl
  refine c_skip (e_S (c_block (c_seq (c_region (wmI rfl ?_)))))
  refine wmI rfl (wl (r_add (c := ((i + j : Nat) : Int)) rfl rfl om om) (wl (r_cvU U3 Tryd.underlying91 rfl om) (wl (r_shr (b := 1) (c := h) rfl rfl om (by rw [hh, Nat.shiftRight_eq_div_pow])) (wl (r_cvI Tryd.underlying91 U3 rfl om) (waI rfl ?_)))))
  refine x_nil (e_S (c_seq (c_region (wl (r_mv (v := .func _ _ _) rfl) (wmS rfl ?_)))))
  refine wmI rfl (wl (r_ia (i := h) U37 sz36_GSearch rfl rfl om rfl) (wl (r_ldS U36 rfl rfl hlr sz36_GSearch) (wmI rfl ?_)))
  refine wl_clv rfl fn31 (tcl_any _ _ f _) rfl rfl (fun e' w2 hr => ?_)
  obtain ⟨rfl, hs⟩ := hr
  replace hB := hB.tr0 (Same.of_bel hs)
  refine ⟨_, rfl, ?_⟩
  refine wl (r_lss rfl rfl) (x_nil (e_S ?_))
  refine c_ifd rfl (fun c31 => ?_) (fun c31 => ?_)
  ·
   have hlt := cmpI_lt.1 c31
   obtain ⟨i2, hi2⟩ : ∃ i2, i2 = h + 1 := ⟨_, rfl⟩
   obtain ⟨j2, hj2⟩ : ∃ j2, j2 = j := ⟨_, rfl⟩
   have hlo2 : ∀ x (hx : x < xs.length), x < i2 → (xs[x]).1 < f := fun x hx hxi => by
     by_cases e : x = h
     · subst e; exact hlt
     · have hsx : (xs[x]).1 ≤ (xs[h]).1 := hmono x h hx hhl om
       omega
   have hhi2 : ∀ x (hx : x < xs.length), j2 ≤ x → f ≤ (xs[x]).1 := fun x hx hxj => hhi x hx om
   refine c_region (wmI rfl (wl (r_add rfl rfl rfl om) (waI rfl (x_nil (e_B ?_)))))
   refine e_LS (j2 - i2) om agA ?_
   exact ⟨i2, j2, by omega, by omega, rfl, by subst hi2; rfl, by subst hj2; rfl, hB, hlo2, hhi2⟩
  have hge : ¬ (xs[h]).1 < f := fun h => c31 (cmpI_lt.2 h)
  obtain ⟨i2, hi2⟩ : ∃ i2, i2 = i := ⟨_, rfl⟩
  obtain ⟨j2, hj2⟩ : ∃ j2, j2 = h := ⟨_, rfl⟩
  have hlo2 : ∀ x (hx : x < xs.length), x < i2 → (xs[x]).1 < f := fun x hx hxi => hlo x hx om
  have hhi2 : ∀ x (hx : x < xs.length), j2 ≤ x → f ≤ (xs[x]).1 := fun x hx hxj => by
    have hsx : (xs[h]).1 ≤ (xs[x]).1 := hmono h x hhl hx om
    omega
  refine c_region (wmI rfl (waI rfl (x_nil (e_B (e_LS (j2 - i2) om agA ?_)))))
  exact ⟨i2, j2, by omega, by omega, rfl, by subst hi2; rfl, by subst hj2; rfl, hB, hlo2, hhi2⟩
 have hije : i = j := by omega
 subst hije
 refine c_exit (e_Sx (e_LSx (e_Bx (e_S (c_seq ?_)))))
 refine c_region (wmI rfl (wmI rfl (wmI rfl (wl (r_lss rfl rfl) (wmB rfl ?_)))))
 refine wl_casesd 39 rfl (fun g39 => ?_) (fun g39 => ?_)
 ·
  refine wl_gd 39 rfl rfl (wl (r_mv (v := .func _ _ _) rfl) (wl_gd 39 rfl rfl (wmS rfl (wl_gd 39 rfl rfl (wmI rfl ?_)))))
  have hiN : i < xs.length := by omega
  obtain ⟨lb, lof, rfl, hlb, hlr⟩ := hX.at_ hB hiN
  refine wl_gd 39 rfl rfl (wl (r_ia (i := i) U37 sz36_GSearch rfl rfl om rfl) (wl_gd 39 rfl rfl (wl (r_ldS U36 rfl rfl hlr sz36_GSearch) (wl_gd 39 rfl rfl (wmI rfl ?_)))))
  refine wl_gd 39 rfl rfl ?_
  refine wl_clv rfl fn31 (tcl_any _ _ f _) rfl rfl (fun e' w3 hr => ?_)
  obtain ⟨rfl, hs⟩ := hr
  replace hB := hB.tr0 (Same.of_bel hs)
  refine ⟨_, rfl, ?_⟩
  refine wl_gd 39 rfl rfl (wl (r_eql rfl rfl) (wl (r_pt (v := .bool _) rfl rfl) (waI rfl (waB rfl (x_nil ?_)))))
  refine e_S (c_ret (fin2 (.inl rfl) rfl rfl rfl ?_))
  first
    | exact ⟨⟨i, false, by omega, rfl, hlo, hhi, ⟨fun h => (Bool.noConfusion h), fun hh => absurd hh.1 om⟩⟩, hB⟩
    | exact ⟨⟨i, decide (cmpI (xs[i]'hiN).1 f = 0), by omega, rfl, hlo, hhi, by rw [decide_eq_true_iff, cmpI_eq]; exact ⟨fun h => ⟨hiN, h⟩, fun ⟨_, h⟩ => h⟩⟩, hB⟩
 refine wlgn 39 rfl rfl rfl (wlgn 39 rfl rfl rfl (wlgn 39 rfl rfl rfl (wlgn 39 rfl rfl rfl (wlgn 39 rfl rfl rfl (wlgn 39 rfl rfl rfl ?_)))))
 refine wlgn 39 rfl rfl rfl (wlgn 39 rfl rfl rfl (wl (r_pf (v := .bool _) rfl rfl) (waI rfl (waB rfl (x_nil ?_)))))
 refine e_S (c_ret (fin2 (.inl rfl) rfl rfl rfl ?_))
 first
   | exact ⟨⟨i, false, by omega, rfl, hlo, hhi, ⟨fun h => (Bool.noConfusion h), fun hh => absurd hh.1 om⟩⟩, hB⟩
   | exact ⟨⟨i, decide (cmpI (xs[i]'hiN).1 f = 0), by omega, rfl, hlo, hhi, by rw [decide_eq_true_iff, cmpI_eq]; exact ⟨fun h => ⟨hiN, h⟩, fun ⟨_, h⟩ => h⟩⟩, hB⟩
end Go.Proofs.YteenmolhopbpeaaDoor
namespace Go.Proofs.YteenmolhopbpeaaDoor
open Go.RowKit
theorem fn30 : callable Tryd.prog 30 = true := by kernel_rfl
theorem sz26_GTgt : (Tryd.prog.info? 26).map (·.size) = some 1 := by kernel_rfl
theorem sz37_GTgt : (Tryd.prog.info? 37).map (·.size) = some 1 := by kernel_rfl
theorem sz39_GTgt : (Tryd.prog.info? 39).map (·.size) = some 2 := by kernel_rfl
theorem target_any (G : Option Addr) (cg nf : Nat) (gr : List Nd) (i : Nat) (f : Int) (w : World) (hG : NodesIn w G gr) (hi : i < gr.length) (hl : lnFault nf gr.length (-1) (gr[i]'hi).ln = 0) (hw : (gr[i]'hi).ln.length ≤ 1000) : Calls Tryd.prog 17 #[.agg #[.slice G gr.length cg], .int .i64 i, .int .i64 f] w fun e w' => e = .returned (.int .i64 (tgt (gr[i]'hi).ln f)) ∧ Bel w w' := by
 obtain ⟨nb, no, LA, lc, rfl, hnb, hnr, hln⟩ := hG.at_ (Below.refl _ _ : Bel w w) hi
 have hso := (ln_sorted hl).2
 refine enter Tryd.func17 Tryd.ntmps17 rfl (Nat.le_of_ble_eq_true rfl) ?_
 have hB : Bel w w := Below.refl _ _
 refine c_seq (c_region ?_)
 refine wl_bx (v := .agg #[_]) (cs := #[_]) rfl rfl (fun b3 w1 hb3 hs hr => ?_)
 have lo3 := nLT (Bel.size hB) hr
 replace hB := hB.tr0 hs
 clear hs
 clear hr
 refine waI rfl (x_nil (e_S (c_seq (c_region (wl (r_fa U28 sz26_GTgt dE rfl rfl rfl) ?_)))))
 refine wl (r_ld1 (v := .slice _ _ _) U26 rfl rfl (hb3.cell rfl)) (wmI rfl (wl (r_ia (i := i) U26 sz39_GTgt rfl rfl hi rfl) (wl (r_fa U39 sz37_GTgt dE rfl rfl rfl) (wl (r_ld1 (v := .slice _ _ _) U37 rfl rfl (hB.cell hnb (hnr 1 _ rfl))) (wmI rfl ?_)))))
 refine wl_cl fn30 (bsf_any LA lc (gr[i]'hi).ln f _ (hln.mono hB) hw (fun x y hx hy hxy => by
       by_cases e : x = y
       · subst e; exact Int.le_refl _
       · exact Int.le_of_lt (hso x y hx hy om))) rfl (fun e' w2 hr => ?_)
 obtain ⟨⟨ix, b, hix, rfl, hlo, hhi, hbt⟩, hs⟩ := hr
 replace hs := Same.of_bel hs
 replace hB := hB.tr0 hs
 replace hb3 := hb3.tr0 hs
 clear hs
 obtain ⟨hy, hn⟩ := tgt_bs hl hlo hhi
 refine ⟨_, rfl, ?_⟩
 refine wmT rfl (wl (r_ex (v := .int _ _) rfl rfl) (wl (r_ex (v := .bool _) rfl rfl) (waI rfl (waB rfl (x_nil ?_)))))
 refine e_S (c_seq (c_seq (c_region (wmB rfl (wl (r_not rfl) ?_)))))
 refine x_nil (e_S ?_)
 refine c_if rfl (fun c21 => ?_) (fun c21 => ?_)
 ·
  have hbf : ¬ b = true := by simpa using c21
  have hno := hn (fun h => hbf (hbt.2 h))
  refine c_seq (c_region (waI rfl (x_nil (e_S (c_ret ?_)))))
  refine e_Sr (fin1 (.inl rfl) rfl rfl ?_)
  exact ⟨ret_int hno, hB⟩
 have hbt2 : b = true := by simpa using c21
 obtain ⟨hxl, hxe⟩ := hbt.1 hbt2
 have hyes := hy hxl hxe
 obtain ⟨lb, lof, rfl, hlb, hlr⟩ := hln.at_ hB hxl
 refine c_skip (e_S (c_seq (c_region (wl (r_fa U28 sz26_GTgt dE rfl rfl rfl) (wl (r_ld1 (v := .slice _ _ _) U26 rfl rfl (hb3.cell rfl)) ?_)))))
 refine wmI rfl (wl (r_ia (i := i) U26 sz39_GTgt rfl rfl hi rfl) (wl (r_fa U39 sz37_GTgt dE rfl rfl rfl) (wl (r_ld1 (v := .slice _ _ _) U37 rfl rfl (hB.cell hnb (hnr 1 _ rfl))) (wmI rfl (wl (r_ia (i := ix) U37 sz36_GSearch rfl rfl om rfl) ?_)))))
 refine wl (r_fa U36 sz3_GSearch dE rfl rfl rfl) (wl (r_ld1 (v := .int _ _) U3 rfl rfl (hlr 1 _ rfl)) (waI rfl (x_nil (e_S (c_ret ?_)))))
 refine fin1 (.inl rfl) rfl rfl ?_
 exact ⟨ret_int hyes, hB⟩
end Go.Proofs.YteenmolhopbpeaaDoor
