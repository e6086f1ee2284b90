/- Unifying in any order: what All and Unify tell, compared. No program in sight. -/
import Derived.Test.YteoncmfiiknfbaaDoorAll
namespace Go.Proofs.YteoncmfiiknfbaaDoor
open Go.RowKit
section many
variable {l : List Ty} {fs : List Ft}
/-- the same graphs, each at least once -/
def Sup (gs hs : List (List Nd)) : Prop := ∀ i (hi : i < gs.length), ∃ j, ∃ hj : j < hs.length, gs[i] = hs[j]
theorem Sup.of {gs hs : List (List Nd)} (h : ∀ g ∈ gs, g ∈ hs) : Sup gs hs := fun i hi => by
  obtain ⟨j, hj, e⟩ := List.getElem_of_mem (h _ (List.getElem_mem hi))
  exact ⟨j, hj, e.symm⟩
def AMaps (l : List Ty) (gs : List (List Nd)) (c : List Nd) : Prop := ∀ i (hi : i < gs.length), Maps l gs[i] c
theorem AMaps.sup {gs hs : List (List Nd)} {c : List Nd} (h : AMaps l hs c) (s : Sup gs hs) : AMaps l gs c := fun i hi => by
  obtain ⟨j, hj, e⟩ := s i hi
  rw [e]; exact h j hj
theorem amaps_two {a b c : List Nd} : AMaps l [a, b] c ↔ Maps l a c ∧ Maps l b c := by
  constructor
  · intro h; exact ⟨h 0 (by simp), h 1 (by simp)⟩
  · intro h i hi
    match i, hi with
    | 0, _ => exact h.1
    | 1, _ => exact h.2
theorem amaps_three {a b d c : List Nd} : AMaps l [a, b, d] c ↔ Maps l a c ∧ Maps l b c ∧ Maps l d c := by
  constructor
  · intro h; exact ⟨h 0 (by simp), h 1 (by simp), h 2 (by simp)⟩
  · intro h i hi
    match i, hi with
    | 0, _ => exact h.1
    | 1, _ => exact h.2.1
    | 2, _ => exact h.2.2
/-- two answers to equal questions -/
theorem alls_same {gs hs : List (List Nd)} {ok ok' : Bool} {f f' : Fl} {X X' : List Nd} (h0 : (allF l fs gs).1 = 0) (h0' : (allF l fs hs).1 = 0) (he : ∀ c, GY l c → (AMaps l gs c ↔ AMaps l hs c)) (h : AllS l fs gs ok f X) (h' : AllS l fs hs ok' f' X') : f = f' ∧ ok = ok' ∧ X = X' := by
  have un : ∀ {A B : List Nd}, LubL l gs A → LubL l hs B → Maps l A B ∧ Maps l B A := fun ha hb =>
    ⟨ha.least _ hb.gx.toGY ((he _ hb.gx.toGY).2 hb.maps), hb.least _ ha.gx.toGY ((he _ ha.gx.toGY).1 ha.maps)⟩
  rcases h with ⟨a, _⟩ | ⟨_, rfl, rfl, rfl, h5⟩ | ⟨_, rfl, rfl, rfl, Y, hY, h60⟩ | ⟨_, rfl, rfl, hX, h60, hgX⟩
  · exact absurd h0 a
  · rcases h' with ⟨a, _⟩ | ⟨_, rfl, rfl, rfl, _⟩ | ⟨_, _, _, _, Y', hY', _⟩ | ⟨_, _, _, hX', _⟩
    · exact absurd h0' a
    · exact ⟨rfl, rfl, rfl⟩
    · exact absurd ⟨Y', hY'.gx.toGY, (he _ hY'.gx.toGY).2 hY'.maps⟩ h5
    · exact absurd ⟨X', hX'.gx.toGY, (he _ hX'.gx.toGY).2 hX'.maps⟩ h5
  · rcases h' with ⟨a, _⟩ | ⟨_, _, _, _, h5'⟩ | ⟨_, rfl, rfl, rfl, _⟩ | ⟨_, _, _, hX', h60', _⟩
    · exact absurd h0' a
    · exact absurd ⟨Y, hY.gx.toGY, (he _ hY.gx.toGY).1 hY.maps⟩ h5'
    · exact ⟨rfl, rfl, rfl⟩
    · have := maps_len hY.gx hX'.gx (un hY hX').1 (un hY hX').2
      omega
  · rcases h' with ⟨a, _⟩ | ⟨_, _, _, _, h5'⟩ | ⟨_, _, _, _, Y', hY', h60'⟩ | ⟨_, rfl, rfl, hX', _⟩
    · exact absurd h0' a
    · exact absurd ⟨X, hX.gx.toGY, (he _ hX.gx.toGY).1 hX.maps⟩ h5'
    · have := maps_len hX.gx hY'.gx (un hX hY').1 (un hX hY').2
      omega
    · refine ⟨rfl, rfl, ?_⟩
      obtain ⟨o, ho, e⟩ := hX.can
      obtain ⟨p, hp, e3⟩ := hX'.can
      have := can_eq hX.gx hX'.gx (un hX hX').1 (un hX hX').2 ho hp
      rw [e, e3] at this
      exact this.symm
theorem all_zero {gs : List (List Nd)} (h : (hierFault l fs).1 = 0) (hn : gs.length ≤ 300) (hv : ∀ g ∈ gs, (graphF l fs g).1 = 0) : (allF l fs gs).1 = 0 := by
  unfold allF
  rw [if_neg (fun k => k h), if_neg (by omega), witF_no (fun i hi => by
    have := hv _ (List.getElem_mem hi)
    rw [gf_in h] at this; exact this)]
/-- Unify tells what All tells of both -/
theorem unify_alls {ga gb X : List Nd} {ok : Bool} {f : Fl} (h0 : (twoG l fs ga gb).1 = 0) (h : UnifyS l fs ga gb ok f X) : AllS l fs [ga, gb] ok f X := by
  obtain ⟨⟨hva, hvb⟩, hga, hgb⟩ := two_gv h0
  have hz : (allF l fs [ga, gb]).1 = 0 := all_zero hva.h (by simp) (fun g hg => by
    simp only [List.mem_cons, List.not_mem_nil, or_false] at hg
    rcases hg with rfl | rfl <;> assumption)
  have lub : ∀ {Y : List Nd}, UniR l (ga ++ gb.map (shN ga.length)) [(0, ga.length)] Y → LubL l [ga, gb] Y := fun hY =>
    have k := uni_lub hva.gx hvb.gx hY
    ⟨k.gx, amaps_two.2 ⟨k.left, k.right⟩, fun c hc hm => k.least c hc (amaps_two.1 hm).1 (amaps_two.1 hm).2, k.can⟩
  rcases h with ⟨h1, _⟩ | ⟨_, h2, h3, h4, h5⟩ | ⟨_, h2, h3, h4, Y, hY, h6⟩ | ⟨_, h2, h3, hX, h60⟩
  · exact absurd h0 h1
  · exact .inr (.inl ⟨hz, h2, h3, h4, fun ⟨c, hc, hm⟩ => h5 (pair_bound hc (amaps_two.1 hm).1 (amaps_two.1 hm).2 hva.gx.toGY hvb.gx.toGY)⟩)
  · exact .inr (.inr (.inl ⟨hz, h2, h3, h4, Y, lub hY, h6⟩))
  · exact .inr (.inr (.inr ⟨hz, h2, h3, lub hX, h60, uni_valid hva hvb hX h60⟩))
/-- in two steps, or in one -/
theorem amaps_step {a b d X c : List Nd} (hv : VT l) (hX : LubL l [a, b] X) (hc : GY l c) : AMaps l [X, d] c ↔ AMaps l [a, b, d] c := by
  rw [amaps_two, amaps_three]
  constructor
  · rintro ⟨h1, h2⟩
    have := amaps_two.1 hX.maps
    exact ⟨Maps.comp hv this.1 h1, Maps.comp hv this.2 h1, h2⟩
  · rintro ⟨h1, h2, h3⟩
    exact ⟨hX.least c hc (amaps_two.2 ⟨h1, h2⟩), h3⟩
/-- a graph of the list that all map to -/
theorem alls_above {gs : List (List Nd)} {c : List Nd} {o : List Nat} {ok : Bool} {f : Fl} {X : List Nd} (h0 : (allF l fs gs).1 = 0) (hc : GV l fs c) (hm : AMaps l gs c) (hi : c ∈ gs) (ho : DL c [0] [] o) (h : AllS l fs gs ok f X) : ok = true ∧ f = (0, 0) ∧ X = canG c o := by
  obtain ⟨i, hi, e⟩ := List.getElem_of_mem hi
  have un : ∀ {A : List Nd}, LubL l gs A → Maps l A c ∧ Maps l c A := fun ha => ⟨ha.least c hc.gx.toGY hm, e ▸ ha.maps i hi⟩
  rcases h with ⟨a, _⟩ | ⟨_, rfl, rfl, rfl, h5⟩ | ⟨_, rfl, rfl, rfl, Y, hY, h60⟩ | ⟨_, rfl, rfl, hX, h60, hgX⟩
  · exact absurd h0 a
  · exact absurd ⟨c, hc.gx.toGY, hm⟩ h5
  · have := maps_len hY.gx hc.gx (un hY).1 (un hY).2
    have := hc.gok.le
    omega
  · refine ⟨rfl, rfl, ?_⟩
    obtain ⟨p, hp, e3⟩ := hX.can
    have := can_eq hc.gx hX.gx (un hX).2 (un hX).1 ho hp
    rw [e3] at this
    exact this
end many
end Go.Proofs.YteoncmfiiknfbaaDoor
