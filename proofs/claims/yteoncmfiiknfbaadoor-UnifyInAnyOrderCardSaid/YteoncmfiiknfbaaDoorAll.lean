/- Many graphs are unified at once: the result is the least graph to which all map. No program in sight. -/
import Derived.Test.YteoncmfiiknfbaaDoorLub
import Derived.Test.YteoncmfiiknfbaaDoorGen
namespace Go.Proofs.YteoncmfiiknfbaaDoor
open Go.RowKit
def topG : List Nd := [⟨0, []⟩]
def addU (U g : List Nd) : List Nd := U ++ g.map (shN U.length)
def UA (gs : List (List Nd)) (k : Nat) : List Nd := (gs.take k).foldl addU topG
def JA (gs : List (List Nd)) (k : Nat) : List (Nat × Nat) := (List.range k).map (fun i => (0, (UA gs i).length))
theorem UA_zero (gs : List (List Nd)) : UA gs 0 = topG := by simp [UA]
theorem UA_succ {gs : List (List Nd)} {k : Nat} (hk : k < gs.length) : UA gs (k + 1) = UA gs k ++ (gs[k]).map (shN (UA gs k).length) := by
  unfold UA
  rw [List.take_succ_eq_append_getElem hk, List.foldl_append]
  rfl
theorem JA_succ (gs : List (List Nd)) (k : Nat) : JA gs (k + 1) = JA gs k ++ [(0, (UA gs k).length)] := by
  unfold JA; rw [List.range_succ, List.map_append]; rfl
theorem UA_len {gs : List (List Nd)} (h : ∀ i (hi : i < gs.length), (gs[i]).length ≤ 60) : ∀ k, k ≤ gs.length → 1 ≤ (UA gs k).length ∧ (UA gs k).length ≤ 1 + 60 * k
  | 0, _ => by rw [UA_zero]; exact ⟨Nat.le_refl _, by simp [topG]⟩
  | k + 1, hk => by
    have h1 := UA_len h k (by omega)
    have h2 := h k (by omega)
    rw [UA_succ (by omega), List.length_append, List.length_map]
    omega
theorem UA_feat {nf : Nat} {gs : List (List Nd)} (h : ∀ i (hi : i < gs.length), ∀ j, j < (gs[i]).length → ∀ z ∈ (nd (gs[i]) j).ln, 0 ≤ z.1 ∧ z.1 < nf) : ∀ k, k ≤ gs.length → ∀ i, i < (UA gs k).length → ∀ z ∈ (nd (UA gs k) i).ln, 0 ≤ z.1 ∧ z.1 < nf
  | 0, _ => fun i hi z hz => by
    rw [UA_zero] at hi hz
    have h0 : i = 0 := by simp [topG] at hi; omega
    subst h0
    exact absurd hz (by simp [topG, nd])
  | k + 1, hk => by
    rw [UA_succ (by omega)]
    exact two_feat (UA_feat h k (by omega)) (h k (by omega))
section all
variable {l : List Ty} {fs : List Ft} {gs : List (List Nd)}
theorem topG_gy (hs : Sound l) : GY l topG := by
  have h0 : ∀ i, i < topG.length → i = 0 := fun i hi => by simp [topG] at hi; omega
  refine ⟨hs.vt, by simp [topG], fun i hi => ?_, fun i hi => ?_, fun i hi x hx => ?_⟩ <;> rw [h0 i hi] at *
  · have := hs.pos
    simp [topG, nd]; omega
  · exact List.Pairwise.nil
  · exact absurd hx (by simp [topG, nd])
theorem add_gy {U g : List Nd} (hU : GY l U) (hg : GY l g) : GY l (addU U g) := by
  have hlen : (addU U g).length = U.length + g.length := by simp [addU]
  have hp := hU.pos
  have hnd : ∀ i, i < U.length + g.length → ¬ i < U.length → nd (addU U g) i = shN U.length (nd g (i - U.length)) ∧ i - U.length < g.length := fun i hi hn => by
    have hl : i - U.length < g.length := by omega
    have h := nd_right (U := U) hl
    rw [show U.length + (i - U.length) = i by omega] at h
    exact ⟨h, hl⟩
  have hndl : ∀ i, i < U.length → nd (addU U g) i = nd U i := fun i hi => nd_left hi
  refine ⟨hU.vt, by omega, fun i hi => ?_, fun i hi => ?_, fun i hi x hx => ?_⟩ <;> rw [hlen] at hi <;> by_cases e : i < U.length
  · rw [hndl i e]; exact hU.tr i e
  · rw [(hnd i hi e).1]; exact hg.tr _ (hnd i hi e).2
  · rw [hndl i e]; exact hU.srt i e
  · rw [(hnd i hi e).1]
    exact List.Pairwise.map _ (fun a b h => h) (hg.srt _ (hnd i hi e).2)
  · rw [hndl i e] at hx
    have := hU.lr i e x hx
    omega
  · rw [(hnd i hi e).1] at hx
    obtain ⟨y, hy, rfl⟩ := List.mem_map.1 hx
    have := hg.lr _ (hnd i hi e).2 y hy
    show 0 ≤ y.2 + (U.length : Int) ∧ (y.2 + (U.length : Int)).toNat < _
    omega
theorem add_adm {U g c : List Nd} {θ φ : Nat → Nat} (hU : GY l U) (hg : GY l g) (hθ : Adm l U c θ) (hφ : Hom l g c φ) : Adm l (addU U g) c (fun i => if i < U.length then θ i else φ (i - U.length)) := by
  have hlen : (addU U g).length = U.length + g.length := by simp [addU]
  have hnd : ∀ i, i < U.length + g.length → ¬ i < U.length → nd (addU U g) i = shN U.length (nd g (i - U.length)) ∧ i - U.length < g.length := fun i hi hn => by
    have hl : i - U.length < g.length := by omega
    have h := nd_right (U := U) hl
    rw [show U.length + (i - U.length) = i by omega] at h
    exact ⟨h, hl⟩
  have hndl : ∀ i, i < U.length → nd (addU U g) i = nd U i := fun i hi => nd_left hi
  refine ⟨fun i hi => ?_, fun i hi => ?_, fun i hi x hx => ?_⟩ <;> rw [hlen] at hi <;> by_cases e : i < U.length
  · simp only [if_pos e]; exact hθ.lt i e
  · simp only [if_neg e]; exact hφ.lt _ (hnd i hi e).2
  · simp only [if_pos e]; rw [hndl i e]; exact hθ.ty i e
  · simp only [if_neg e]; rw [(hnd i hi e).1]; exact hφ.ty _ (hnd i hi e).2
  · simp only [if_pos e]
    rw [hndl i e] at hx
    have h1 := hU.lr i e x hx
    rw [if_pos h1.2]; exact hθ.ln i e x hx
  · simp only [if_neg e]
    rw [(hnd i hi e).1] at hx
    obtain ⟨y, hy, rfl⟩ := List.mem_map.1 hx
    have h1 := hg.lr _ (hnd i hi e).2 y hy
    have e1 : (y.2 + (U.length : Int)).toNat = y.2.toNat + U.length := by omega
    simp only [e1]
    rw [if_neg (by omega), show y.2.toNat + U.length - U.length = y.2.toNat by omega]
    exact hφ.ln _ (hnd i hi e).2 y hy
theorem UA_gy (hs : Sound l) (h : ∀ i (hi : i < gs.length), GY l gs[i]) : ∀ k, k ≤ gs.length → GY l (UA gs k)
  | 0, _ => by rw [UA_zero]; exact topG_gy hs
  | k + 1, hk => by
    rw [UA_succ (by omega)]
    exact add_gy (UA_gy hs h k (by omega)) (h k (by omega))
theorem JA_lt (h : ∀ i (hi : i < gs.length), (gs[i]).length ≤ 60) (hp : ∀ i (hi : i < gs.length), 0 < (gs[i]).length) : ∀ k, k ≤ gs.length → ∀ p ∈ JA gs k, p.1 < (UA gs k).length ∧ p.2 < (UA gs k).length
  | 0, _ => fun p hp => by cases hp
  | k + 1, hk => fun p hm => by
    have hl : (UA gs (k + 1)).length = (UA gs k).length + (gs[k]'(by omega)).length := by rw [UA_succ (by omega), List.length_append, List.length_map]
    have h1 := hp k (by omega)
    have h2 := UA_len h k (by omega)
    rw [JA_succ] at hm
    rcases List.mem_append.1 hm with hm | hm
    · have := JA_lt h hp k (by omega) p hm
      omega
    · rw [List.mem_singleton.1 hm]
      show 0 < _ ∧ (UA gs k).length < _
      omega
/-- a common target is one of the whole forest -/
theorem all_adm (hs : Sound l) (ht : (typesFault l).1 = 0) (hy : ∀ i (hi : i < gs.length), GY l gs[i]) {c : List Nd} (hc : GY l c) (hm : ∀ i (hi : i < gs.length), Maps l gs[i] c) : ∀ k, k ≤ gs.length → ∃ θ, Adm l (UA gs k) c θ ∧ (∀ p ∈ JA gs k, θ p.1 = θ p.2) ∧ θ 0 = 0
  | 0, _ => by
    rw [UA_zero]
    have h0 : ∀ i, i < topG.length → i = 0 := fun i hi => by simp [topG] at hi; omega
    refine ⟨fun _ => 0, ⟨fun i hi => hc.pos, fun i hi => ?_, fun i hi x hx => ?_⟩, fun p hp => (by cases hp), rfl⟩
    · rw [h0 i hi]
      have := hc.tr 0 hc.pos
      exact top_of ht _ _ (Nat.le_refl _) (by omega)
    · rw [h0 i hi] at hx
      exact absurd hx (by simp [topG, nd])
  | k + 1, hk => by
    obtain ⟨θ, h1, h2, h3⟩ := all_adm hs ht hy hc hm k (by omega)
    obtain ⟨φ, hφ⟩ := hm k (by omega)
    have hU := UA_gy hs hy k (by omega)
    have hp := hU.pos
    rw [UA_succ (by omega), JA_succ]
    refine ⟨_, add_adm hU (hy k (by omega)) h1 hφ, fun p hpm => ?_, by simp [hp, h3]⟩
    rcases List.mem_append.1 hpm with hpm | hpm
    · have hl : ∀ j, j ≤ k → ∀ p ∈ JA gs j, p.1 < (UA gs k).length ∧ p.2 < (UA gs k).length := fun j hj p hpj => by
        obtain ⟨i, hi, rfl⟩ := List.mem_map.1 hpj
        have hik : i < k := by have := List.mem_range.1 hi; omega
        have hmo : ∀ d, i + 1 + d ≤ gs.length → (UA gs i).length < (UA gs (i + 1 + d)).length := fun d => by
          induction d with
          | zero =>
            intro hd
            have := (hy i (by omega)).pos
            rw [Nat.add_zero, UA_succ (by omega), List.length_append, List.length_map]; omega
          | succ d ih =>
            intro hd
            have := ih (by omega)
            rw [show i + 1 + (d + 1) = (i + 1 + d) + 1 by omega, UA_succ (by omega), List.length_append]; omega
        have := hmo (k - (i + 1)) (by omega)
        rw [show i + 1 + (k - (i + 1)) = k by omega] at this
        exact ⟨hU.pos, this⟩
      have h4 := hl k (Nat.le_refl _) p hpm
      simp only [if_pos h4.1, if_pos h4.2]
      exact h2 p hpm
    · rw [List.mem_singleton.1 hpm]
      simp [hp, h3, hφ.zero]
theorem all_bound (hs : Sound l) (ht : (typesFault l).1 = 0) (hy : ∀ i (hi : i < gs.length), GY l gs[i]) {k : Nat} (hk : k ≤ gs.length) (hn : ¬ Bound l (UA gs k) (JA gs k)) : ¬ ∃ c, GY l c ∧ ∀ i (hi : i < gs.length), Maps l gs[i] c := fun ⟨c, hc, hm⟩ => by
  obtain ⟨θ, h1, h2, _⟩ := all_adm hs ht hy hc hm k hk
  exact hn ⟨c, θ, hc.tr, h1, h2⟩
/-- the least bound of many -/
structure LubL (l : List Ty) (gs : List (List Nd)) (X : List Nd) : Prop where
  gx : GX l X
  maps : ∀ i (hi : i < gs.length), Maps l gs[i] X
  least : ∀ c, GY l c → (∀ i (hi : i < gs.length), Maps l gs[i] c) → Maps l X c
  can : ∃ o, DL X [0] [] o ∧ canG X o = X
theorem UA_at {i : Nat} (hi : i < gs.length) : ∀ d, i + 1 + d ≤ gs.length → ∀ j, j < (gs[i]).length → (UA gs i).length + j < (UA gs (i + 1 + d)).length ∧ nd (UA gs (i + 1 + d)) ((UA gs i).length + j) = shN (UA gs i).length (nd gs[i] j)
  | 0, _ => fun j hj => by
    rw [Nat.add_zero, UA_succ hi]
    exact ⟨by rw [List.length_append, List.length_map]; omega, nd_right hj⟩
  | d + 1, hd => fun j hj => by
    have h := UA_at hi d (by omega) j hj
    rw [show i + 1 + (d + 1) = (i + 1 + d) + 1 by omega, UA_succ (by omega)]
    exact ⟨by rw [List.length_append]; omega, by rw [nd_left h.1]; exact h.2⟩
theorem all_lub {X : List Nd} (hs : Sound l) (ht : (typesFault l).1 = 0) (hgs : ∀ i (hi : i < gs.length), GX l gs[i]) (h : UniR l (UA gs gs.length) (JA gs gs.length) X) : LubL l gs X := by
  obtain ⟨P, rep, ρ, T, L, o, hus, hd, rfl⟩ := h
  have hy : ∀ i (hi : i < gs.length), GY l gs[i] := fun i hi => (hgs i hi).toGY
  have h0 : 0 < (UA gs gs.length).length := (UA_gy hs hy _ (Nat.le_refl _)).pos
  have hgy := hus.gy hs.vt h0
  have hr := hus.uf.rl 0 h0
  have hrr := hus.uf.two h0
  have t := hgy.trr (r := rep 0) (by rw [poolG_len]; exact hr) hd
  refine ⟨t.gx hgy, fun i hi => ?_, fun c hc hm => ?_, ⟨_, ?_, t.can2 t.has t.dl⟩⟩
  · have hj : rep 0 = rep (UA gs i).length := hus.jcov (0, (UA gs i).length) (List.mem_map.2 ⟨i, List.mem_range.2 hi, rfl⟩) rep ⟨fun i hi => (hus.uf.two hi).symm, fun w hw => by cases hw⟩
    obtain ⟨φ, h1, h2, h3, h4, h5⟩ := hus.into hs.vt hr hrr t (g := gs[i]) (s := (UA gs i).length) (hgs i hi) (fun j hj => by
      have := UA_at hi (gs.length - (i + 1)) (by omega) j hj
      rw [show i + 1 + (gs.length - (i + 1)) = gs.length by omega] at this
      exact this) (by rw [← hj]; exact t.has)
    exact ⟨φ, by rw [h1, ← hj]; exact t.zero, h3, h4, h5⟩
  · obtain ⟨θ, hA, hJ, hz⟩ := all_adm hs ht hy hc hm gs.length (Nat.le_refl _)
    have hres := (hus.only c _ hc.tr hA hJ).1.1 0 h0
    refine hus.least hr hrr t hc.tr hA hJ ?_
    exact hres.symm.trans hz
  · have := t.dl2 t.has t.dl
    rw [t.zero] at this
    exact this
def UFit (l : List Ty) (fs : List Ft) (U : List Nd) : Prop := ∀ i, i < U.length → ∀ x ∈ (nd U i).ln, (0 ≤ x.1 ∧ x.1 < fs.length) ∧ sub l (nd U i).ty.toNat (ftAt fs x.1).of.toNat = true ∧ sub l (nd U x.2.toNat).ty.toNat (ftAt fs x.1).val.toNat = true
theorem gv_fit {g : List Nd} (h : GV l fs g) : UFit l fs g := fun i hi x hx => by
  have h1 := h.lt hi hx
  exact ⟨⟨h1.1, h1.2.1⟩, h1.2.2⟩
theorem add_fit {U g : List Nd} (hU : GY l U) (hg : GY l g) (fU : UFit l fs U) (fg : UFit l fs g) : UFit l fs (addU U g) := fun i hi x hx => by
  have hlen : (addU U g).length = U.length + g.length := by simp [addU]
  rw [hlen] at hi
  have hndl : ∀ i, i < U.length → nd (addU U g) i = nd U i := fun i hi => nd_left hi
  have hndr : ∀ i, i < g.length → nd (addU U g) (U.length + i) = shN U.length (nd g i) := fun i hi => nd_right hi
  by_cases e : i < U.length
  · rw [hndl i e] at hx ⊢
    have h2 := (hU.lr i e x hx).2
    rw [hndl _ h2]
    exact fU i e x hx
  · have hl : i - U.length < g.length := by omega
    have h3 := hndr _ hl
    rw [show U.length + (i - U.length) = i by omega] at h3
    rw [h3] at hx ⊢
    obtain ⟨y, hy, rfl⟩ := List.mem_map.1 hx
    have h2 := hg.lr _ hl y hy
    have e1 : (y.2 + (U.length : Int)).toNat = U.length + y.2.toNat := by omega
    simp only [e1]
    rw [hndr _ h2.2]
    exact fg _ hl y hy
theorem UA_fit (hs : Sound l) (h : ∀ i (hi : i < gs.length), GV l fs gs[i]) : ∀ k, k ≤ gs.length → UFit l fs (UA gs k)
  | 0, _ => by
    rw [UA_zero]
    intro i hi x hx
    have h0 : i = 0 := by simp [topG] at hi; omega
    subst h0
    exact absurd hx (by simp [topG, nd])
  | k + 1, hk => by
    rw [UA_succ (by omega)]
    exact add_fit (UA_gy hs (fun i hi => (h i hi).gx.toGY) k (by omega)) (h k (by omega)).gx.toGY (UA_fit hs h k (by omega)) (gv_fit (h k (by omega)))
theorem all_valid {X : List Nd} (hh : (hierFault l fs).1 = 0) (ht : (typesFault l).1 = 0) (hgs : ∀ i (hi : i < gs.length), GV l fs gs[i]) (h : UniR l (UA gs gs.length) (JA gs gs.length) X) (h60 : X.length ≤ 60) : graphF l fs X = (0, 0) := by
  have hs := sound_of hh
  have hl := all_lub hs ht (fun i hi => (hgs i hi).gx) h
  obtain ⟨P, rep, ρ, T, L, o, hus, hd, rfl⟩ := h
  have h0 : 0 < (UA gs gs.length).length := (UA_gy hs (fun i hi => (hgs i hi).gx.toGY) _ (Nat.le_refl _)).pos
  have hgy := hus.gy hs.vt h0
  have hr := hus.uf.rl 0 h0
  have t := hgy.trr (r := rep 0) (by rw [poolG_len]; exact hr) hd
  have hfit := hus.fit (fs := fs) hs.vt hr (hus.uf.two h0) t (UA_fit hs hgs gs.length (Nat.le_refl _))
  exact gf_mk hh hl.gx h60 hfit.1 hfit.2
/-- two least bounds of the same graphs are the same -/
theorem LubL.uniq {hs : List (List Nd)} {X Y : List Nd} (h : LubL l gs X) (k : LubL l hs Y) (e1 : ∀ i (hi : i < gs.length), ∃ j, ∃ hj : j < hs.length, gs[i] = hs[j]) (e2 : ∀ i (hi : i < hs.length), ∃ j, ∃ hj : j < gs.length, hs[i] = gs[j]) : X = Y := by
  obtain ⟨o, ho, e⟩ := h.can
  obtain ⟨p, hp, e3⟩ := k.can
  have := can_eq h.gx k.gx (h.least Y k.gx.toGY (fun i hi => by obtain ⟨j, hj, e⟩ := e1 i hi; rw [e]; exact k.maps j hj)) (k.least X h.gx.toGY (fun i hi => by obtain ⟨j, hj, e⟩ := e2 i hi; rw [e]; exact h.maps j hj)) ho hp
  rw [e, e3] at this
  exact this.symm
/-- what is wrong with the first graph that is not in the hierarchy -/
noncomputable def witF (l : List Ty) (fs : List Ft) : Nat → List (List Nd) → Fl
  | _, [] => (0, 0)
  | i, g :: gs => if ¬ (withinF l fs g).1 = 0 then ((withinF l fs g).1, (i : Int)) else witF l fs (i + 1) gs
noncomputable def allF (l : List Ty) (fs : List Ft) (gs : List (List Nd)) : Fl := if ¬ (hierFault l fs).1 = 0 then hierFault l fs else if 300 < gs.length then (2, -2) else witF l fs 0 gs
theorem witF_hit : ∀ {gs : List (List Nd)} {s k : Nat} (hk : k < gs.length), (∀ i (hi : i < k), (withinF l fs (gs[i]'(by omega))).1 = 0) → ¬ (withinF l fs gs[k]).1 = 0 → witF l fs s gs = ((withinF l fs gs[k]).1, ((s + k : Nat) : Int))
  | [], _, k, hk, _, _ => absurd hk (by simp)
  | g :: gs, s, 0, _, _, h => by unfold witF; rw [if_pos (by exact h)]; rfl
  | g :: gs, s, k + 1, hk, h0, h => by
    unfold witF
    rw [if_neg (fun hn => hn (h0 0 (by omega)))]
    have := witF_hit (gs := gs) (s := s + 1) (k := k) (by simpa using hk) (fun i hi => h0 (i + 1) (by omega)) h
    rw [this]
    simp only [List.getElem_cons_succ]
    rw [show s + 1 + k = s + (k + 1) by omega]
theorem witF_no : ∀ {gs : List (List Nd)} {s : Nat}, (∀ i (hi : i < gs.length), (withinF l fs gs[i]).1 = 0) → witF l fs s gs = (0, 0)
  | [], _, _ => rfl
  | g :: gs, s, h => by
    unfold witF
    rw [if_neg (fun hn => hn (h 0 (by simp)))]
    exact witF_no (fun i hi => h (i + 1) (by simpa using hi))
/-- what All tells -/
def AllS (l : List Ty) (fs : List Ft) (gs : List (List Nd)) (ok : Bool) (f : Fl) (X : List Nd) : Prop :=
  (¬ (allF l fs gs).1 = 0 ∧ ok = false ∧ f = allF l fs gs ∧ X = []) ∨ ((allF l fs gs).1 = 0 ∧ ok = false ∧ f = (0, 0) ∧ X = [] ∧ ¬ ∃ c, GY l c ∧ ∀ i (hi : i < gs.length), Maps l gs[i] c) ∨ ((allF l fs gs).1 = 0 ∧ ok = false ∧ f = (17, -1) ∧ X = [] ∧ ∃ Y, LubL l gs Y ∧ 60 < Y.length) ∨ ((allF l fs gs).1 = 0 ∧ ok = true ∧ f = (0, 0) ∧ LubL l gs X ∧ X.length ≤ 60 ∧ graphF l fs X = (0, 0))
end all
end Go.Proofs.YteoncmfiiknfbaaDoor
