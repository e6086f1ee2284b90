/- Two graphs are unified: the result is the least graph to which both map. No program in sight. -/
import Derived.Test.YteoncmfiiknfbaaDoorPInto
namespace Go.Proofs.YteoncmfiiknfbaaDoor
open Go.RowKit
section lub
variable {l : List Ty} {fs : List Ft} {ga gb : List Nd}
theorem pair_adm {c : List Nd} {φ ψ : Nat → Nat} (hφ : Hom l ga c φ) (hψ : Hom l gb c ψ) (hya : GY l ga) (hyb : GY l gb) : Adm l (ga ++ gb.map (shN ga.length)) c (fun i => if i < ga.length then φ i else ψ (i - ga.length)) := by
  have hlen : (ga ++ gb.map (shN ga.length)).length = ga.length + gb.length := by simp
  have hnd : ∀ i, i < ga.length + gb.length → ¬ i < ga.length → nd (ga ++ gb.map (shN ga.length)) i = shN ga.length (nd gb (i - ga.length)) ∧ i - ga.length < gb.length := fun i hi hn => by
    have hl : i - ga.length < gb.length := by omega
    have h := nd_right (U := ga) hl
    rw [show ga.length + (i - ga.length) = i by omega] at h
    exact ⟨h, hl⟩
  refine ⟨fun i hi => ?_, fun i hi => ?_, fun i hi x hx => ?_⟩ <;> rw [hlen] at hi <;> by_cases e : i < ga.length
  · simp only [if_pos e]; exact hφ.lt i e
  · simp only [if_neg e]; exact hψ.lt _ (hnd i hi e).2
  · simp only [if_pos e]; rw [nd_left e]; exact hφ.ty i e
  · simp only [if_neg e]; rw [(hnd i hi e).1]; exact hψ.ty _ (hnd i hi e).2
  · simp only [if_pos e]
    rw [nd_left e] at hx
    have h1 := hya.lr i e x hx
    rw [if_pos h1.2]; exact hφ.ln i e x hx
  · simp only [if_neg e]
    rw [(hnd i hi e).1] at hx
    obtain ⟨y, hy, rfl⟩ := List.mem_map.1 hx
    have h1 := hyb.lr _ (hnd i hi e).2 y hy
    have e1 : (y.2 + (ga.length : Int)).toNat = y.2.toNat + ga.length := by omega
    simp only [e1]
    rw [if_neg (by omega), show y.2.toNat + ga.length - ga.length = y.2.toNat by omega]
    exact hψ.ln _ (hnd i hi e).2 y hy
theorem pair_bound {c : List Nd} (hc : GY l c) (ha : Maps l ga c) (hb : Maps l gb c) (hya : GY l ga) (hyb : GY l gb) : Bound l (ga ++ gb.map (shN ga.length)) [(0, ga.length)] := by
  obtain ⟨φ, hφ⟩ := ha
  obtain ⟨ψ, hψ⟩ := hb
  refine ⟨c, _, hc.tr, pair_adm hφ hψ hya hyb, fun p hp => ?_⟩
  rw [List.mem_singleton.1 hp]
  have := hya.pos
  simp [this, hφ.zero, hψ.zero]
/-- the least bound -/
structure Lub (l : List Ty) (ga gb X : List Nd) : Prop where
  gx : GX l X
  left : Maps l ga X
  right : Maps l gb X
  least : ∀ c, GY l c → Maps l ga c → Maps l gb c → Maps l X c
  can : ∃ o, DL X [0] [] o ∧ canG X o = X
theorem uni_lub {X : List Nd} (hga : GX l ga) (hgb : GX l gb) (h : UniR l (ga ++ gb.map (shN ga.length)) [(0, ga.length)] X) : Lub l ga gb X := by
  obtain ⟨P, rep, ρ, T, L, o, hus, hd, rfl⟩ := h
  have hlen : (ga ++ gb.map (shN ga.length)).length = ga.length + gb.length := by simp
  have hp := hga.pos
  have hpb := hgb.pos
  have h0 : 0 < (ga ++ gb.map (shN ga.length)).length := by omega
  have hgy := hus.gy hga.vt h0
  have hr := hus.uf.rl 0 h0
  have hrr := hus.uf.two h0
  have t := hgy.trr (r := rep 0) (by rw [poolG_len]; exact hr) hd
  have hj : rep 0 = rep ga.length := hus.jcov (0, ga.length) (by simp) rep ⟨fun i hi => (hus.uf.two hi).symm, fun w hw => by cases hw⟩
  have z0 : ∀ x : Nd, shN 0 x = x := fun x => nd_ext rfl (by simp [shN])
  refine ⟨t.gx hgy, ?_, ?_, fun c hc ha hb => ?_, ⟨_, ?_, t.can2 t.has t.dl⟩⟩
  · obtain ⟨φ, h1, h2, h3, h4, h5⟩ := hus.into hga.vt hr hrr t (g := ga) (s := 0) hga (fun i hi => by
      rw [Nat.zero_add, z0]
      exact ⟨by omega, nd_left hi⟩) t.has
    exact ⟨φ, by rw [h1]; exact t.zero, h3, h4, h5⟩
  · obtain ⟨φ, h1, h2, h3, h4, h5⟩ := hus.into hga.vt hr hrr t (g := gb) (s := ga.length) hgb (fun i hi => ⟨by omega, nd_right hi⟩) (by rw [← hj]; exact t.has)
    exact ⟨φ, by rw [h1, ← hj]; exact t.zero, h3, h4, h5⟩
  · obtain ⟨φ, hφ⟩ := ha
    obtain ⟨ψ, hψ⟩ := hb
    have hA := pair_adm hφ hψ hga.toGY hgb.toGY
    have hJ : ∀ p ∈ [((0 : Nat), ga.length)], (fun i => if i < ga.length then φ i else ψ (i - ga.length)) p.1 = (fun i => if i < ga.length then φ i else ψ (i - ga.length)) p.2 := fun p hpm => by
      rw [List.mem_singleton.1 hpm]
      simp [hp, hφ.zero, hψ.zero]
    have hres := (hus.only c _ hc.tr hA hJ).1.1 0 h0
    refine hus.least hr hrr t hc.tr hA hJ ?_
    exact hres.symm.trans (by simp [hp, hφ.zero])
  · have := t.dl2 t.has t.dl
    rw [t.zero] at this
    exact this
theorem uni_valid {X : List Nd} (ha : GV l fs ga) (hb : GV l fs gb) (h : UniR l (ga ++ gb.map (shN ga.length)) [(0, ga.length)] X) (h60 : X.length ≤ 60) : graphF l fs X = (0, 0) := by
  have hl := uni_lub ha.gx hb.gx h
  obtain ⟨P, rep, ρ, T, L, o, hus, hd, rfl⟩ := h
  have hlen : (ga ++ gb.map (shN ga.length)).length = ga.length + gb.length := by simp
  have h0 : 0 < (ga ++ gb.map (shN ga.length)).length := by have := ha.gok.pos; omega
  have hgy := hus.gy ha.s.vt h0
  have hr := hus.uf.rl 0 h0
  have t := hgy.trr (r := rep 0) (by rw [poolG_len]; exact hr) hd
  have hfit := hus.fit (fs := fs) ha.s.vt hr (hus.uf.two h0) t (fun i hi x hx => by
    rw [hlen] at hi
    by_cases e : i < ga.length
    · rw [nd_left e] at hx ⊢
      have h1 := ha.lt e hx
      have h2 := (ha.gx.lr i e x hx).2
      rw [nd_left h2]
      exact ⟨⟨h1.1, h1.2.1⟩, h1.2.2⟩
    · have hl2 : i - ga.length < gb.length := by omega
      have h3 := nd_right (U := ga) hl2
      rw [show ga.length + (i - ga.length) = i by omega] at h3
      rw [h3] at hx ⊢
      obtain ⟨y, hy, rfl⟩ := List.mem_map.1 hx
      have h1 := hb.lt hl2 hy
      have h2 := (hb.gx.lr _ hl2 y hy).2
      have h4 := (hb.gx.lr _ hl2 y hy).1
      have e1 : (y.2 + (ga.length : Int)).toNat = ga.length + y.2.toNat := by omega
      simp only [e1]
      rw [nd_right h2]
      exact ⟨⟨h1.1, h1.2.1⟩, h1.2.2⟩)
  exact gf_mk ha.h hl.gx h60 hfit.1 hfit.2
/-- two least bounds in canonical form are the same -/
theorem Lub.uniq {X Y : List Nd} (h : Lub l ga gb X) (k : Lub l ga gb Y) : X = Y := by
  obtain ⟨o, ho, e⟩ := h.can
  obtain ⟨p, hp, e2⟩ := k.can
  have := can_eq h.gx k.gx (h.least Y k.gx.toGY k.left k.right) (k.least X h.gx.toGY h.left h.right) ho hp
  rw [e, e2] at this
  exact this.symm
theorem maps_len {X Y : List Nd} (hx : GX l X) (hy : GX l Y) (h : Maps l X Y) (k : Maps l Y X) : X.length = Y.length := by
  obtain ⟨φ, hφ⟩ := h
  obtain ⟨ψ, hψ⟩ := k
  exact (turn_hom hx hy hφ hψ).len.symm
end lub
end Go.Proofs.YteoncmfiiknfbaaDoor
