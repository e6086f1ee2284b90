/- What these functions of the program compute, at every world: glosswright/unify.Into, glosswright/unify.sized, glosswright/unify.Unify. Two graphs are unified: the result is the least graph to which both map. No program in sight. Generalization as the greatest bound: the graph of the pairs of nodes, and what maps to it. No program in sight. Many graphs are unified at once: the result is the least graph to which all map. No program in sight. The engine's third part: regions that draw their order, with intervals of blocks. -/
import Derived.Test.YteoncmfiiknfbaaDoorU
import Derived.Test.YteoncmfiiknfbaaDoorPGraph
import Derived.Test.YteoncmfiiknfbaaDoorOrd
import Derived.Test.YteoncmfiiknfbaaDoorEng4
namespace Go.Proofs.YteoncmfiiknfbaaDoor
open Go.RowKit
def UniR (l : List Ty) (U : List Nd) (J : List (Nat × Nat)) (X : List Nd) : Prop := ∃ P rep ρ T L o, US l U J P rep ρ T L [] ∧ DL (poolG U.length rep T L) [rep 0] [] o ∧ X = canG (poolG U.length rep T L) o
theorem shN_zero (g : List Nd) : g.map (shN 0) = g := by
  have h : ∀ x : Nd, shN 0 x = x := fun x => by
    refine nd_ext rfl ?_
    simp [shN]
  rw [List.map_congr_left (g := id) (fun x _ => h x), List.map_id]
theorem two_feat {nf : Nat} {U g : List Nd} (hU : ∀ i, i < U.length → ∀ z ∈ (nd U i).ln, 0 ≤ z.1 ∧ z.1 < nf) (hg : ∀ i, i < g.length → ∀ z ∈ (nd g i).ln, 0 ≤ z.1 ∧ z.1 < nf) : ∀ i, i < (U ++ g.map (shN U.length)).length → ∀ z ∈ (nd (U ++ g.map (shN U.length)) i).ln, 0 ≤ z.1 ∧ z.1 < nf := fun i hi z hz => by
  by_cases e : i < U.length
  · rw [nd_left e] at hz; exact hU i e z hz
  · have hl : i - U.length < g.length := by simp at hi; omega
    have h := nd_right (U := U) hl
    rw [show U.length + (i - U.length) = i by omega] at h
    rw [h] at hz
    obtain ⟨y, hy, rfl⟩ := List.mem_map.1 hz
    exact hg _ hl y hy
theorem gok_feat {nt nf : Nat} {g : List Nd} (h : GOk nt nf g) : ∀ i, i < g.length → ∀ z ∈ (nd g i).ln, 0 ≤ z.1 ∧ z.1 < nf := fun i hi z hz => by
  rw [nd_eq hi] at hz
  have := h.ln i hi z hz
  omega
theorem pool_nil {w : World} {ob bp cp ct cl : Nat} {c0 c1 : Value} (h : Blk w bp 64 #[c0, c1, .slice none 0 cp, .slice none 0 ct, .slice none 0 cl]) (hp : cp = 0) (ht : ct = 0) (hl : cl = 0) : PoolAt w ob bp c0 c1 0 none none none cp ct cl (fun x => x) (fun _ => 0) (fun _ => .slice none 0 0) (fun _ => []) := by
  subst hp ht hl
  exact ⟨h, Own.nil _ _ _ _, Own.nil _ _ _ _, Own.nil _ _ _ _, fun x hx => absurd hx (Nat.not_lt_zero _), fun g hg => by cases hg⟩
theorem US.first {l : List Ty} {g : List Nd} (hg : GY l g) : US l g [] (addP 0 (fun x => x)) (fun x => if x < 0 then x else x) (fun _ => 0) (addT 0 (fun _ => 0) g) (addL 0 (fun _ => []) g) [] := by
  have h := (US.nil (l := l) (P := fun x => x) (rep := fun x => x) (ρ := fun _ => 0) (T := fun _ => 0) (L := fun _ => [])).add hg (fun p hp => by cases hp)
  rw [List.nil_append, show ([] : List Nd).length = 0 from rfl, shN_zero] at h
  exact h
theorem NodesIn.chgB {w0 w w2 : World} {ob b : Nat} {G : Option Addr} {g : List Nd} (h : NodesIn w0 G g) (hB : Bel w0 w) (hc : Chg ob [b] w w2) (h1 : w0.heap.size ≤ ob) (h2 : w0.heap.size ≤ b) : NodesIn w2 G g := h.mono (hB.chg hc h1 (fun g hg => by rw [List.mem_singleton.1 hg]; exact h2))
def SizedS (A : Option Addr) (n c : Nat) (b : Bool) (A' : Option Addr) (n' c' : Nat) (ok : Bool) (x y : Int) : Prop := (b = false ∧ A' = none ∧ n' = 0 ∧ c' = 0 ∧ ok = false ∧ x = 0 ∧ y = 0) ∨ (b = true ∧ 60 < n ∧ A' = none ∧ n' = 0 ∧ c' = 0 ∧ ok = false ∧ x = 17 ∧ y = -1) ∨ (b = true ∧ n ≤ 60 ∧ A' = A ∧ n' = n ∧ c' = c ∧ ok = true ∧ x = 0 ∧ y = 0)
theorem ret_un {A : Option Addr} {n c : Nat} {ok : Bool} {f : Fl} {x y : Int} {X : List Nd} (hn : X.length = n) (hc : X.length = c) (hx : f = (x, y)) : Ending.returned (.tuple #[.agg #[.slice A n c], .bool ok, .agg #[.int .i64 x, .int .i64 y]]) = .returned (.tuple #[.agg #[.slice A X.length X.length], .bool ok, .agg #[.int .i64 f.1, .int .i64 f.2]]) := by
  subst hn hx
  rw [← hc]
theorem sized_any (A : Option Addr) (n c : Nat) (b : Bool) (w : World) : Calls Tryd.prog 30 #[.agg #[.slice A n c], .bool b] w fun e w' => (∃ A' n' c' ok x y, e = .returned (.tuple #[.agg #[.slice A' n' c'], .bool ok, .agg #[.int .i64 x, .int .i64 y]]) ∧ SizedS A n c b A' n' c' ok x y) ∧ Bel w w' := by
 refine enter Tryd.func30 Tryd.ntmps30 rfl (Nat.le_of_ble_eq_true rfl) ?_
 have hB : Bel w w := Below.refl _ _
 refine c_seq (c_region ?_)
 refine wl_bx (v := .agg #[_]) (cs := #[_]) rfl rfl (fun b2 w1 hb2 hs hr => ?_)
 have lo2 := lT (Bel.size hB) hr
 replace hB := hB.tr0 hs
 clear hs
 clear hr
 refine wl_al (cs := #[.slice none 0 0]) ze28_GTgt rfl (fun b4 w2 hb4 hs hr => ?_)
 have or_b2_b4 : b2 < b4 := lL hb2.lt hr
 have lo4 := lT (Bel.size hB) hr
 replace hB := hB.tr0 hs
 replace hb2 := hb2.tr0 hs
 clear hs
 clear hr
 refine waB rfl ?_
 refine wl_al (cs := #[.int .i64 0, .int .i64 0]) ze30_SFind rfl (fun b6 w3 hb6 hs hr => ?_)
 have or_b2_b6 : b2 < b6 := lL hb2.lt hr
 have or_b4_b6 : b4 < b6 := lL hb4.lt hr
 have lo6 := lT (Bel.size hB) hr
 replace hB := hB.tr0 hs
 replace hb2 := hb2.tr0 hs
 replace hb4 := hb4.tr0 hs
 clear hs
 clear hr
 refine x_nil (e_S (c_seq (c_seq (c_region (wmB rfl ?_)))))
 refine wl (r_not rfl) (x_nil (e_S ?_))
 refine c_if rfl (fun c8 => ?_) (fun c8 => ?_)
 ·
  have hbf : b = false := by simpa using c8
  refine c_seq (c_region (wl (r_bd (vs := #[]) (cs := #[.slice none 0 0]) (by simp) kR) (wl (r_bd (vs := #[]) (cs := #[.int .i64 0, .int .i64 0]) (by simp) kR) ?_)))
  refine wl_stW hb4 rfl rfl sz28_GTgt rfl oneA (fun w4 hq hs => ?_)
  replace hB := hB.tr1 hs lo4
  replace hb2 := hb2.tr1 hs om
  replace hb6 := hb6.tr1 hs om
  clear hs
  replace hb4 := hq
  refine waB rfl ?_
  refine wl_stW hb6 rfl rfl sz30_SFind rfl oneA (fun w5 hq hs => ?_)
  replace hB := hB.tr1 hs lo6
  replace hb2 := hb2.tr1 hs om
  replace hb4 := hb4.tr1 hs om
  clear hs
  replace hb6 := hq
  refine x_nil (e_S (c_ret (e_Sr (fin3 (.inl rfl) rfl (rr_cell U28 rfl rfl hb4.range0 sz28_GTgt) rfl (rr_cell U30 rfl rfl hb6.range0 sz30_SFind) ?_))))
  exact ⟨⟨_, _, _, _, _, _, rfl, .inl ⟨hbf, rfl, rfl, rfl, rfl, rfl, rfl⟩⟩, hB⟩
 have hbt : b = true := by simpa using c8
 refine c_skip (e_S (c_seq (c_seq (c_region (wl (r_fa U28 sz26_GTgt dE rfl rfl rfl) ?_)))))
 refine wl (r_ld1 (v := .slice _ _ _) U26 rfl rfl (hb2.cell rfl)) (wl (r_len U26 rfl) (wl (r_gtr rfl rfl) (x_nil (e_S ?_))))
 refine c_ifd rfl (fun c14 => ?_) (fun c14 => ?_)
 ·
  have h60 : 60 < n := by omega
  refine c_seq (c_region (wl (r_bd (vs := #[]) (cs := #[.slice none 0 0]) (by simp) kR) (wl (r_bd2 (v0 := .int _ _) (v1 := .int _ _) (fun v0 v1 => #[v0, v1]) rfl rfl kR) ?_)))
  refine wl_stW hb4 rfl rfl sz28_GTgt rfl oneA (fun w6 hq hs => ?_)
  replace hB := hB.tr1 hs lo4
  replace hb2 := hb2.tr1 hs om
  replace hb6 := hb6.tr1 hs om
  clear hs
  replace hb4 := hq
  refine waB rfl ?_
  refine wl_stW hb6 rfl rfl sz30_SFind rfl oneA (fun w7 hq hs => ?_)
  replace hB := hB.tr1 hs lo6
  replace hb2 := hb2.tr1 hs om
  replace hb4 := hb4.tr1 hs om
  clear hs
  replace hb6 := hq
  refine x_nil (e_S (c_ret (e_Sr (fin3 (.inl rfl) rfl (rr_cell U28 rfl rfl hb4.range0 sz28_GTgt) rfl (rr_cell U30 rfl rfl hb6.range0 sz30_SFind) ?_))))
  exact ⟨⟨_, _, _, _, _, _, rfl, .inr (.inl ⟨hbt, h60, rfl, rfl, rfl, rfl, rfl, rfl⟩)⟩, hB⟩
 have h60 : n ≤ 60 := by omega
 refine c_skip (e_S (c_seq (c_region (wl (r_ldS U28 rfl rfl hb2.range0 sz28_GTgt) (wl (r_bd (vs := #[]) (cs := #[.int .i64 0, .int .i64 0]) (by simp) kR) ?_)))))
 refine wl_stW hb4 rfl rfl sz28_GTgt rfl oneA (fun w8 hq hs => ?_)
 replace hB := hB.tr1 hs lo4
 replace hb2 := hb2.tr1 hs om
 replace hb6 := hb6.tr1 hs om
 clear hs
 replace hb4 := hq
 refine waB rfl ?_
 refine wl_stW hb6 rfl rfl sz30_SFind rfl oneA (fun w9 hq hs => ?_)
 replace hB := hB.tr1 hs lo6
 replace hb2 := hb2.tr1 hs om
 replace hb4 := hb4.tr1 hs om
 clear hs
 replace hb6 := hq
 refine x_nil (e_S (c_ret (fin3 (.inl rfl) rfl (rr_cell U28 rfl rfl hb4.range0 sz28_GTgt) rfl (rr_cell U30 rfl rfl hb6.range0 sz30_SFind) ?_)))
 exact ⟨⟨_, _, _, _, _, _, rfl, .inr (.inr ⟨hbt, h60, rfl, rfl, rfl, rfl, rfl, rfl⟩)⟩, hB⟩
end Go.Proofs.YteoncmfiiknfbaaDoor
namespace Go.Proofs.YteoncmfiiknfbaaDoor
open Go.RowKit
section lub
variable {l : List Ty} {fs : List Ft} {ga gb : List Nd}
structure Lub (l : List Ty) (ga gb X : List Nd) : Prop where
  gx : GX l X
  left : Maps l ga X
  right : Maps l gb X
  least : ∀ c, GY l c → Maps l ga c → Maps l gb c → Maps l X c
  can : ∃ o, DL X [0] [] o ∧ canG X o = X
theorem Lub.uniq {X Y : List Nd} (h : Lub l ga gb X) (k : Lub l ga gb Y) : X = Y := by
  obtain ⟨o, ho, e⟩ := h.can
  obtain ⟨p, hp, e2⟩ := k.can
  have := can_eq h.gx k.gx (h.least Y k.gx.toGY k.left k.right) (k.least X h.gx.toGY h.left h.right) ho hp
  rw [e, e2] at this
  exact this.symm
theorem maps_len {X Y : List Nd} (hx : GX l X) (hy : GX l Y) (h : Maps l X Y) (k : Maps l Y X) : X.length = Y.length := by
  obtain ⟨φ, hφ⟩ := h
  obtain ⟨ψ, hψ⟩ := k
  exact (turn_hom hx hy hφ hψ).len.symm
end lub
end Go.Proofs.YteoncmfiiknfbaaDoor
namespace Go.Proofs.YteoncmfiiknfbaaDoor
open Go.RowKit
theorem top_of {l : List Ty} (h : (typesFault l).1 = 0) : ∀ (n i : Nat), i ≤ n → i < l.length → sub l i 0 = true
  | n, i, hin, hi => by
    have hv := vt_of h
    by_cases e : i = 0
    · subst e; exact sub_refl hv 0
    · have ht := (tyFault_ok hi (types_ok h hi)).2.2.1
      have hne : (l[i]).par ≠ [] := fun hp => by rw [hp] at ht; simp [e] at ht
      obtain ⟨p, hp⟩ := List.exists_mem_of_ne_nil _ hne
      have hpr := hv i hi p hp
      cases n with
      | zero => omega
      | succ n =>
        have := top_of h n p.toNat om om
        exact sub_tr hv (sub_par hv hi hp) this
section gen
variable {l : List Ty} {fs : List Ft} {a b c : List Nd}
variable {o : List Nat}
end gen
end Go.Proofs.YteoncmfiiknfbaaDoor
namespace Go.Proofs.YteoncmfiiknfbaaDoor
open Go.RowKit
def topG : List Nd := [⟨0, []⟩]
def addU (U g : List Nd) : List Nd := U ++ g.map (shN U.length)
def UA (gs : List (List Nd)) (k : Nat) : List Nd := (gs.take k).foldl addU topG
def JA (gs : List (List Nd)) (k : Nat) : List (Nat × Nat) := (List.range k).map (fun i => (0, (UA gs i).length))
theorem UA_zero (gs : List (List Nd)) : UA gs 0 = topG := by simp [UA]
theorem UA_succ {gs : List (List Nd)} {k : Nat} (hk : k < gs.length) : UA gs (k + 1) = UA gs k ++ (gs[k]).map (shN (UA gs k).length) := by
  unfold UA
  rw [List.take_succ_eq_append_getElem hk, List.foldl_append]
  rfl
theorem JA_succ (gs : List (List Nd)) (k : Nat) : JA gs (k + 1) = JA gs k ++ [(0, (UA gs k).length)] := by
  unfold JA; rw [List.range_succ, List.map_append]; rfl
theorem UA_len {gs : List (List Nd)} (h : ∀ i (hi : i < gs.length), (gs[i]).length ≤ 60) : ∀ k, k ≤ gs.length → 1 ≤ (UA gs k).length ∧ (UA gs k).length ≤ 1 + 60 * k
  | 0, _ => by rw [UA_zero]; exact ⟨Nat.le_refl _, by simp [topG]⟩
  | k + 1, hk => by
    have h1 := UA_len h k om
    have h2 := h k om
    rw [UA_succ om, List.length_append, List.length_map]
    omega
theorem UA_feat {nf : Nat} {gs : List (List Nd)} (h : ∀ i (hi : i < gs.length), ∀ j, j < (gs[i]).length → ∀ z ∈ (nd (gs[i]) j).ln, 0 ≤ z.1 ∧ z.1 < nf) : ∀ k, k ≤ gs.length → ∀ i, i < (UA gs k).length → ∀ z ∈ (nd (UA gs k) i).ln, 0 ≤ z.1 ∧ z.1 < nf
  | 0, _ => fun i hi z hz => by
    rw [UA_zero] at hi hz
    have h0 : i = 0 := by simp [topG] at hi; omega
    subst h0
    exact absurd hz (by simp [topG, nd])
  | k + 1, hk => by
    rw [UA_succ om]
    exact two_feat (UA_feat h k om) (h k om)
section all
variable {l : List Ty} {fs : List Ft} {gs : List (List Nd)}
theorem topG_gy (hs : Sound l) : GY l topG := by
  have h0 : ∀ i, i < topG.length → i = 0 := fun i hi => by simp [topG] at hi; omega
  refine ⟨hs.vt, by simp [topG], fun i hi => ?_, fun i hi => ?_, fun i hi x hx => ?_⟩ <;> rw [h0 i hi] at *
  · have := hs.pos
    simp [topG, nd]; omega
  · exact List.Pairwise.nil
  · exact absurd hx (by simp [topG, nd])
theorem add_gy {U g : List Nd} (hU : GY l U) (hg : GY l g) : GY l (addU U g) := by
  have hlen : (addU U g).length = U.length + g.length := by simp [addU]
  have hp := hU.pos
  have hnd : ∀ i, i < U.length + g.length → ¬ i < U.length → nd (addU U g) i = shN U.length (nd g (i - U.length)) ∧ i - U.length < g.length := fun i hi hn => by
    have hl : i - U.length < g.length := by omega
    have h := nd_right (U := U) hl
    rw [show U.length + (i - U.length) = i by omega] at h
    exact ⟨h, hl⟩
  have hndl : ∀ i, i < U.length → nd (addU U g) i = nd U i := fun i hi => nd_left hi
  refine ⟨hU.vt, by omega, fun i hi => ?_, fun i hi => ?_, fun i hi x hx => ?_⟩ <;> rw [hlen] at hi <;> by_cases e : i < U.length
  · rw [hndl i e]; exact hU.tr i e
  · rw [(hnd i hi e).1]; exact hg.tr _ (hnd i hi e).2
  · rw [hndl i e]; exact hU.srt i e
  · rw [(hnd i hi e).1]
    exact List.Pairwise.map _ (fun a b h => h) (hg.srt _ (hnd i hi e).2)
  · rw [hndl i e] at hx
    have := hU.lr i e x hx
    omega
  · rw [(hnd i hi e).1] at hx
    obtain ⟨y, hy, rfl⟩ := List.mem_map.1 hx
    have := hg.lr _ (hnd i hi e).2 y hy
    show 0 ≤ y.2 + (U.length : Int) ∧ (y.2 + (U.length : Int)).toNat < _
    omega
theorem add_adm {U g c : List Nd} {θ φ : Nat → Nat} (hU : GY l U) (hg : GY l g) (hθ : Adm l U c θ) (hφ : Hom l g c φ) : Adm l (addU U g) c (fun i => if i < U.length then θ i else φ (i - U.length)) := by
  have hlen : (addU U g).length = U.length + g.length := by simp [addU]
  have hnd : ∀ i, i < U.length + g.length → ¬ i < U.length → nd (addU U g) i = shN U.length (nd g (i - U.length)) ∧ i - U.length < g.length := fun i hi hn => by
    have hl : i - U.length < g.length := by omega
    have h := nd_right (U := U) hl
    rw [show U.length + (i - U.length) = i by omega] at h
    exact ⟨h, hl⟩
  have hndl : ∀ i, i < U.length → nd (addU U g) i = nd U i := fun i hi => nd_left hi
  refine ⟨fun i hi => ?_, fun i hi => ?_, fun i hi x hx => ?_⟩ <;> rw [hlen] at hi <;> by_cases e : i < U.length
  · simp only [if_pos e]; exact hθ.lt i e
  · simp only [if_neg e]; exact hφ.lt _ (hnd i hi e).2
  · simp only [if_pos e]; rw [hndl i e]; exact hθ.ty i e
  · simp only [if_neg e]; rw [(hnd i hi e).1]; exact hφ.ty _ (hnd i hi e).2
  · simp only [if_pos e]
    rw [hndl i e] at hx
    have h1 := hU.lr i e x hx
    rw [if_pos h1.2]; exact hθ.ln i e x hx
  · simp only [if_neg e]
    rw [(hnd i hi e).1] at hx
    obtain ⟨y, hy, rfl⟩ := List.mem_map.1 hx
    have h1 := hg.lr _ (hnd i hi e).2 y hy
    have e1 : (y.2 + (U.length : Int)).toNat = y.2.toNat + U.length := by omega
    simp only [e1]
    rw [if_neg om, show y.2.toNat + U.length - U.length = y.2.toNat by omega]
    exact hφ.ln _ (hnd i hi e).2 y hy
theorem UA_gy (hs : Sound l) (h : ∀ i (hi : i < gs.length), GY l gs[i]) : ∀ k, k ≤ gs.length → GY l (UA gs k)
  | 0, _ => by rw [UA_zero]; exact topG_gy hs
  | k + 1, hk => by
    rw [UA_succ om]
    exact add_gy (UA_gy hs h k om) (h k om)
theorem JA_lt (h : ∀ i (hi : i < gs.length), (gs[i]).length ≤ 60) (hp : ∀ i (hi : i < gs.length), 0 < (gs[i]).length) : ∀ k, k ≤ gs.length → ∀ p ∈ JA gs k, p.1 < (UA gs k).length ∧ p.2 < (UA gs k).length
  | 0, _ => fun p hp => by cases hp
  | k + 1, hk => fun p hm => by
    have hl : (UA gs (k + 1)).length = (UA gs k).length + (gs[k]'om).length := by rw [UA_succ om, List.length_append, List.length_map]
    have h1 := hp k om
    have h2 := UA_len h k om
    rw [JA_succ] at hm
    rcases List.mem_append.1 hm with hm | hm
    · have := JA_lt h hp k om p hm
      omega
    · rw [List.mem_singleton.1 hm]
      show 0 < _ ∧ (UA gs k).length < _
      omega
theorem all_adm (hs : Sound l) (ht : (typesFault l).1 = 0) (hy : ∀ i (hi : i < gs.length), GY l gs[i]) {c : List Nd} (hc : GY l c) (hm : ∀ i (hi : i < gs.length), Maps l gs[i] c) : ∀ k, k ≤ gs.length → ∃ θ, Adm l (UA gs k) c θ ∧ (∀ p ∈ JA gs k, θ p.1 = θ p.2) ∧ θ 0 = 0
  | 0, _ => by
    rw [UA_zero]
    have h0 : ∀ i, i < topG.length → i = 0 := fun i hi => by simp [topG] at hi; omega
    refine ⟨fun _ => 0, ⟨fun i hi => hc.pos, fun i hi => ?_, fun i hi x hx => ?_⟩, fun p hp => (by cases hp), rfl⟩
    · rw [h0 i hi]
      have := hc.tr 0 hc.pos
      exact top_of ht _ _ (Nat.le_refl _) om
    · rw [h0 i hi] at hx
      exact absurd hx (by simp [topG, nd])
  | k + 1, hk => by
    obtain ⟨θ, h1, h2, h3⟩ := all_adm hs ht hy hc hm k om
    obtain ⟨φ, hφ⟩ := hm k om
    have hU := UA_gy hs hy k om
    have hp := hU.pos
    rw [UA_succ om, JA_succ]
    refine ⟨_, add_adm hU (hy k om) h1 hφ, fun p hpm => ?_, by simp [hp, h3]⟩
    rcases List.mem_append.1 hpm with hpm | hpm
    · have hl : ∀ j, j ≤ k → ∀ p ∈ JA gs j, p.1 < (UA gs k).length ∧ p.2 < (UA gs k).length := fun j hj p hpj => by
        obtain ⟨i, hi, rfl⟩ := List.mem_map.1 hpj
        have hik : i < k := by have := List.mem_range.1 hi; omega
        have hmo : ∀ d, i + 1 + d ≤ gs.length → (UA gs i).length < (UA gs (i + 1 + d)).length := fun d => by
          induction d with
          | zero =>
            intro hd
            have := (hy i om).pos
            rw [Nat.add_zero, UA_succ om, List.length_append, List.length_map]; omega
          | succ d ih =>
            intro hd
            have := ih om
            rw [show i + 1 + (d + 1) = (i + 1 + d) + 1 by omega, UA_succ om, List.length_append]; omega
        have := hmo (k - (i + 1)) om
        rw [show i + 1 + (k - (i + 1)) = k by omega] at this
        exact ⟨hU.pos, this⟩
      have h4 := hl k (Nat.le_refl _) p hpm
      simp only [if_pos h4.1, if_pos h4.2]
      exact h2 p hpm
    · rw [List.mem_singleton.1 hpm]
      simp [hp, h3, hφ.zero]
theorem all_bound (hs : Sound l) (ht : (typesFault l).1 = 0) (hy : ∀ i (hi : i < gs.length), GY l gs[i]) {k : Nat} (hk : k ≤ gs.length) (hn : ¬ Bound l (UA gs k) (JA gs k)) : ¬ ∃ c, GY l c ∧ ∀ i (hi : i < gs.length), Maps l gs[i] c := fun ⟨c, hc, hm⟩ => by
  obtain ⟨θ, h1, h2, _⟩ := all_adm hs ht hy hc hm k hk
  exact hn ⟨c, θ, hc.tr, h1, h2⟩
structure LubL (l : List Ty) (gs : List (List Nd)) (X : List Nd) : Prop where
  gx : GX l X
  maps : ∀ i (hi : i < gs.length), Maps l gs[i] X
  least : ∀ c, GY l c → (∀ i (hi : i < gs.length), Maps l gs[i] c) → Maps l X c
  can : ∃ o, DL X [0] [] o ∧ canG X o = X
theorem UA_at {i : Nat} (hi : i < gs.length) : ∀ d, i + 1 + d ≤ gs.length → ∀ j, j < (gs[i]).length → (UA gs i).length + j < (UA gs (i + 1 + d)).length ∧ nd (UA gs (i + 1 + d)) ((UA gs i).length + j) = shN (UA gs i).length (nd gs[i] j)
  | 0, _ => fun j hj => by
    rw [Nat.add_zero, UA_succ hi]
    exact ⟨by rw [List.length_append, List.length_map]; omega, nd_right hj⟩
  | d + 1, hd => fun j hj => by
    have h := UA_at hi d om j hj
    rw [show i + 1 + (d + 1) = (i + 1 + d) + 1 by omega, UA_succ om]
    exact ⟨by rw [List.length_append]; omega, by rw [nd_left h.1]; exact h.2⟩
theorem all_lub {X : List Nd} (hs : Sound l) (ht : (typesFault l).1 = 0) (hgs : ∀ i (hi : i < gs.length), GX l gs[i]) (h : UniR l (UA gs gs.length) (JA gs gs.length) X) : LubL l gs X := by
  obtain ⟨P, rep, ρ, T, L, o, hus, hd, rfl⟩ := h
  have hy : ∀ i (hi : i < gs.length), GY l gs[i] := fun i hi => (hgs i hi).toGY
  have h0 : 0 < (UA gs gs.length).length := (UA_gy hs hy _ (Nat.le_refl _)).pos
  have hgy := hus.gy hs.vt h0
  have hr := hus.uf.rl 0 h0
  have hrr := hus.uf.two h0
  have t := hgy.trr (r := rep 0) (by rw [poolG_len]; exact hr) hd
  refine ⟨t.gx hgy, fun i hi => ?_, fun c hc hm => ?_, ⟨_, ?_, t.can2 t.has t.dl⟩⟩
  · have hj : rep 0 = rep (UA gs i).length := hus.jcov (0, (UA gs i).length) (List.mem_map.2 ⟨i, List.mem_range.2 hi, rfl⟩) rep ⟨fun i hi => (hus.uf.two hi).symm, fun w hw => by cases hw⟩
    obtain ⟨φ, h1, h2, h3, h4, h5⟩ := hus.into hs.vt hr hrr t (g := gs[i]) (s := (UA gs i).length) (hgs i hi) (fun j hj => by
      have := UA_at hi (gs.length - (i + 1)) om j hj
      rw [show i + 1 + (gs.length - (i + 1)) = gs.length by omega] at this
      exact this) (by rw [← hj]; exact t.has)
    exact ⟨φ, by rw [h1, ← hj]; exact t.zero, h3, h4, h5⟩
  · obtain ⟨θ, hA, hJ, hz⟩ := all_adm hs ht hy hc hm gs.length (Nat.le_refl _)
    have hres := (hus.only c _ hc.tr hA hJ).1.1 0 h0
    refine hus.least hr hrr t hc.tr hA hJ ?_
    exact hres.symm.trans hz
  · have := t.dl2 t.has t.dl
    rw [t.zero] at this
    exact this
def UFit (l : List Ty) (fs : List Ft) (U : List Nd) : Prop := ∀ i, i < U.length → ∀ x ∈ (nd U i).ln, (0 ≤ x.1 ∧ x.1 < fs.length) ∧ sub l (nd U i).ty.toNat (ftAt fs x.1).of.toNat = true ∧ sub l (nd U x.2.toNat).ty.toNat (ftAt fs x.1).val.toNat = true
theorem gv_fit {g : List Nd} (h : GV l fs g) : UFit l fs g := fun i hi x hx => by
  have h1 := h.lt hi hx
  exact ⟨⟨h1.1, h1.2.1⟩, h1.2.2⟩
theorem add_fit {U g : List Nd} (hU : GY l U) (hg : GY l g) (fU : UFit l fs U) (fg : UFit l fs g) : UFit l fs (addU U g) := fun i hi x hx => by
  have hlen : (addU U g).length = U.length + g.length := by simp [addU]
  rw [hlen] at hi
  have hndl : ∀ i, i < U.length → nd (addU U g) i = nd U i := fun i hi => nd_left hi
  have hndr : ∀ i, i < g.length → nd (addU U g) (U.length + i) = shN U.length (nd g i) := fun i hi => nd_right hi
  by_cases e : i < U.length
  · rw [hndl i e] at hx ⊢
    have h2 := (hU.lr i e x hx).2
    rw [hndl _ h2]
    exact fU i e x hx
  · have hl : i - U.length < g.length := by omega
    have h3 := hndr _ hl
    rw [show U.length + (i - U.length) = i by omega] at h3
    rw [h3] at hx ⊢
    obtain ⟨y, hy, rfl⟩ := List.mem_map.1 hx
    have h2 := hg.lr _ hl y hy
    have e1 : (y.2 + (U.length : Int)).toNat = U.length + y.2.toNat := by omega
    simp only [e1]
    rw [hndr _ h2.2]
    exact fg _ hl y hy
theorem UA_fit (hs : Sound l) (h : ∀ i (hi : i < gs.length), GV l fs gs[i]) : ∀ k, k ≤ gs.length → UFit l fs (UA gs k)
  | 0, _ => by
    rw [UA_zero]
    intro i hi x hx
    have h0 : i = 0 := by simp [topG] at hi; omega
    subst h0
    exact absurd hx (by simp [topG, nd])
  | k + 1, hk => by
    rw [UA_succ om]
    exact add_fit (UA_gy hs (fun i hi => (h i hi).gx.toGY) k om) (h k om).gx.toGY (UA_fit hs h k om) (gv_fit (h k om))
theorem all_valid {X : List Nd} (hh : (hierFault l fs).1 = 0) (ht : (typesFault l).1 = 0) (hgs : ∀ i (hi : i < gs.length), GV l fs gs[i]) (h : UniR l (UA gs gs.length) (JA gs gs.length) X) (h60 : X.length ≤ 60) : graphF l fs X = (0, 0) := by
  have hs := sound_of hh
  have hl := all_lub hs ht (fun i hi => (hgs i hi).gx) h
  obtain ⟨P, rep, ρ, T, L, o, hus, hd, rfl⟩ := h
  have h0 : 0 < (UA gs gs.length).length := (UA_gy hs (fun i hi => (hgs i hi).gx.toGY) _ (Nat.le_refl _)).pos
  have hgy := hus.gy hs.vt h0
  have hr := hus.uf.rl 0 h0
  have t := hgy.trr (r := rep 0) (by rw [poolG_len]; exact hr) hd
  have hfit := hus.fit (fs := fs) hs.vt hr (hus.uf.two h0) t (UA_fit hs hgs gs.length (Nat.le_refl _))
  exact gf_mk hh hl.gx h60 hfit.1 hfit.2
theorem LubL.uniq {hs : List (List Nd)} {X Y : List Nd} (h : LubL l gs X) (k : LubL l hs Y) (e1 : ∀ i (hi : i < gs.length), ∃ j, ∃ hj : j < hs.length, gs[i] = hs[j]) (e2 : ∀ i (hi : i < hs.length), ∃ j, ∃ hj : j < gs.length, hs[i] = gs[j]) : X = Y := by
  obtain ⟨o, ho, e⟩ := h.can
  obtain ⟨p, hp, e3⟩ := k.can
  have := can_eq h.gx k.gx (h.least Y k.gx.toGY (fun i hi => by obtain ⟨j, hj, e⟩ := e1 i hi; rw [e]; exact k.maps j hj)) (k.least X h.gx.toGY (fun i hi => by obtain ⟨j, hj, e⟩ := e2 i hi; rw [e]; exact h.maps j hj)) ho hp
  rw [e, e3] at this
  exact this.symm
noncomputable def witF (l : List Ty) (fs : List Ft) : Nat → List (List Nd) → Fl
  | _, [] => (0, 0)
  | i, g :: gs => if ¬ (withinF l fs g).1 = 0 then ((withinF l fs g).1, (i : Int)) else witF l fs (i + 1) gs
noncomputable def allF (l : List Ty) (fs : List Ft) (gs : List (List Nd)) : Fl := if ¬ (hierFault l fs).1 = 0 then hierFault l fs else if 300 < gs.length then (2, -2) else witF l fs 0 gs
theorem witF_hit : ∀ {gs : List (List Nd)} {s k : Nat} (hk : k < gs.length), (∀ i (hi : i < k), (withinF l fs (gs[i]'om)).1 = 0) → ¬ (withinF l fs gs[k]).1 = 0 → witF l fs s gs = ((withinF l fs gs[k]).1, ((s + k : Nat) : Int))
  | [], _, k, hk, _, _ => absurd hk (by simp)
  | g :: gs, s, 0, _, _, h => by unfold witF; rw [if_pos (by exact h)]; rfl
  | g :: gs, s, k + 1, hk, h0, h => by
    unfold witF
    rw [if_neg (fun hn => hn (h0 0 om))]
    have := witF_hit (gs := gs) (s := s + 1) (k := k) (by simpa using hk) (fun i hi => h0 (i + 1) om) h
    rw [this]
    simp only [List.getElem_cons_succ]
    rw [show s + 1 + k = s + (k + 1) by omega]
theorem witF_no : ∀ {gs : List (List Nd)} {s : Nat}, (∀ i (hi : i < gs.length), (withinF l fs gs[i]).1 = 0) → witF l fs s gs = (0, 0)
  | [], _, _ => rfl
  | g :: gs, s, h => by
    unfold witF
    rw [if_neg (fun hn => hn (h 0 (by simp)))]
    exact witF_no (fun i hi => h (i + 1) (by simpa using hi))
theorem witF_zero {gs : List (List Nd)} (h : (witF l fs 0 gs).1 = 0) : ∀ i (hi : i < gs.length), (withinF l fs gs[i]).1 = 0 := by
  have key : ∀ n i (_ : i ≤ n) (hi : i < gs.length), (withinF l fs gs[i]).1 = 0 := fun n => by
    induction n with
    | zero =>
      intro i hn hi
      have h0 : i = 0 := by omega
      subst h0
      by_cases e : (withinF l fs gs[0]).1 = 0
      · exact e
      · rw [witF_hit hi (fun i hi => by omega) e] at h
        exact absurd h e
    | succ n ih =>
      intro i hn hi
      by_cases e : i ≤ n
      · exact ih i e hi
      · have h0 : i = n + 1 := by omega
        subst h0
        by_cases e : (withinF l fs gs[n + 1]).1 = 0
        · exact e
        · rw [witF_hit hi (fun j hj => ih j om om) e] at h
          exact absurd h e
  exact fun i hi => key i i (Nat.le_refl _) hi
def AllS (l : List Ty) (fs : List Ft) (gs : List (List Nd)) (ok : Bool) (f : Fl) (X : List Nd) : Prop :=
  (¬ (allF l fs gs).1 = 0 ∧ ok = false ∧ f = allF l fs gs ∧ X = []) ∨ ((allF l fs gs).1 = 0 ∧ ok = false ∧ f = (0, 0) ∧ X = [] ∧ ¬ ∃ c, GY l c ∧ ∀ i (hi : i < gs.length), Maps l gs[i] c) ∨ ((allF l fs gs).1 = 0 ∧ ok = false ∧ f = (17, -1) ∧ X = [] ∧ ∃ Y, LubL l gs Y ∧ 60 < Y.length) ∨ ((allF l fs gs).1 = 0 ∧ ok = true ∧ f = (0, 0) ∧ LubL l gs X ∧ X.length ≤ 60 ∧ graphF l fs X = (0, 0))
theorem all_gv (h : (allF l fs gs).1 = 0) : (hierFault l fs).1 = 0 ∧ gs.length ≤ 300 ∧ ∀ i (hi : i < gs.length), (graphF l fs gs[i]).1 = 0 := by
  unfold allF at h
  by_cases h1 : (hierFault l fs).1 = 0
  · rw [if_neg (fun k => k h1)] at h
    by_cases h2 : 300 < gs.length
    · rw [if_pos h2] at h; exact absurd h dE
    · rw [if_neg h2] at h
      exact ⟨h1, by omega, fun i hi => by rw [gf_in h1]; exact witF_zero h i hi⟩
  · rw [if_pos h1] at h; exact absurd h h1
end all
end Go.Proofs.YteoncmfiiknfbaaDoor
namespace Go.Proofs.YteoncmfiiknfbaaDoor
open Go.RowKit
section monoi
variable {P : Program} {Q : Exit → Act → World → Prop} {n : Nat} {f : Fr} {w : World}
def ivB (l : List Oper) (m : Nat) (ow : Nat → Nat) : Bool := (List.range m).all (fun i => decide (ow i < m) && Nat.beq (ow (ow i)) (ow i) && (Nat.beq (ow i) i || (match l[i]? with | some o => (deps o).any (fun j => Nat.beq (ow j) (ow i)) | none => false)))
theorem c_monoI {id : Nat} {l : List Oper} (m : Nat) (S : List Nat) (ow : Nat → Nat) (R : Nat → Value → Nat → Nat → World → Prop) (hm : P.follows .mixedOrders = true) (hB : monoG l m S = true) (hI : ivB l m ow = true)
    (hst : ∀ i v a b w w', R i v a b w → b ≤ w.heap.size → Same [] w w' → R i v a b w')
    (step : ∀ i o, i < m → l[i]? = some o → ∀ f' w' (lo hi : Nat → Nat), Same [] w w' → Ag S f' f → (∀ j ∈ deps o, R j (f' (dstOf l.toArray j)) (lo (ow j)) (hi (ow j)) w' ∧ hi (ow j) ≤ w'.heap.size) → (∀ j k, j ∈ deps o → k ∈ deps o → ow j ≠ ow k → hi (ow j) ≤ lo (ow k) ∨ hi (ow k) ≤ lo (ow j)) → (Region.wanted o (yielded l.toArray (AF n f').tmps) = true → OS P n f' w' o (fun v w'' => Same [] w' w'' ∧ R i v (bif Nat.beq (ow i) i then w'.heap.size else lo (ow i)) (bif Nat.beq (ow i) i then w''.heap.size else hi (ow i)) w'')) ∧ (Region.wanted o (yielded l.toArray (AF n f').tmps) = false → R i undef (bif Nat.beq (ow i) i then w'.heap.size else lo (ow i)) (bif Nat.beq (ow i) i then w'.heap.size else hi (ow i)) w'))
    (fin : ∀ f' w' (lo hi : Nat → Nat), Same [] w w' → Ag S f' f → (∀ i, i < m → R i (f' (dstOf l.toArray i)) (lo (ow i)) (hi (ow i)) w' ∧ hi (ow i) ≤ w'.heap.size) → (∀ i j, i < m → j < m → ow i ≠ ow j → hi (ow i) ≤ lo (ow j) ∨ hi (ow j) ≤ lo (ow i)) → WL P l.toArray Q (l.drop m) n f' w') : WC P (.region id l.toArray true) Q n f w := by
  unfold WC
  refine wp_region_any hm ?_
  simp only [monoG, Bool.and_eq_true, List.all_eq_true, List.mem_range, decide_eq_true_eq] at hB
  obtain ⟨⟨hh, hlen⟩, hl⟩ := hB
  have hget : ∀ i, i < m → ∃ o d, l[i]? = some o ∧ o.dst = some d ∧ mem S d = true ∧ True ∧ (∀ j ∈ deps o, j < i) ∧ (∀ j, j < m → i ≠ j → dstOf l.toArray i ≠ dstOf l.toArray j) ∧ dstOf l.toArray i = d := by
    intro i hi
    have h := hh i hi
    cases ho : l[i]? with
    | none => simp [ho] at h
    | some o =>
      simp only [ho, Bool.and_eq_true] at h
      obtain ⟨⟨⟨h1, h2⟩, h3⟩, h4⟩ := h
      cases hd : o.dst with
      | none => simp [hd] at h1
      | some d =>
        simp only [hd] at h1
        refine ⟨o, d, rfl, hd, h1, trivial, fun j hj => by simpa using List.all_eq_true.1 h3 j hj, fun j hj hne => ?_, by simp [dstOf, ho, hd]⟩
        have := List.all_eq_true.1 h4 j (List.mem_range.2 hj)
        simpa [hne] using this
  have hio : ∀ i, i < m → ow i < m ∧ ow (ow i) = ow i ∧ (ow i = i ∨ ∀ o, l[i]? = some o → ∃ j ∈ deps o, ow j = ow i) := by
    intro i hi
    have h := List.all_eq_true.1 hI i (List.mem_range.2 hi)
    simp only [Bool.and_eq_true, Bool.or_eq_true, decide_eq_true_eq] at h
    obtain ⟨⟨h1, h2⟩, h3⟩ := h
    refine ⟨h1, Nat.eq_of_beq_eq_true h2, ?_⟩
    rcases h3 with h3 | h3
    · exact .inl (Nat.eq_of_beq_eq_true h3)
    · refine .inr (fun o ho => ?_)
      rw [ho] at h3
      obtain ⟨j, hj, hb⟩ := List.any_eq_true.1 h3
      exact ⟨j, hj, Nat.eq_of_beq_eq_true hb⟩
  have ready_of : ∀ (listed : Array Bool) (i : Nat) (o : Oper), listed.size = l.length → l[i]? = some o → listed.getD i false = false → (∀ j ∈ deps o, listed.getD j false = true) → i ∈ Region.ready .any l.toArray listed := by
    intro listed i o hs ho hn hd
    have hi : i < l.length := (List.getElem?_eq_some_iff.1 ho).1
    simp only [Region.ready, List.mem_filter, List.mem_range, Bool.and_eq_true, Bool.not_eq_true']
    refine ⟨by simpa using hi, ?_, ?_⟩
    · simp only [Array.getD_eq_getD_getElem?] at hn ⊢
      have : i < listed.size := by omega
      simp only [Array.getElem?_eq_getElem this, Option.getD_some] at hn ⊢
      exact hn
    · simp only [List.getElem?_toArray, ho, Option.map_some, Option.getD_some]
      exact all_of_deps hd
  have ready_inv : ∀ (listed : Array Bool) (i : Nat), i ∈ Region.ready .any l.toArray listed → ∃ o, l[i]? = some o ∧ listed.getD i false = false ∧ ∀ j ∈ deps o, listed.getD j false = true := by
    intro listed i hi
    simp only [Region.ready, List.mem_filter, List.mem_range, Bool.and_eq_true, Bool.not_eq_true'] at hi
    obtain ⟨hi, hn, hd⟩ := hi
    have hi' : i < l.length := by simpa using hi
    refine ⟨l[i], List.getElem?_eq_getElem hi', ?_, ?_⟩
    · simp only [Array.getD_eq_getD_getElem?] at hn ⊢
      cases hq : listed[i]? with
      | none => rfl
      | some b => simpa [hq] using hn
    · simp only [List.getElem?_toArray, List.getElem?_eq_getElem hi', Option.map_some, Option.getD_some] at hd
      exact deps_mem hd
  have key : ∀ (fuel : Nat) (listed : Array Bool) (f' : Fr) (w' : World) (lo hi : Nat → Nat), listed.size = l.length → Dn l listed → (∀ t, m ≤ t → listed.getD t false = false) → Same [] w w' → Ag S f' f → (∀ i, i < m → listed.getD i false = true → listed.getD (ow i) false = true ∧ R i (f' (dstOf l.toArray i)) (lo (ow i)) (hi (ow i)) w' ∧ hi (ow i) ≤ w'.heap.size) →
      (∀ i j, i < m → j < m → ow i = i → ow j = j → i ≠ j → listed.getD i false = true → listed.getD j false = true → hi i ≤ lo j ∨ hi j ≤ lo i) →
      (List.range m).countP (fun i => !listed.getD i false) + (l.length - m) ≤ fuel → wpAny P .any l.toArray Q fuel listed (AF n f') w' := by
    intro fuel
    induction fuel with
    | zero =>
      intro listed f' w' lo hi hs hD ht hsm hag hR hdis hc
      have hlm : l.length = m := by omega
      have hall : ∀ i, i < m → listed.getD i false = true := by
        intro i hi
        have h0 : (List.range m).countP (fun i => !listed.getD i false) = 0 := by omega
        rw [List.countP_eq_zero] at h0
        have := h0 i (List.mem_range.2 hi)
        simpa using this
      refine ⟨?_, ?_⟩
      · cases hr : Region.ready .any l.toArray listed with
        | nil => rfl
        | cons i r =>
          have hi : i ∈ Region.ready .any l.toArray listed := by rw [hr]; simp
          obtain ⟨o, ho, hn, _⟩ := ready_inv listed i hi
          have : i < l.length := (List.getElem?_eq_some_iff.1 ho).1
          rw [hall i om] at hn; cases hn
      · have := fin f' w' lo hi hsm hag (fun i hi => (hR i hi (hall i hi)).2) (fun i j hi hj hne => hdis (ow i) (ow j) (hio i hi).1 (hio j hj).1 (hio i hi).2.1 (hio j hj).2.1 hne (hR i hi (hall i hi)).1 (hR j hj (hall j hj)).1)
        rw [List.drop_eq_nil_of_le om] at this
        unfold WL at this; exact this
    | succ fuel ih =>
      intro listed f' w' lo hi hs hD ht hsm hag hR hdis hc
      refine ⟨fun hr => ?_, fun i hir => ?_⟩
      · -- nothing is ready: all is done
        have hall : ∀ k, k ≤ m → ∀ i, i < k → listed.getD i false = true := by
          intro k
          induction k with
          | zero => intro _ i hi; omega
          | succ k ihk =>
            intro hk i hi
            have ihk' := ihk om
            by_cases hik : i < k
            · exact ihk' i hik
            · have : i = k := by omega
              subst this
              cases hb : listed.getD i false with
              | true => rfl
              | false =>
                obtain ⟨o, d, ho, _, _, _, hd, _, _⟩ := hget i om
                have := ready_of listed i o hs ho hb (fun j hj => ihk' j (hd j hj))
                rw [hr] at this; cases this
        have hlm : l.length = m := by
          rcases Nat.lt_or_ge m l.length with hm' | hm'
          · exfalso
            have ho : l[m]? = some l[m] := List.getElem?_eq_getElem hm'
            have hd : ∀ j ∈ deps l[m], listed.getD j false = true := fun j hj => hall m (Nat.le_refl _) j (tail_dep (hl m hm') om ho j hj)
            have := ready_of listed m _ hs ho (ht m (Nat.le_refl _)) hd
            rw [hr] at this; cases this
          · omega
        have := fin f' w' lo hi hsm hag (fun i hi => (hR i hi (hall m (Nat.le_refl _) i hi)).2) (fun i j hi hj hne => hdis (ow i) (ow j) (hio i hi).1 (hio j hj).1 (hio i hi).2.1 (hio j hj).2.1 hne (hR i hi (hall m (Nat.le_refl _) i hi)).1 (hR j hj (hall m (Nat.le_refl _) j hj)).1)
        rw [List.drop_eq_nil_of_le om] at this
        unfold WL at this; exact this
      · obtain ⟨o, ho, hn, hd⟩ := ready_inv listed i hir
        have hil : i < l.length := (List.getElem?_eq_some_iff.1 ho).1
        unfold wpOp
        simp only [List.getElem?_toArray, ho]
        by_cases him : i < m
        · obtain ⟨o', d, ho', hdst, hSd, hg, hdl, hdd, hde⟩ := hget i him
          rw [ho] at ho'
          cases ho'
          have next : ∀ v w'', Same [] w' w'' → R i v (bif Nat.beq (ow i) i then w'.heap.size else lo (ow i)) (bif Nat.beq (ow i) i then w''.heap.size else hi (ow i)) w'' → wpAny P .any l.toArray Q fuel (listed.setIfInBounds i true) (AF n (upd f' d v)) w'' := by
            intro v w'' hs1 hr1
            have hself : upd f' d v (dstOf l.toArray i) = v := by rw [hde]; simp [upd]
            have hother : ∀ j, j < m → i ≠ j → upd f' d v (dstOf l.toArray j) = f' (dstOf l.toArray j) := fun j hj hij => by
              have hne := hdd j hj hij
              rw [hde] at hne
              simp only [upd]
              have : Nat.beq (dstOf l.toArray j) d = false := by
                cases hb : Nat.beq (dstOf l.toArray j) d
                · rfl
                · exact absurd (Nat.eq_of_beq_eq_true hb).symm hne
              simp [this]
            have hli : ∀ j, i ≠ j → (listed.setIfInBounds i true).getD j false = listed.getD j false := fun j hij => by
              simp only [Array.getD_eq_getD_getElem?, Array.getElem?_setIfInBounds_ne hij]
            refine ih _ _ _ (fun k => if k = i then w'.heap.size else lo k) (fun k => if k = i then w''.heap.size else hi k) (by simpa using hs) (hD.set om ho hd) ?_ (hsm.trans hs1) (ag_upd hSd hag) ?_ ?_ ?_
            · intro t hmt
              have : i ≠ t := by omega
              rw [hli t this]; exact ht t hmt
            · intro j hj hl'
              by_cases hij : i = j
              · subst hij
                rw [hself]
                rcases (hio i hj).2.2 with he | he
                · rw [he]
                  simp only [if_true]
                  rw [he] at hr1
                  simp only [show Nat.beq i i = true from Nat.beq_refl i, cond_true] at hr1
                  exact ⟨hl', hr1, Nat.le_refl _⟩
                · by_cases he2 : ow i = i
                  · rw [he2]
                    simp only [if_true]
                    rw [he2] at hr1
                    simp only [show Nat.beq i i = true from Nat.beq_refl i, cond_true] at hr1
                    exact ⟨hl', hr1, Nat.le_refl _⟩
                  · have hb : Nat.beq (ow i) i = false := by
                      cases hb : Nat.beq (ow i) i
                      · rfl
                      · exact absurd (Nat.eq_of_beq_eq_true hb) he2
                    simp only [hb, cond_false] at hr1
                    simp only [if_neg he2]
                    obtain ⟨k, hk, hke⟩ := he o ho
                    obtain ⟨h1, _, h3⟩ := hR k (Nat.lt_trans (hdl k hk) him) (hd k hk)
                    rw [hke] at h1 h3
                    exact ⟨by rw [hli _ (fun h => he2 h.symm)]; exact h1, hr1, lT h3 hs1.size⟩
              · have hji : ¬ j = i := fun h => hij h.symm
                rw [hother j hj hij]
                rw [hli j hij] at hl'
                obtain ⟨h1, h2, h3⟩ := hR j hj hl'
                have hoi : ¬ ow j = i := fun h => by rw [h, hn] at h1; cases h1
                simp only [if_neg hoi]
                exact ⟨by rw [hli _ (fun h => hoi h.symm)]; exact h1, hst j _ _ _ _ _ h2 h3 hs1, lT h3 hs1.size⟩
            · intro j k hj hk hoj hok hjk hlj hlk
              by_cases hij : i = j
              · subst hij
                have hki : ¬ k = i := fun h => hjk h.symm
                rw [hli k hjk] at hlk
                have h4 := (hR k hk hlk).2.2
                rw [hok] at h4
                simp only [if_true, if_neg hki]
                exact .inr h4
              · have hji : ¬ j = i := fun h => hij h.symm
                rw [hli j hij] at hlj
                by_cases hik : i = k
                · subst hik
                  have h4 := (hR j hj hlj).2.2
                  rw [hoj] at h4
                  simp only [if_true, if_neg hji]
                  exact .inl h4
                · have hki : ¬ k = i := fun h => hik h.symm
                  rw [hli k hik] at hlk
                  simp only [if_neg hji, if_neg hki]
                  exact hdis j k hj hk hoj hok hjk hlj hlk
            · have hlt := countP_lt (p := fun i => !listed.getD i false) (q := fun k => !(listed.setIfInBounds i true).getD k false) (fun x hx => by
                by_cases hix : i = x
                · subst hix; simp [hn]
                · rw [hli x hix] at hx; exact hx) (List.range m) i (List.mem_range.2 him) (by simp [hn]) (by
                  have : i < listed.size := by omega
                  simp [this])
              omega
          have hstep := step i o him ho f' w' lo hi hsm hag (fun j hj => (hR j (Nat.lt_trans (hdl j hj) him) (hd j hj)).2) (fun j k hj hk hne => hdis (ow j) (ow k) (hio j (Nat.lt_trans (hdl j hj) him)).1 (hio k (Nat.lt_trans (hdl k hk) him)).1 (hio j (Nat.lt_trans (hdl j hj) him)).2.1 (hio k (Nat.lt_trans (hdl k hk) him)).2.1 hne (hR j (Nat.lt_trans (hdl j hj) him) (hd j hj)).1 (hR k (Nat.lt_trans (hdl k hk) him) (hd k hk)).1)
          by_cases hwt : Region.wanted o (yielded l.toArray (AF n f').tmps) = true
          · rw [if_pos hwt]
            left
            have hst1 := hstep.1 hwt
            unfold OS at hst1
            refine hst1 _ _ ?_
            rintro v w'' ⟨hs1, hr1⟩
            rw [hdst, put_AF]
            exact next v w'' hs1 hr1
          · rw [if_neg hwt, hdst, put_AF]
            exact next undef w' (Same.refl _ _) (hstep.2 (by simpa using hwt))
        · -- the tail
          have hall := tail_all (hl i hil) om ho hD hd
          have : i = m := by
            rcases Nat.lt_or_ge m i with h | h
            · have h1 := hall m h
              rw [ht m (Nat.le_refl _)] at h1; cases h1
            · omega
          subst this
          have hW := fin f' w' lo hi hsm hag (fun j hj => (hR j hj (hall j hj)).2) (fun i j hi hj hne => hdis (ow i) (ow j) (hio i hi).1 (hio j hj).1 (hio i hi).2.1 (hio j hj).2.1 hne (hR i hi (hall i hi)).1 (hR j hj (hall j hj)).1)
          have hT := any_tail (Q := Q) hl (l.length - i) (fuel + 1) i listed (AF n f') w' om om (Nat.le_refl _) hs hD hall ht (by unfold WL at hW; exact hW)
          have := hT.2 i hir
          unfold wpOp at this
          simp only [List.getElem?_toArray, ho] at this
          exact this
  have h0 := key l.length (Array.replicate l.length false) f { w with drawn := w.drawn + 1 } (fun _ => 0) (fun _ => 0) (by simp) (fun j o _ h => by
    simp only [Array.getD_eq_getD_getElem?, Array.getElem?_replicate] at h
    split at h <;> cases h) (fun t _ => by
    simp only [Array.getD_eq_getD_getElem?, Array.getElem?_replicate]; split <;> rfl) (Same.drew w 1) ag_refl (fun i hi h => by
    simp only [Array.getD_eq_getD_getElem?, Array.getElem?_replicate] at h
    split at h <;> cases h) (fun i j hi hj _ _ hne h => by
    simp only [Array.getD_eq_getD_getElem?, Array.getElem?_replicate] at h
    split at h <;> cases h) (by
      have := List.countP_le_length (p := fun i => !(Array.replicate l.length false).getD i false) (l := List.range m)
      simp only [List.length_range] at this
      omega)
  simpa using h0
theorem c_monoIO {id : Nat} {l : List Oper} (m : Nat) (S : List Nat) (ow : Nat → Nat) (R : Nat → Value → Nat → Nat → World → Prop) (hm : P.follows .mixedOrders = true) (hB : monoG l m S = true) (hI : ivB l m ow = true)
    (hst : ∀ i v a b w1 w2, R i v a b w1 → b ≤ w1.heap.size → Same [] w1 w2 → R i v a b w2)
    (step : ∀ i o, i < m → l[i]? = some o → ∀ g w' (lo hi : Nat → Nat), Same [] w w' → (∀ j ∈ deps o, R j (g (dstOf l.toArray j)) (lo (ow j)) (hi (ow j)) w' ∧ hi (ow j) ≤ w'.heap.size) → (∀ j k, j ∈ deps o → k ∈ deps o → ow j ≠ ow k → hi (ow j) ≤ lo (ow k) ∨ hi (ow k) ≤ lo (ow j)) → (Region.wanted o (yielded l.toArray (AF n (ovr S g f)).tmps) = true → OS P n (ovr S g f) w' o (fun v w'' => Same [] w' w'' ∧ R i v (bif Nat.beq (ow i) i then w'.heap.size else lo (ow i)) (bif Nat.beq (ow i) i then w''.heap.size else hi (ow i)) w'')) ∧ (Region.wanted o (yielded l.toArray (AF n (ovr S g f)).tmps) = false → R i undef (bif Nat.beq (ow i) i then w'.heap.size else lo (ow i)) (bif Nat.beq (ow i) i then w'.heap.size else hi (ow i)) w'))
    (fin : ∀ g w' (lo hi : Nat → Nat), Same [] w w' → (∀ i, i < m → R i (g (dstOf l.toArray i)) (lo (ow i)) (hi (ow i)) w' ∧ hi (ow i) ≤ w'.heap.size) → (∀ i j, i < m → j < m → ow i ≠ ow j → hi (ow i) ≤ lo (ow j) ∨ hi (ow j) ≤ lo (ow i)) → WL P l.toArray Q (l.drop m) n (ovr S g f) w') : WC P (.region id l.toArray true) Q n f w := by
  refine c_monoI m S ow R hm hB hI hst (fun i o hi ho f' w' lo hi' hs hag hd hdis => ?_) (fun f' w' lo hi hs hag hR hdis => ?_)
  · have := step i o hi ho f' w' lo hi' hs hd hdis
    rwa [← ag_ovr hag] at this
  · have := fin f' w' lo hi hs hR hdis
    rwa [← ag_ovr hag] at this
def FinAll (p : List Nat → Prop) : List (List Nat) → Prop
  | [] => True
  | x :: r => p x ∧ FinAll p r
theorem FinAll.get {p : List Nat → Prop} : ∀ {xs : List (List Nat)}, FinAll p xs → ∀ x ∈ xs, p x
  | _ :: _, h, x, hx => by
    rcases List.mem_cons.1 hx with rfl | hx
    · exact h.1
    · exact FinAll.get h.2 x hx
end monoi
def Kept (lo hi : Nat) (w : World) (p : World → Prop) : Prop := hi ≤ w.heap.size ∧ ∀ w2 : World, hi ≤ w2.heap.size → (∀ b, lo ≤ b → b < hi → w2.heap[b]? = w.heap[b]?) → p w2
theorem Kept.tr {lo hi : Nat} {w w' : World} {p : World → Prop} {X : List Nat} (h : Kept lo hi w p) (hs : Same X w w') (hx : ∀ g ∈ X, g < lo ∨ hi ≤ g) : Kept lo hi w' p :=
  ⟨lT h.1 hs.size, fun w2 h2 hb => h.2 w2 h2 (fun b h3 h4 => (hb b h3 h4).trans (hs.blk b (lL h4 h.1) (fun hX => by rcases hx b hX with h5 | h5 <;> omega)))⟩
theorem Kept.tr0 {lo hi : Nat} {w w' : World} {p : World → Prop} (h : Kept lo hi w p) (hs : Same [] w w') : Kept lo hi w' p := h.tr hs (by simp)
theorem Kept.tr1 {lo hi b : Nat} {w w' : World} {p : World → Prop} (h : Kept lo hi w p) (hs : Same [b] w w') (hx : b < lo ∨ hi ≤ b) : Kept lo hi w' p := h.tr hs (fun g hg => by rw [List.mem_singleton.1 hg]; exact hx)
theorem Kept.imp {lo hi : Nat} {w : World} {p q : World → Prop} (h : Kept lo hi w p) (k : ∀ w2, p w2 → q w2) : Kept lo hi w q := ⟨h.1, fun w2 h2 hb => k w2 (h.2 w2 h2 hb)⟩
end Go.Proofs.YteoncmfiiknfbaaDoor
