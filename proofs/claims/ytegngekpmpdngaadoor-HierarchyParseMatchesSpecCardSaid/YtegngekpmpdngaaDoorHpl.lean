/- What these functions of the program compute, at every world: glosswright/glosswrightlaw3.pairOf. The canonical form of a valid graph is valid, and its own canonical form. No program in sight. What these functions of the program compute, at every world: slices.Equal[[]glosswright/api.Link,glosswright/api.Link], glosswright/glosswrightequal.Nodes. What these functions of the program compute, at every world: . What these functions of the program compute, at every world: glosswright/hierarchy.Parse. The text of a valid hierarchy: its lines, and that they are read back as they were. No program in sight. -/
import Derived.Test.YtegngekpmpdngaaDoorShx
import Derived.Test.YtegngekpmpdngaaDoorBld
import Derived.Test.YtegngekpmpdngaaDoorU
import Derived.Test.YtegngekpmpdngaaDoorHRd
import Derived.Test.YtegngekpmpdngaaDoorHLaw
namespace Go.Proofs.YtegngekpmpdngaaDoor
open Go.RowKit
inductive TyVs (w : World) : List Ty → List Value → Prop
  | nil : TyVs w [] []
  | cons {t : Ty} {l : List Ty} {vs : List Value} {A : Option Addr} {c : Nat} (h : IntsIn w A t.par) (r : TyVs w l vs) : TyVs w (t :: l) (.string t.name :: .slice A t.par.length c :: vs)
theorem TyVs.get {w : World} {l : List Ty} {vs : List Value} (h : TyVs w l vs) : ∀ k (hk : k < l.length), ∃ A c, vs[k * 2]? = some (.string (l[k]).name) ∧ vs[k * 2 + 1]? = some (.slice A (l[k]).par.length c) ∧ IntsIn w A (l[k]).par := by
  induction h with
  | nil => intro k hk; simp at hk
  | cons h r ih =>
    intro k hk
    match k, hk with
    | 0, _ => exact ⟨_, _, rfl, rfl, h⟩
    | k + 1, hk =>
      obtain ⟨A, c, h1, h2, h3⟩ := ih k (by simpa using hk)
      refine ⟨A, c, ?_, ?_, h3⟩
      · rw [show (k + 1) * 2 = k * 2 + 1 + 1 from by omega]; simpa using h1
      · rw [show (k + 1) * 2 + 1 = k * 2 + 1 + 1 + 1 from by omega]; simpa using h2
theorem sz77_GLaw : (Tryd.prog.info? 77).map (·.size) = some 2 := by kernel_rfl
end Go.Proofs.YtegngekpmpdngaaDoor
namespace Go.Proofs.YtegngekpmpdngaaDoor
open Go.RowKit
structure GV (l : List Ty) (fs : List Ft) (g : List Nd) : Prop where
  h : (hierFault l fs).1 = 0
  s : Sound l
  few : fs.length ≤ 40
  f : FOk l.length fs
  gok : GOk l.length fs.length g
  t : tyF l fs g = (0, 0)
  u : ¬ 0 ≤ unrI g
  lo : (looseF l.length fs.length g).1 = 0
theorem DL.sub {g : List Nd} {is a b : List Nat} (h : DL g is a b) : ∀ x ∈ a, x ∈ b := by
  induction h with
  | nil => exact fun x h => h
  | old h t ih => exact ih
  | new h s t ihs iht => exact fun x hx => iht x (ihs x (List.mem_append_left _ hx))
theorem DL.has {g : List Nd} {is a b : List Nat} (h : DL g is a b) : ∀ i ∈ is, i ∈ b := by
  induction h with
  | nil => exact fun i h => by cases h
  | old h t ih =>
    intro i hi
    rcases List.mem_cons.1 hi with rfl | hi
    · exact t.sub _ h
    · exact ih i hi
  | new h s t ihs iht =>
    intro i hi
    rcases List.mem_cons.1 hi with rfl | hi
    · exact t.sub _ (s.sub _ (by simp))
    · exact iht i hi
theorem DL.clo {g : List Nd} {is a b : List Nat} (h : DL g is a b) : ∀ x ∈ b, ¬ x ∈ a → ∀ t ∈ succN g x, t ∈ b := by
  induction h with
  | nil => exact fun x h1 h2 => absurd h1 h2
  | old h t ih => exact ih
  | new h s t ihs iht =>
    rename_i i is o o1 o'
    intro x hx hn y hy
    by_cases h1 : x ∈ o1
    · by_cases h2 : x = i
      · subst h2; exact t.sub _ (s.has y hy)
      · exact t.sub _ (ihs x h1 (fun h3 => by
          rcases List.mem_append.1 h3 with h3 | h3
          · exact hn h3
          · exact h2 (List.mem_singleton.1 h3)) y hy)
    · exact iht x hx h1 y hy
structure Tr (g : List Nd) (o : List Nat) : Prop where
  dl : DL g [0] [] o
  ok : OOk g.length o
  nd : o.Nodup
  pos : 0 < o.length
  zero : o.idxOf 0 = 0
  clo : ∀ x ∈ o, ∀ t ∈ succN g x, t ∈ o
theorem get_idx {o : List Nat} {x : Nat} (hx : x ∈ o) : ∃ h : o.idxOf x < o.length, o[o.idxOf x] = x := ⟨List.idxOf_lt_length_of_mem hx, List.getElem_idxOf _⟩
theorem numO_in {o : List Nat} {x : Nat} (hx : x ∈ o) : numO o x = (o.idxOf x : Nat) := by simp [numO, hx]
theorem canG_len (g : List Nd) (o : List Nat) : (canG g o).length = o.length := by simp [canG]
theorem canG_nd {g : List Nd} {o : List Nat} {x : Nat} (hx : x ∈ o) : nd (canG g o) (o.idxOf x) = canN g o x := by
  obtain ⟨h1, h2⟩ := get_idx hx
  rw [nd_eq (by rw [canG_len]; exact h1)]
  simp [canG, h2]
theorem canG_succ {g : List Nd} {o : List Nat} (h : ∀ x ∈ o, ∀ t ∈ succN g x, t ∈ o) {x : Nat} (hx : x ∈ o) : succN (canG g o) (o.idxOf x) = (succN g x).map (o.idxOf ·) := by
  unfold succN
  rw [canG_nd hx]
  simp only [canN, List.map_map]
  refine List.map_congr_left (fun y hy => ?_)
  have : y.2.toNat ∈ o := h x hx _ (by simp only [succN, List.mem_map]; exact ⟨y, hy, rfl⟩)
  simp [canL, numO_in this]
theorem DL.map {g : List Nd} {o : List Nat} (hc : ∀ x ∈ o, ∀ t ∈ succN g x, t ∈ o) {is a b : List Nat} (h : DL g is a b) : (∀ x ∈ b, x ∈ o) → DL (canG g o) (is.map (o.idxOf ·)) (a.map (o.idxOf ·)) (b.map (o.idxOf ·)) := by
  have inj : ∀ x y, x ∈ o → y ∈ o → o.idxOf x = o.idxOf y → x = y := fun x y hx hy e => by
    obtain ⟨h1, h2⟩ := get_idx hx
    obtain ⟨h3, h4⟩ := get_idx hy
    rw [← h2, ← h4]
    simp only [e]
  induction h with
  | nil => exact fun _ => .nil
  | old h t ih =>
    intro hb
    exact .old (List.mem_map_of_mem h) (ih hb)
  | new h s t ihs iht =>
    rename_i i is o0 o1 o'
    intro hb
    have hio := hb i (t.sub _ (s.sub _ (by simp)))
    refine .new (fun hm => ?_) ?_ (iht hb)
    · obtain ⟨y, hy, e⟩ := List.mem_map.1 hm
      have hyo := hb y (t.sub _ (s.sub _ (List.mem_append_left _ hy)))
      exact h (inj y i hyo hio e ▸ hy)
    · have := ihs (fun x hx => hb x (t.sub _ hx))
      rw [List.map_append] at this
      rw [canG_succ hc hio]
      exact this
end Go.Proofs.YtegngekpmpdngaaDoor
namespace Go.Proofs.YtegngekpmpdngaaDoor
open Go.RowKit
theorem FrSame.then {B B0 : Nat} {w0 w1 w2 : World} (h : FrSame B w0 w1) (k : FrSame B0 w1 w2) (hb : B0 ≤ B) : FrSame B w0 w2 :=
  ⟨nLT h.size k.size, fun i hi hl => (k.blk i (nLT hb hi) (nLL hl h.size)).trans (h.blk i hi hl)⟩
end Go.Proofs.YtegngekpmpdngaaDoor
namespace Go.Proofs.YtegngekpmpdngaaDoor
open Go.RowKit
inductive NdVs (w : World) : List Nd → List Value → Prop
  | nil : NdVs w [] []
  | cons {x : Nd} {l : List Nd} {vs : List Value} {A : Option Addr} {c : Nat} (h : LinksIn w A x.ln) (r : NdVs w l vs) : NdVs w (x :: l) (.int .i64 x.ty :: .slice A x.ln.length c :: vs)
theorem NdVs.get {w : World} {l : List Nd} {vs : List Value} (h : NdVs w l vs) : ∀ k (hk : k < l.length), ∃ A c, vs[k * 2]? = some (.int .i64 (l[k]).ty) ∧ vs[k * 2 + 1]? = some (.slice A (l[k]).ln.length c) ∧ LinksIn w A (l[k]).ln := by
  induction h with
  | nil => intro k hk; simp at hk
  | cons h r ih =>
    intro k hk
    match k, hk with
    | 0, _ => exact ⟨_, _, rfl, rfl, h⟩
    | k + 1, hk =>
      obtain ⟨A, c, h1, h2, h3⟩ := ih k (by simpa using hk)
      refine ⟨A, c, ?_, ?_, h3⟩
      · rw [show (k + 1) * 2 = k * 2 + 1 + 1 from by omega]; simpa using h1
      · rw [show (k + 1) * 2 + 1 = k * 2 + 1 + 1 + 1 from by omega]; simpa using h2
end Go.Proofs.YtegngekpmpdngaaDoor
namespace Go.Proofs.YtegngekpmpdngaaDoor
open Go.RowKit
theorem lnsO_len {s : ByteArray} (h : s.size ≤ 4000) : (lnsO s).length ≤ 4001 := by
  have h1 := sp_len 10 s
  have h2 := count_size 10 s
  unfold lnsO
  split
  · rw [List.length_take]; omega
  · omega
theorem lnsO_small {s : ByteArray} (h : s.size ≤ 4000) : ∀ x ∈ lnsO s, x.size ≤ 4000 := fun x hx => by
  have h1 : x ∈ sp 10 s := by
    unfold lnsO at hx
    split at hx
    · exact List.mem_of_mem_take hx
    · exact hx
  exact nLT (sp_small h1) h
theorem sp_snoc (s : ByteArray) : (sp 10 s).take ((sp 10 s).length - 1) ++ [lastP s] = sp 10 s := by
  have h1 := sp_len 10 s
  have h2 : (sp 10 s).length - 1 < (sp 10 s).length := by omega
  have := List.take_succ_eq_append_getElem h2
  rw [show (sp 10 s).length - 1 + 1 = (sp 10 s).length by omega, List.take_length, pc_get] at this
  exact this.symm
theorem prs_big {s : ByteArray} (h : (4000 : Int) < ((s.size : Nat) : Int)) : prs s = (([], []), (1, -1)) := by
  unfold prs; rw [if_pos om]
theorem prs_fin {s : ByteArray} {l : List Ty} {fs : List Ft} {f : Fl} (h4 : s.size ≤ 4000) (hR : rdL [] [] 0 (lnsO s) = ((l, fs), f)) : (0 ≤ opn s ∧ (f.1 = 0 ∨ opn s ≤ f.2) → prs s = (([], []), (11, opn s))) ∧ (¬ (0 ≤ opn s ∧ (f.1 = 0 ∨ opn s ≤ f.2)) → (f.1 = 0 → prs s = finP l fs) ∧ (f.1 ≠ 0 → prs s = (([], []), f))) := by
  have hp : prs s = contP [] [] 0 ((sp 10 s).take ((sp 10 s).length - 1) ++ [lastP s]) := by
    unfold prs; rw [if_neg om, sp_snoc]
  by_cases hl : lastP s = ⟨#[]⟩
  · have ho : opn s = -1 := by unfold opn; rw [if_pos hl]
    have hx : lnsO s = (sp 10 s).take ((sp 10 s).length - 1) := by unfold lnsO; rw [if_pos hl]
    have h1 := cont_shut ((sp 10 s).take ((sp 10 s).length - 1)) [] [] 0
    rw [← hx, hR, hx, ← hl, ← hp] at h1
    refine ⟨fun h => by rw [ho] at h; exact absurd h.1 dE, fun _ => ⟨fun h => h1.1 h, fun h => (h1.2 h).1⟩⟩
  · have hlen : ((sp 10 s).take ((sp 10 s).length - 1)).length = (sp 10 s).length - 1 := by rw [List.length_take]; omega
    have ho : opn s = (((sp 10 s).length - 1 : Nat) : Int) := by unfold opn; rw [if_neg hl]
    have hx : lnsO s = sp 10 s := by unfold lnsO; rw [if_neg hl]
    have h1 := cont_open hl ((sp 10 s).take ((sp 10 s).length - 1)) [] [] 0
    rw [← hp, sp_snoc, ← hx, hR, hx, hlen, Nat.zero_add, ← ho] at h1
    refine ⟨fun h => h1.1 h.2, fun h => ?_⟩
    have h2 : ¬ (f.1 = 0 ∨ opn s ≤ f.2) := fun h3 => h ⟨by omega, h3⟩
    exact ⟨fun h3 => absurd (.inl h3) h2, fun _ => h1.2 h2⟩
theorem fin_ok {l : List Ty} {fs : List Ft} (h : (hierFault l fs).1 = 0) : finP l fs = ((l, fs), (0, 0)) := by unfold finP; rw [if_pos h]
theorem fin_no {l : List Ty} {fs : List Ft} (h : ¬ (hierFault l fs).1 = 0) : finP l fs = (([], []), hierFault l fs) := by unfold finP; rw [if_neg h]
theorem fn42 : callable Tryd.prog 42 = true := by kernel_rfl
theorem fn43 : callable Tryd.prog 43 = true := by kernel_rfl
set_option maxRecDepth 100000 in
set_option maxHeartbeats 4000000 in
theorem prs_any (s : ByteArray) (w : World) (hTab : TabIn w) : Calls Tryd.prog 16 #[.string s] w fun e w' => (∃ At ct Af cf l fs f, prs s = ((l, fs), f) ∧ e = .returned (.tuple #[.agg #[.slice At (List.length l) ct, .slice Af (List.length fs) cf], .agg #[.int .i64 (Prod.fst f), .int .i64 f.2]]) ∧ l.length ≤ ct ∧ fs.length ≤ cf ∧ TypesIn w' At l ∧ FeatsIn w' Af fs) ∧ Bel w w' := by
 refine enter Tryd.func16 Tryd.ntmps16 rfl (Nat.le_of_ble_eq_true rfl) ?_
 have hB : Bel w w := Below.refl _ _
 refine c_seq (c_region ?_)
 refine wl_al (cs := #[.slice none 0 0, .slice none 0 0]) ze25_HRd rfl (fun b2 w1 hb2 hs hr => ?_)
 have lo2 := nLT (Bel.size hB) hr
 replace hB := hB.tr0 hs
 clear hs
 clear hr
 refine wl_al (cs := #[.int .i64 0, .int .i64 0]) ze35_GLoose rfl (fun b3 w2 hb3 hs hr => ?_)
 have or_b2_b3 : b2 < b3 := nLL hb2.lt hr
 have lo3 := nLT (Bel.size hB) hr
 replace hB := hB.tr0 hs
 replace hb2 := hb2.tr0 hs
 clear hs
 clear hr
 refine x_nil (e_S (c_seq (c_seq (c_region (wl (r_mv (v := .string _) rfl) ?_)))))
 refine wl (r_lenS U9 rfl) (wl (r_gtr rfl rfl) (x_nil (e_S ?_)))
 refine c_ifd rfl (fun c10 => ?_) (fun c10 => ?_)
 ·
  refine c_seq (c_region (wl (r_bd (vs := #[]) (cs := #[.slice none 0 0, .slice none 0 0]) (by simp) kR) ?_))
  refine wl_cl fn41_HRd (fault_any _ _ _) rfl (fun e' w3 hr => ?_)
  obtain ⟨rfl, hs⟩ := hr
  replace hs := Same.of_bel hs
  replace hB := hB.tr0 hs
  replace hb2 := hb2.tr0 hs
  replace hb3 := hb3.tr0 hs
  clear hs
  refine ⟨_, rfl, ?_⟩
  refine wl_stW hb2 rfl rfl sz25 rfl oneA (fun w4 hq hs => ?_)
  replace hB := hB.tr1 hs lo2
  replace hb3 := hb3.tr1 hs om
  clear hs
  replace hb2 := hq
  refine wl_stW hb3 rfl rfl sz35_GLoose rfl oneA (fun w5 hq hs => ?_)
  replace hB := hB.tr1 hs lo3
  replace hb2 := hb2.tr1 hs om
  clear hs
  replace hb3 := hq
  refine x_nil (e_S (c_ret (e_Sr (fin2 (.inl rfl) rfl (rr_cell U25 rfl rfl hb2.range0 sz25) (rr_cell U35 rfl rfl hb3.range0 sz35_GLoose) ?_))))
  exact ⟨⟨none, 0, none, 0, [], [], _, prs_big c10, rfl, Nat.le_refl _, Nat.le_refl _, types_nil _ _, feats_nilH _ _⟩, hB⟩
 have h4 : s.size ≤ 4000 := by omega
 refine c_skip (e_S (c_seq (c_region (wl (r_mv (v := .string _) rfl) ?_))))
 refine wl_cl fn42 (lns_any s _ h4) rfl (fun e' w6 hr => ?_)
 obtain ⟨⟨bL, rfl, hSL⟩, hs⟩ := hr
 replace hs := Same.of_bel hs
 replace hB := hB.tr0 hs
 replace hb2 := hb2.tr0 hs
 replace hb3 := hb3.tr0 hs
 clear hs
 refine ⟨_, rfl, ?_⟩
 refine wmT rfl (wl (r_ex (v := .slice _ _ _) rfl rfl) (wl (r_ex (v := .int _ _) rfl rfl) (waS rfl (waI rfl (x_nil ?_)))))
 refine e_S (c_seq (c_region (wmS rfl ?_)))
 have zq2 := hb2.lt
 have zq3 := hb3.lt
 refine wl_cl fn43 (rd_any _ _ (lnsO s) _ hSL (lnsO_len h4) (lnsO_small h4)) rfl (fun e' w7 hr => ?_)
 obtain ⟨⟨At, ct, Af, cf, l, fs, f, hRe, rfl, hcl, hcf, hTX, hFT⟩, hs⟩ := hr
 replace hs := Same.of_bel hs
 replace hB := hB.tr0 hs
 replace hb2 := hb2.tr0 hs
 replace hb3 := hb3.tr0 hs
 clear hs
 obtain ⟨wX, hwX⟩ : ∃ z, z = w7 := ⟨_, rfl⟩
 obtain ⟨ZX, hZX⟩ : ∃ z, z = (w6).heap.size := ⟨_, rfl⟩
 rw [← hZX] at hTX hFT zq2 zq3
 have hFX : FrSame ZX wX w7 := by rw [hwX]; exact FrSame.refl _ _
 rw [← hwX] at hTX hFT
 obtain ⟨hP1, hP2⟩ := prs_fin h4 hRe
 refine ⟨_, rfl, ?_⟩
 refine wmT rfl (wl (r_ex (v := .agg _) rfl rfl) (wl (r_ex (v := .agg _) rfl rfl) ?_))
 refine wl_al (cs := #[.slice none 0 0, .slice none 0 0]) ze25_HRd rfl (fun b6 w8 hb6 hs hr => ?_)
 have or_b2_b6 : b2 < b6 := nLL hb2.lt hr
 have or_b3_b6 : b3 < b6 := nLL hb3.lt hr
 have or_hFX_b6 := (nLT hFX.size hr)
 have lo6 := nLT (Bel.size hB) hr
 replace hB := hB.tr0 hs
 replace hb2 := hb2.tr0 hs
 replace hb3 := hb3.tr0 hs
 replace hFX := hFX.of hs (by simp)
 clear hs
 clear hr
 refine wl_al (cs := #[.int .i64 0, .int .i64 0]) ze35_GLoose rfl (fun b7 w9 hb7 hs hr => ?_)
 have or_b2_b7 : b2 < b7 := nLL hb2.lt hr
 have or_b3_b7 : b3 < b7 := nLL hb3.lt hr
 have or_hFX_b7 := (nLT hFX.size hr)
 have or_b6_b7 : b6 < b7 := nLL hb6.lt hr
 have lo7 := nLT (Bel.size hB) hr
 replace hB := hB.tr0 hs
 replace hb2 := hb2.tr0 hs
 replace hb3 := hb3.tr0 hs
 replace hFX := hFX.of hs (by simp)
 replace hb6 := hb6.tr0 hs
 clear hs
 clear hr
 refine wl_stW hb6 rfl rfl sz25 rfl oneA (fun w10 hq hs => ?_)
 replace hB := hB.tr1 hs lo6
 replace hb2 := hb2.tr1 hs om
 replace hb3 := hb3.tr1 hs om
 replace hFX := hFX.of hs (fun g hg => by rw [List.mem_singleton.1 hg]; omega)
 replace hb7 := hb7.tr1 hs om
 clear hs
 replace hb6 := hq
 refine wl_stW hb7 rfl rfl sz35_GLoose rfl oneA (fun w11 hq hs => ?_)
 replace hB := hB.tr1 hs lo7
 replace hb2 := hb2.tr1 hs om
 replace hb3 := hb3.tr1 hs om
 replace hFX := hFX.of hs (fun g hg => by rw [List.mem_singleton.1 hg]; omega)
 replace hb6 := hb6.tr1 hs om
 clear hs
 replace hb7 := hq
 refine x_nil (e_S (c_seq (c_seq ?_)))
 refine c_cut1 [23, 24, 25, 26, 27, 28, 29, 30, 31, 32, 33, 34, 35] 35 (.bool (decide (0 ≤ opn s ∧ (f.1 = 0 ∨ opn s ≤ f.2)))) nu ?_ (fun gq => ?_)
 ·
  refine c_region (wmI rfl (wl (r_geq rfl rfl) (wmB rfl ?_)))
  refine wl_casesd 25 rfl (fun g25 => ?_) (fun g25 => ?_)
  ·
   refine wl_gd 25 rfl rfl (wl (r_fa U35 sz3_GLoose dE rfl rfl rfl) (wl_gd 25 rfl rfl (wl (r_ld1 (v := .int _ _) U3 rfl rfl (hb7.cell rfl)) (wl_gd 25 rfl rfl (wl (r_eql rfl rfl) ?_)))))
   refine wl_gd 25 rfl rfl (wmB rfl ?_)
   refine wl_casesd 29 rfl (fun g29 => ?_) (fun g29 => ?_)
   ·
    refine wlgn 29 rfl rfl rfl (wlgn 29 rfl rfl rfl (wlgn 29 rfl rfl rfl (wlgn 29 rfl rfl rfl (wl_gd 25 rfl rfl (wl (r_pt (v := .bool _) rfl rfl) ?_)))))
    refine wl (r_pt (v := .bool _) rfl rfl) ?_
    refine x_nil (e_R ⟨rfl, agA, ?_⟩)
    exact clA
   refine wl_gd 29 rfl rfl (wl (r_fa U35 sz3_GLoose dE rfl rfl rfl) (wl_gd 29 rfl rfl (wl (r_ld1 (v := .int _ _) U3 rfl rfl (hb7.cell rfl)) (wl_gd 29 rfl rfl (wmI rfl ?_)))))
   refine wl_gd 29 rfl rfl (wl (r_geq rfl rfl) (wl_gd 25 rfl rfl (wl (r_pf (v := .bool _) rfl rfl) (wl (r_pt (v := .bool _) rfl rfl) ?_))))
   refine x_nil (e_R ⟨rfl, agA, ?_⟩)
   exact clA
  refine wlgn 25 rfl rfl rfl (wlgn 25 rfl rfl rfl (wlgn 25 rfl rfl rfl (wlgn 25 rfl rfl rfl (wlgu 29 rfl rfl (wlgu 29 rfl rfl ?_)))))
  refine wlgu 29 rfl rfl (wlgu 29 rfl rfl (wlgn 25 rfl rfl rfl (wl (r_pf (v := .bool _) rfl rfl) ?_)))
  refine x_nil (e_R ⟨rfl, agA, ?_⟩)
  exact clA
 refine e_S ?_
 refine c_ifd rfl (fun c35 => ?_) (fun c35 => ?_)
 ·
  have hp := hP1 c35
  refine c_seq (c_region (wl (r_bd (vs := #[]) (cs := #[.slice none 0 0, .slice none 0 0]) (by simp) kR) (wmI rfl ?_)))
  refine wl_cl fn41_HRd (fault_any _ _ _) rfl (fun e' w12 hr => ?_)
  obtain ⟨rfl, hs⟩ := hr
  replace hs := Same.of_bel hs
  replace hB := hB.tr0 hs
  replace hb2 := hb2.tr0 hs
  replace hb3 := hb3.tr0 hs
  replace hFX := hFX.of hs (by simp)
  replace hb6 := hb6.tr0 hs
  replace hb7 := hb7.tr0 hs
  clear hs
  refine ⟨_, rfl, ?_⟩
  refine wl_stW hb2 rfl rfl sz25 rfl oneA (fun w13 hq hs => ?_)
  replace hB := hB.tr1 hs lo2
  replace hb3 := hb3.tr1 hs om
  replace hFX := hFX.of hs (fun g hg => by rw [List.mem_singleton.1 hg]; omega)
  replace hb6 := hb6.tr1 hs om
  replace hb7 := hb7.tr1 hs om
  clear hs
  replace hb2 := hq
  refine wl_stW hb3 rfl rfl sz35_GLoose rfl oneA (fun w14 hq hs => ?_)
  replace hB := hB.tr1 hs lo3
  replace hb2 := hb2.tr1 hs om
  replace hFX := hFX.of hs (fun g hg => by rw [List.mem_singleton.1 hg]; omega)
  replace hb6 := hb6.tr1 hs om
  replace hb7 := hb7.tr1 hs om
  clear hs
  replace hb3 := hq
  refine x_nil (e_S (c_ret (e_Sr (fin2 (.inl rfl) rfl (rr_cell U25 rfl rfl hb2.range0 sz25) (rr_cell U35 rfl rfl hb3.range0 sz35_GLoose) ?_))))
  exact ⟨⟨none, 0, none, 0, [], [], _, hp, rfl, Nat.le_refl _, Nat.le_refl _, types_nil _ _, feats_nilH _ _⟩, hB⟩
 obtain ⟨hP3, hP4⟩ := hP2 c35
 refine c_skip (e_S (c_seq (c_seq (c_region (wl (r_fa U35 sz3_GLoose dE rfl rfl rfl) ?_)))))
 refine wl (r_ld1 (v := .int _ _) U3 rfl rfl (hb7.cell rfl)) (wl (r_eql rfl rfl) (x_nil (e_S ?_)))
 refine c_ifd rfl (fun c41 => ?_) (fun c41 => ?_)
 ·
  have hp5 := hP3 c41
  refine c_region (wl (r_ldS U25 rfl rfl hb6.range0 sz25) ?_)
  refine wl_cl fn44 (validate_any At Af ct cf l fs _ (hTab.mono hB) (hTX _ hFX) (hFT _ hFX)) rfl (fun e' w15 hr => ?_)
  obtain ⟨rfl, hs⟩ := hr
  replace hs := Same.of_bel hs
  replace hB := hB.tr0 hs
  replace hb2 := hb2.tr0 hs
  replace hb3 := hb3.tr0 hs
  replace hFX := hFX.of hs (by simp)
  replace hb6 := hb6.tr0 hs
  replace hb7 := hb7.tr0 hs
  clear hs
  refine ⟨_, rfl, ?_⟩
  refine wl_stW hb7 rfl rfl sz35_GLoose rfl oneA (fun w16 hq hs => ?_)
  replace hB := hB.tr1 hs lo7
  replace hb2 := hb2.tr1 hs om
  replace hb3 := hb3.tr1 hs om
  replace hFX := hFX.of hs (fun g hg => by rw [List.mem_singleton.1 hg]; omega)
  replace hb6 := hb6.tr1 hs om
  clear hs
  replace hb7 := hq
  refine x_nil (e_S (c_seq (c_seq (c_region (wl (r_fa U35 sz3_GLoose dE rfl rfl rfl) ?_)))))
  refine wl (r_ld1 (v := .int _ _) U3 rfl rfl (hb7.cell rfl)) (wl (r_neq rfl rfl) (x_nil (e_S ?_)))
  refine c_ifd rfl (fun c46 => ?_) (fun c46 => ?_)
  ·
   refine c_seq ?_
   refine c_all #[false, false, false, false] kR (by rfl) (fun w17 hs => ?_)
   replace hB := hB.tr0 hs
   replace hb2 := hb2.tr0 hs
   replace hb3 := hb3.tr0 hs
   replace hFX := hFX.of hs (by simp)
   replace hb6 := hb6.tr0 hs
   replace hb7 := hb7.tr0 hs
   clear hs
   refine a_step [0, 1] kR rfl ⟨fun o hoq => ?_, fun o hoq => ?_, trivial⟩
   ·
    obtain rfl := sI hoq
    refine wl (r_bd (vs := #[]) (cs := #[.slice none 0 0, .slice none 0 0]) (by simp) kR) (x_nil (e_A (listed' := #[true, false, false, false]) (by rfl) ?_))
    refine a_step [1, 2] kR rfl ⟨fun o hoq => ?_, fun o hoq => ?_, trivial⟩
    ·
     obtain rfl := sI hoq
     refine wl (r_ldS U35 rfl rfl hb7.range0 sz35_GLoose) (x_nil (e_A (listed' := #[true, true, false, false]) (by rfl) ?_))
     refine a_step [2] kR rfl ⟨fun o hoq => ?_, trivial⟩
     obtain rfl := sI hoq
     refine wl_stW hb2 rfl rfl sz25 rfl oneA (fun w18 hq hs => ?_)
     replace hB := hB.tr1 hs lo2
     replace hb3 := hb3.tr1 hs om
     replace hFX := hFX.of hs (fun g hg => by rw [List.mem_singleton.1 hg]; omega)
     replace hb6 := hb6.tr1 hs om
     replace hb7 := hb7.tr1 hs om
     clear hs
     replace hb2 := hq
     refine x_nil (e_A (listed' := #[true, true, true, false]) (by rfl) ?_)
     refine a_step [3] kR rfl ⟨fun o hoq => ?_, trivial⟩
     obtain rfl := sI hoq
     refine wl_stW hb3 rfl rfl sz35_GLoose rfl oneA (fun w19 hq hs => ?_)
     replace hB := hB.tr1 hs lo3
     replace hb2 := hb2.tr1 hs om
     replace hFX := hFX.of hs (fun g hg => by rw [List.mem_singleton.1 hg]; omega)
     replace hb6 := hb6.tr1 hs om
     replace hb7 := hb7.tr1 hs om
     clear hs
     replace hb3 := hq
     refine x_nil (e_A (listed' := #[true, true, true, true]) (by rfl) (a_end kR (e_S (c_ret (e_Sr ?_)))))
     refine fin2 (.inl rfl) rfl (rr_cell U25 rfl rfl hb2.range0 sz25) (rr_cell U35 rfl rfl hb3.range0 sz35_GLoose) ?_
     first
       | exact ⟨⟨none, 0, none, 0, [], [], _, hp5.trans (fin_no c46), rfl, Nat.le_refl _, Nat.le_refl _, types_nil _ _, feats_nilH _ _⟩, hB⟩
       | exact ⟨⟨none, 0, none, 0, [], [], _, hp5, rfl, Nat.le_refl _, Nat.le_refl _, types_nil _ _, feats_nilH _ _⟩, hB⟩
    obtain rfl := sI hoq
    refine wl_stW hb2 rfl rfl sz25 rfl oneA (fun w20 hq hs => ?_)
    replace hB := hB.tr1 hs lo2
    replace hb3 := hb3.tr1 hs om
    replace hFX := hFX.of hs (fun g hg => by rw [List.mem_singleton.1 hg]; omega)
    replace hb6 := hb6.tr1 hs om
    replace hb7 := hb7.tr1 hs om
    clear hs
    replace hb2 := hq
    refine x_nil (e_A (listed' := #[true, false, true, false]) (by rfl) ?_)
    refine a_step [1] kR rfl ⟨fun o hoq => ?_, trivial⟩
    obtain rfl := sI hoq
    refine wl (r_ldS U35 rfl rfl hb7.range0 sz35_GLoose) (x_nil (e_A (listed' := #[true, true, true, false]) (by rfl) ?_))
    refine a_step [3] kR rfl ⟨fun o hoq => ?_, trivial⟩
    obtain rfl := sI hoq
    refine wl_stW hb3 rfl rfl sz35_GLoose rfl oneA (fun w21 hq hs => ?_)
    replace hB := hB.tr1 hs lo3
    replace hb2 := hb2.tr1 hs om
    replace hFX := hFX.of hs (fun g hg => by rw [List.mem_singleton.1 hg]; omega)
    replace hb6 := hb6.tr1 hs om
    replace hb7 := hb7.tr1 hs om
    clear hs
    replace hb3 := hq
    refine x_nil (e_A (listed' := #[true, true, true, true]) (by rfl) (a_end kR (e_S (c_ret (e_Sr ?_)))))
    refine fin2 (.inl rfl) rfl (rr_cell U25 rfl rfl hb2.range0 sz25) (rr_cell U35 rfl rfl hb3.range0 sz35_GLoose) ?_
    first
      | exact ⟨⟨none, 0, none, 0, [], [], _, hp5.trans (fin_no c46), rfl, Nat.le_refl _, Nat.le_refl _, types_nil _ _, feats_nilH _ _⟩, hB⟩
      | exact ⟨⟨none, 0, none, 0, [], [], _, hp5, rfl, Nat.le_refl _, Nat.le_refl _, types_nil _ _, feats_nilH _ _⟩, hB⟩
   obtain rfl := sI hoq
   refine wl (r_ldS U35 rfl rfl hb7.range0 sz35_GLoose) (x_nil (e_A (listed' := #[false, true, false, false]) (by rfl) ?_))
   refine a_step [0] kR rfl ⟨fun o hoq => ?_, trivial⟩
   obtain rfl := sI hoq
   refine wl (r_bd (vs := #[]) (cs := #[.slice none 0 0, .slice none 0 0]) (by simp) kR) (x_nil (e_A (listed' := #[true, true, false, false]) (by rfl) ?_))
   refine a_step [2] kR rfl ⟨fun o hoq => ?_, trivial⟩
   obtain rfl := sI hoq
   refine wl_stW hb2 rfl rfl sz25 rfl oneA (fun w22 hq hs => ?_)
   replace hB := hB.tr1 hs lo2
   replace hb3 := hb3.tr1 hs om
   replace hFX := hFX.of hs (fun g hg => by rw [List.mem_singleton.1 hg]; omega)
   replace hb6 := hb6.tr1 hs om
   replace hb7 := hb7.tr1 hs om
   clear hs
   replace hb2 := hq
   refine x_nil (e_A (listed' := #[true, true, true, false]) (by rfl) ?_)
   refine a_step [3] kR rfl ⟨fun o hoq => ?_, trivial⟩
   obtain rfl := sI hoq
   refine wl_stW hb3 rfl rfl sz35_GLoose rfl oneA (fun w23 hq hs => ?_)
   replace hB := hB.tr1 hs lo3
   replace hb2 := hb2.tr1 hs om
   replace hFX := hFX.of hs (fun g hg => by rw [List.mem_singleton.1 hg]; omega)
   replace hb6 := hb6.tr1 hs om
   replace hb7 := hb7.tr1 hs om
   clear hs
   replace hb3 := hq
   refine x_nil (e_A (listed' := #[true, true, true, true]) (by rfl) (a_end kR (e_S (c_ret (e_Sr ?_)))))
   refine fin2 (.inl rfl) rfl (rr_cell U25 rfl rfl hb2.range0 sz25) (rr_cell U35 rfl rfl hb3.range0 sz35_GLoose) ?_
   first
     | exact ⟨⟨none, 0, none, 0, [], [], _, hp5.trans (fin_no c46), rfl, Nat.le_refl _, Nat.le_refl _, types_nil _ _, feats_nilH _ _⟩, hB⟩
     | exact ⟨⟨none, 0, none, 0, [], [], _, hp5, rfl, Nat.le_refl _, Nat.le_refl _, types_nil _ _, feats_nilH _ _⟩, hB⟩
  refine c_skip (e_S (c_seq (c_region (wl (r_ldS U25 rfl rfl hb6.range0 sz25) (wl (r_bd (vs := #[]) (cs := #[.int .i64 0, .int .i64 0]) (by simp) kR) ?_)))))
  refine wl_stW hb2 rfl rfl sz25 rfl oneA (fun w24 hq hs => ?_)
  replace hB := hB.tr1 hs lo2
  replace hb3 := hb3.tr1 hs om
  replace hFX := hFX.of hs (fun g hg => by rw [List.mem_singleton.1 hg]; omega)
  replace hb6 := hb6.tr1 hs om
  replace hb7 := hb7.tr1 hs om
  clear hs
  replace hb2 := hq
  refine wl_stW hb3 rfl rfl sz35_GLoose rfl oneA (fun w25 hq hs => ?_)
  replace hB := hB.tr1 hs lo3
  replace hb2 := hb2.tr1 hs om
  replace hFX := hFX.of hs (fun g hg => by rw [List.mem_singleton.1 hg]; omega)
  replace hb6 := hb6.tr1 hs om
  replace hb7 := hb7.tr1 hs om
  clear hs
  replace hb3 := hq
  refine x_nil (e_S (c_ret (fin2 (.inl rfl) rfl (rr_cell U25 rfl rfl hb2.range0 sz25) (rr_cell U35 rfl rfl hb3.range0 sz35_GLoose) ?_)))
  first
    | exact absurd (Decidable.not_not.1 c46) c41
    | exact ⟨⟨At, ct, Af, cf, l, fs, _, hp5.trans (fin_ok (Decidable.not_not.1 c46)), rfl, hcl, hcf, hTX _ hFX, hFT _ hFX⟩, hB⟩
 have hp5 := hP4 c41
 refine c_skip (e_S (c_seq (c_seq (c_region (wl (r_fa U35 sz3_GLoose dE rfl rfl rfl) ?_)))))
 refine wl (r_ld1 (v := .int _ _) U3 rfl rfl (hb7.cell rfl)) (wl (r_neq rfl rfl) (x_nil (e_S ?_)))
 refine c_ifd rfl (fun c46 => ?_) (fun c46 => ?_)
 ·
  refine c_seq ?_
  refine c_all #[false, false, false, false] kR (by rfl) (fun w26 hs => ?_)
  replace hB := hB.tr0 hs
  replace hb2 := hb2.tr0 hs
  replace hb3 := hb3.tr0 hs
  replace hFX := hFX.of hs (by simp)
  replace hb6 := hb6.tr0 hs
  replace hb7 := hb7.tr0 hs
  clear hs
  refine a_step [0, 1] kR rfl ⟨fun o hoq => ?_, fun o hoq => ?_, trivial⟩
  ·
   obtain rfl := sI hoq
   refine wl (r_bd (vs := #[]) (cs := #[.slice none 0 0, .slice none 0 0]) (by simp) kR) (x_nil (e_A (listed' := #[true, false, false, false]) (by rfl) ?_))
   refine a_step [1, 2] kR rfl ⟨fun o hoq => ?_, fun o hoq => ?_, trivial⟩
   ·
    obtain rfl := sI hoq
    refine wl (r_ldS U35 rfl rfl hb7.range0 sz35_GLoose) (x_nil (e_A (listed' := #[true, true, false, false]) (by rfl) ?_))
    refine a_step [2] kR rfl ⟨fun o hoq => ?_, trivial⟩
    obtain rfl := sI hoq
    refine wl_stW hb2 rfl rfl sz25 rfl oneA (fun w27 hq hs => ?_)
    replace hB := hB.tr1 hs lo2
    replace hb3 := hb3.tr1 hs om
    replace hFX := hFX.of hs (fun g hg => by rw [List.mem_singleton.1 hg]; omega)
    replace hb6 := hb6.tr1 hs om
    replace hb7 := hb7.tr1 hs om
    clear hs
    replace hb2 := hq
    refine x_nil (e_A (listed' := #[true, true, true, false]) (by rfl) ?_)
    refine a_step [3] kR rfl ⟨fun o hoq => ?_, trivial⟩
    obtain rfl := sI hoq
    refine wl_stW hb3 rfl rfl sz35_GLoose rfl oneA (fun w28 hq hs => ?_)
    replace hB := hB.tr1 hs lo3
    replace hb2 := hb2.tr1 hs om
    replace hFX := hFX.of hs (fun g hg => by rw [List.mem_singleton.1 hg]; omega)
    replace hb6 := hb6.tr1 hs om
    replace hb7 := hb7.tr1 hs om
    clear hs
    replace hb3 := hq
    refine x_nil (e_A (listed' := #[true, true, true, true]) (by rfl) (a_end kR (e_S (c_ret (e_Sr ?_)))))
    refine fin2 (.inl rfl) rfl (rr_cell U25 rfl rfl hb2.range0 sz25) (rr_cell U35 rfl rfl hb3.range0 sz35_GLoose) ?_
    first
      | exact ⟨⟨none, 0, none, 0, [], [], _, hp5.trans (fin_no c46), rfl, Nat.le_refl _, Nat.le_refl _, types_nil _ _, feats_nilH _ _⟩, hB⟩
      | exact ⟨⟨none, 0, none, 0, [], [], _, hp5, rfl, Nat.le_refl _, Nat.le_refl _, types_nil _ _, feats_nilH _ _⟩, hB⟩
   obtain rfl := sI hoq
   refine wl_stW hb2 rfl rfl sz25 rfl oneA (fun w29 hq hs => ?_)
   replace hB := hB.tr1 hs lo2
   replace hb3 := hb3.tr1 hs om
   replace hFX := hFX.of hs (fun g hg => by rw [List.mem_singleton.1 hg]; omega)
   replace hb6 := hb6.tr1 hs om
   replace hb7 := hb7.tr1 hs om
   clear hs
   replace hb2 := hq
   refine x_nil (e_A (listed' := #[true, false, true, false]) (by rfl) ?_)
   refine a_step [1] kR rfl ⟨fun o hoq => ?_, trivial⟩
   obtain rfl := sI hoq
   refine wl (r_ldS U35 rfl rfl hb7.range0 sz35_GLoose) (x_nil (e_A (listed' := #[true, true, true, false]) (by rfl) ?_))
   refine a_step [3] kR rfl ⟨fun o hoq => ?_, trivial⟩
   obtain rfl := sI hoq
   refine wl_stW hb3 rfl rfl sz35_GLoose rfl oneA (fun w30 hq hs => ?_)
   replace hB := hB.tr1 hs lo3
   replace hb2 := hb2.tr1 hs om
   replace hFX := hFX.of hs (fun g hg => by rw [List.mem_singleton.1 hg]; omega)
   replace hb6 := hb6.tr1 hs om
   replace hb7 := hb7.tr1 hs om
   clear hs
   replace hb3 := hq
   refine x_nil (e_A (listed' := #[true, true, true, true]) (by rfl) (a_end kR (e_S (c_ret (e_Sr ?_)))))
   refine fin2 (.inl rfl) rfl (rr_cell U25 rfl rfl hb2.range0 sz25) (rr_cell U35 rfl rfl hb3.range0 sz35_GLoose) ?_
   first
     | exact ⟨⟨none, 0, none, 0, [], [], _, hp5.trans (fin_no c46), rfl, Nat.le_refl _, Nat.le_refl _, types_nil _ _, feats_nilH _ _⟩, hB⟩
     | exact ⟨⟨none, 0, none, 0, [], [], _, hp5, rfl, Nat.le_refl _, Nat.le_refl _, types_nil _ _, feats_nilH _ _⟩, hB⟩
  obtain rfl := sI hoq
  refine wl (r_ldS U35 rfl rfl hb7.range0 sz35_GLoose) (x_nil (e_A (listed' := #[false, true, false, false]) (by rfl) ?_))
  refine a_step [0] kR rfl ⟨fun o hoq => ?_, trivial⟩
  obtain rfl := sI hoq
  refine wl (r_bd (vs := #[]) (cs := #[.slice none 0 0, .slice none 0 0]) (by simp) kR) (x_nil (e_A (listed' := #[true, true, false, false]) (by rfl) ?_))
  refine a_step [2] kR rfl ⟨fun o hoq => ?_, trivial⟩
  obtain rfl := sI hoq
  refine wl_stW hb2 rfl rfl sz25 rfl oneA (fun w31 hq hs => ?_)
  replace hB := hB.tr1 hs lo2
  replace hb3 := hb3.tr1 hs om
  replace hFX := hFX.of hs (fun g hg => by rw [List.mem_singleton.1 hg]; omega)
  replace hb6 := hb6.tr1 hs om
  replace hb7 := hb7.tr1 hs om
  clear hs
  replace hb2 := hq
  refine x_nil (e_A (listed' := #[true, true, true, false]) (by rfl) ?_)
  refine a_step [3] kR rfl ⟨fun o hoq => ?_, trivial⟩
  obtain rfl := sI hoq
  refine wl_stW hb3 rfl rfl sz35_GLoose rfl oneA (fun w32 hq hs => ?_)
  replace hB := hB.tr1 hs lo3
  replace hb2 := hb2.tr1 hs om
  replace hFX := hFX.of hs (fun g hg => by rw [List.mem_singleton.1 hg]; omega)
  replace hb6 := hb6.tr1 hs om
  replace hb7 := hb7.tr1 hs om
  clear hs
  replace hb3 := hq
  refine x_nil (e_A (listed' := #[true, true, true, true]) (by rfl) (a_end kR (e_S (c_ret (e_Sr ?_)))))
  refine fin2 (.inl rfl) rfl (rr_cell U25 rfl rfl hb2.range0 sz25) (rr_cell U35 rfl rfl hb3.range0 sz35_GLoose) ?_
  first
    | exact ⟨⟨none, 0, none, 0, [], [], _, hp5.trans (fin_no c46), rfl, Nat.le_refl _, Nat.le_refl _, types_nil _ _, feats_nilH _ _⟩, hB⟩
    | exact ⟨⟨none, 0, none, 0, [], [], _, hp5, rfl, Nat.le_refl _, Nat.le_refl _, types_nil _ _, feats_nilH _ _⟩, hB⟩
 refine c_skip (e_S (c_seq (c_region (wl (r_ldS U25 rfl rfl hb6.range0 sz25) (wl (r_bd (vs := #[]) (cs := #[.int .i64 0, .int .i64 0]) (by simp) kR) ?_)))))
 refine wl_stW hb2 rfl rfl sz25 rfl oneA (fun w33 hq hs => ?_)
 replace hB := hB.tr1 hs lo2
 replace hb3 := hb3.tr1 hs om
 replace hFX := hFX.of hs (fun g hg => by rw [List.mem_singleton.1 hg]; omega)
 replace hb6 := hb6.tr1 hs om
 replace hb7 := hb7.tr1 hs om
 clear hs
 replace hb2 := hq
 refine wl_stW hb3 rfl rfl sz35_GLoose rfl oneA (fun w34 hq hs => ?_)
 replace hB := hB.tr1 hs lo3
 replace hb2 := hb2.tr1 hs om
 replace hFX := hFX.of hs (fun g hg => by rw [List.mem_singleton.1 hg]; omega)
 replace hb6 := hb6.tr1 hs om
 replace hb7 := hb7.tr1 hs om
 clear hs
 replace hb3 := hq
 refine x_nil (e_S (c_ret (fin2 (.inl rfl) rfl (rr_cell U25 rfl rfl hb2.range0 sz25) (rr_cell U35 rfl rfl hb3.range0 sz35_GLoose) ?_)))
 first
   | exact absurd (Decidable.not_not.1 c46) c41
   | exact ⟨⟨At, ct, Af, cf, l, fs, _, hp5.trans (fin_ok (Decidable.not_not.1 c46)), rfl, hcl, hcf, hTX _ hFX, hFT _ hFX⟩, hB⟩
end Go.Proofs.YtegngekpmpdngaaDoor
namespace Go.Proofs.YtegngekpmpdngaaDoor
open Go.RowKit
structure HV (l : List Ty) (fs : List Ft) : Prop where
  le : l.length ≤ 60
  pos : 0 < l.length
  few : fs.length ≤ 40
  ty : ∀ k (hk : k < l.length), isName (l[k]).name = true ∧ seen ((l.take k).map (·.name)) (l[k]).name = false ∧ parFault k (-1) (l[k]).par = 0
  ft : ∀ k (hk : k < fs.length), isName (fs[k]).name = true ∧ ¬ ftBad l.length fs[k]
theorem par_few {i : Int} : ∀ {ps : List Int} {last : Int}, parFault i last ps = 0 → last < i → (ps.length : Int) ≤ i - 1 - last
  | [], last, _, hl => by simp only [List.length_nil]; omega
  | q :: ps, last, h, hl => by
    unfold parFault at h
    by_cases h1 : q < 0 ∨ i ≤ q
    · rw [if_pos h1] at h; cases h
    rw [if_neg h1] at h
    by_cases h2 : q ≤ last
    · rw [if_pos h2] at h; cases h
    rw [if_neg h2] at h
    have := par_few h om
    rw [List.length_cons]; omega
theorem HV.par {l : List Ty} {fs : List Ft} (h : HV l fs) {k : Nat} (hk : k < l.length) : (l[k]).par.length ≤ k ∧ ∀ p ∈ (l[k]).par, 0 ≤ p ∧ p < (k : Int) := by
  have h1 := (h.ty k hk).2.2
  have := par_few h1 om
  exact ⟨by omega, parFault_ok h1⟩
section laws
variable {l : List Ty} {fs : List Ft}
theorem seen_not {xs : List ByteArray} {s : ByteArray} (h : seen xs s = false) : ∀ x ∈ xs, ¬ x = s := fun x hx => by
  unfold seen at h
  rw [List.any_eq_false] at h
  simpa using h x hx
theorem HV.fnd_at (h : HV l fs) {k p : Nat} (hk : k ≤ l.length) (hp : p < k) : fnd (l.take k) (l[p]'om).name = (p : Int) := by
  refine Go.Proofs.YtegngekpmpdngaaDoor.fnd_at (k := p) (by rw [List.length_take]; omega) (by rw [List.getElem_take]) (fun j hj hjp => ?_)
  rw [List.getElem_take]
  have h1 := (h.ty p om).2.1
  refine seen_not h1 _ (List.mem_map.2 ⟨l[j], ?_, rfl⟩)
  rw [List.mem_iff_getElem]
  exact ⟨j, by rw [List.length_take]; omega, by rw [List.getElem_take]⟩
theorem cont_step {a : List Ty} {b : List Ft} {n : Nat} {y : ByteArray} {ys : List ByteArray} {p : List Ty × List Ft} (hy : ys ≠ []) (h : stepL a b (sp 32 y) = .inr p) : contP a b n (y :: ys) = contP p.1 p.2 (n + 1) ys := by
  cases ys with
  | nil => exact absurd rfl hy
  | cons z zs => rw [contP_cons, h]
end laws
end Go.Proofs.YtegngekpmpdngaaDoor
