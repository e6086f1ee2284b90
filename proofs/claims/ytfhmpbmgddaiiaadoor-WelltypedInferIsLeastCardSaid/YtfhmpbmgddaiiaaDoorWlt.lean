/- Loose graphs (types not yet raised), and what Infer returns of them. No program in sight. What these functions of the program compute, at every world: glosswright/welltyped.fault, glosswright/welltyped.Loose, glosswright/welltyped.Infer$1. -/
import Derived.Test.YtfhmpbmgddaiiaaDoorInf
import Derived.Test.YtfhmpbmgddaiiaaDoorGro
import Derived.Test.YtfhmpbmgddaiiaaDoorU
import Derived.Test.YtfhmpbmgddaiiaaDoorGVal
import Derived.Test.YtfhmpbmgddaiiaaDoorEng2
namespace Go.Proofs.YtfhmpbmgddaiiaaDoor
open Go.RowKit
noncomputable def looseT (l : List Ty) (fs : List Ft) (g : List Nd) : Fl := if ¬ (hierFault l fs).1 = 0 then hierFault l fs else if ¬ (looseF l.length fs.length g).1 = 0 then looseF l.length fs.length g else if 0 ≤ unrI g then (5, unrI g) else (0, 0)
section
variable {l : List Ty} {fs : List Ft} {g : List Nd}
theorem lt_hier (h : ¬ (hierFault l fs).1 = 0) : looseT l fs g = ((hierFault l fs).1, (hierFault l fs).2) := by unfold looseT; rw [if_pos h]
theorem lt_loose (h : (hierFault l fs).1 = 0) (h1 : ¬ (looseF l.length fs.length g).1 = 0) : looseT l fs g = ((looseF l.length fs.length g).1, (looseF l.length fs.length g).2) := by unfold looseT; rw [if_neg (fun k => k h), if_pos h1]
theorem lt_unr (h : (hierFault l fs).1 = 0) (h1 : (looseF l.length fs.length g).1 = 0) (h2 : 0 ≤ unrI g) : looseT l fs g = (5, unrI g) := by unfold looseT; rw [if_neg (fun k => k h), if_neg (fun k => k h1), if_pos h2]
theorem lt_zero (h : (hierFault l fs).1 = 0) (h1 : (looseF l.length fs.length g).1 = 0) (h2 : ¬ 0 ≤ unrI g) : looseT l fs g = (0, 0) := by unfold looseT; rw [if_neg (fun k => k h), if_neg (fun k => k h1), if_neg h2]
structure GL (l : List Ty) (fs : List Ft) (g : List Nd) : Prop where
  h : (hierFault l fs).1 = 0
  s : Sound l
  few : fs.length ≤ 40
  f : FOk l.length fs
  gok : GOk l.length fs.length g
  lo : (looseF l.length fs.length g).1 = 0
  u : ¬ 0 ≤ unrI g
  gx : GX l g
theorem gx_loose (hs : Sound l) (hk : GOk l.length fs.length g) (h1 : (looseF l.length fs.length g).1 = 0) (h2 : ¬ 0 ≤ unrI g) : GX l g :=
  ⟨⟨hs.vt, hk.pos, fun i hi => by rw [nd_eq hi]; exact hk.ty i hi, fun i hi => by rw [nd_eq hi]; exact srt_of (loose_ln h1 i hi), fun i hi x hx => by
    rw [nd_eq hi] at hx
    have := hk.ln i hi x hx
    omega⟩, by
    obtain ⟨r, hr⟩ := unr_ex g
    have hu := h2
    rw [← unr_is hr] at hu
    rcases hr with ⟨_, h3⟩ | ⟨k, h3, _⟩
    · exact h3
    · exact absurd (show 0 ≤ r by omega) hu⟩
theorem few_of (h : (hierFault l fs).1 = 0) : fs.length ≤ 40 := by
  unfold hierFault at h
  by_cases h4 : 40 < fs.length
  · rw [if_pos h4] at h; cases h
  · omega
theorem gl_of (h : (looseT l fs g).1 = 0) : GL l fs g := by
  by_cases h0 : (hierFault l fs).1 = 0
  · by_cases h1 : (looseF l.length fs.length g).1 = 0
    · by_cases h2 : 0 ≤ unrI g
      · rw [lt_unr h0 h1 h2] at h; exact absurd (show (5 : Int) = 0 from h) dE
      · have hk := gok_of h1
        exact ⟨h0, sound_of h0, few_of h0, fok_of h0, hk, h1, h2, gx_loose (sound_of h0) hk h1 h2⟩
    · rw [lt_loose h0 h1] at h; exact absurd h h1
  · rw [lt_hier h0] at h; exact absurd h h0
theorem GL.zero (h : GL l fs g) : looseT l fs g = (0, 0) := lt_zero h.h h.lo h.u
theorem GV.gl (h : GV l fs g) : GL l fs g := ⟨h.h, h.s, h.few, h.f, h.gok, h.lo, h.u, h.gx⟩
end
def InfS (l : List Ty) (fs : List Ft) (g : List Nd) (ok : Bool) (f : Fl) (X : List Nd) : Prop :=
  (¬ (looseT l fs g).1 = 0 ∧ ok = false ∧ f = looseT l fs g ∧ X = []) ∨
  ((looseT l fs g).1 = 0 ∧ f = (0, 0) ∧ ∃ o, DL g [0] [] o ∧ ((∃ T, raiseL l (dem fs (canG g o)) (tyO (canG g o)) = some T ∧ ok = true ∧ X = reG (canG g o) T) ∨ (raiseL l (dem fs (canG g o)) (tyO (canG g o)) = none ∧ ok = false ∧ X = [])))
theorem dl_congr {g h : List Nd} (hs : ∀ i, succN h i = succN g i) {is a b : List Nat} (hD : DL g is a b) : DL h is a b := by
  induction hD with
  | nil => exact .nil
  | old h1 t ih => exact .old h1 ih
  | new h1 s t ihs iht => exact .new h1 (by rw [hs]; exact ihs) iht
theorem reG_succ (G : List Nd) (T : Nat → Nat) (i : Nat) : succN (reG G T) i = succN G i := by
  unfold succN
  by_cases h : i < G.length
  · rw [reG_nd h]
  · rw [nd_out h, nd_out (by rw [reG_len]; exact h)]
theorem can_re {g : List Nd} {o o2 : List Nat} {T : Nat → Nat} (h : Tr g o) (h2 : DL (reG (canG g o) T) [0] [] o2) : canG (reG (canG g o) T) o2 = reG (canG g o) T := by
  have h3 : DL (canG g o) [0] [] o2 := dl_congr (fun i => (reG_succ _ _ i).symm) h2
  have h4 := canon_self h h3
  have e := h.can.det h3
  subst e
  refine List.ext_getElem (by rw [canG_len, reG_len, canG_len, List.length_range]) (fun k h5 h6 => ?_)
  have hk : k < o.length := by rw [reG_len, canG_len] at h6; exact h6
  have hkc : k < (canG g o).length := by rw [canG_len]; exact hk
  have e1 := nd_canG (gr := reG (canG g o) T) (o := List.range o.length) (x := k) (by simpa using hk)
  have e2 := nd_canG (gr := canG g o) (o := List.range o.length) (x := k) (by simpa using hk)
  have e3 : (List.range o.length).getD k 0 = k := by simp [List.getD, hk]
  rw [e3] at e1 e2
  rw [nd_eq h5] at e1
  rw [h4] at e2
  have e4 := reG_nd (G := canG g o) (T := T) hkc
  rw [nd_eq h6] at e4
  rw [e1, reG_nd hkc, e4]
  have e5 : (nd (canG g o) k).ln = (nd (canG g o) k).ln.map (canL (List.range o.length)) := by
    have := congrArg Nd.ln e2
    exact this
  rw [← e5]
theorem reG_self {l : List Ty} {G : List Nd} (h : ∀ i, i < G.length → 0 ≤ (nd G i).ty ∧ (nd G i).ty < l.length) : reG G (tyO G) = G := by
  refine List.ext_getElem (reG_len _ _) (fun k h1 h2 => ?_)
  have e := reG_nd (T := tyO G) h2
  rw [nd_eq h1] at e
  have e2 := nd_eq h2
  have h3 := h k h2
  rw [e]
  unfold tyO
  rw [e2] at h3 ⊢
  rw [Int.toNat_of_nonneg h3.1]
section
variable {l : List Ty} {fs : List Ft} {g v X : List Nd} {ok : Bool} {f : Fl}
theorem tyO_lt (hx : GX l g) (hs : Sound l) (i : Nat) : tyO g i < l.length := by
  by_cases hi : i < g.length
  · have := hx.tr i hi
    unfold tyO; omega
  · have := hs.pos
    unfold tyO
    rw [nd_out hi]; exact this
theorem dem_lt {G : List Nd} (hf : FOk l.length fs) (hl : ∀ i, i < G.length → ∀ x ∈ (nd G i).ln, 0 ≤ x.1 ∧ x.1 < fs.length) : ∀ c ∈ dem fs G, c.2 < l.length := fun c hc => by
  obtain ⟨i, hi, x, hx, e⟩ := dem_mem.1 hc
  have h1 := hl i hi x hx
  have h2 := hf.at_ x.1.toNat om
  have e2 : ftAt fs x.1 = fs[x.1.toNat]'om := by simp [ftAt, List.getD, show x.1.toNat < fs.length by omega]
  rcases e with e | e <;> rw [e] <;> show Int.toNat _ < _ <;> rw [e2] <;> omega
theorem GL.can (h : GL l fs g) {o : List Nat} (hd : DL g [0] [] o) : GX l (canG g o) ∧ (canG g o).length ≤ 60 ∧ (∀ i, i < (canG g o).length → ∀ x ∈ (nd (canG g o) i).ln, 0 ≤ x.1 ∧ x.1 < fs.length) ∧ Maps l g (canG g o) ∧ Maps l (canG g o) g := by
  have ht := h.gx.toGY.trr h.gok.pos hd
  have hl := ht.ok.cnt
  have h6 := h.gok.le
  refine ⟨ht.gx h.gx.toGY, by rw [canG_len]; omega, fun i hi x hx => ?_, maps_can h.gx ht⟩
  rw [canG_len] at hi
  rw [nd_canG hi] at hx
  obtain ⟨y, hy, rfl⟩ := List.mem_map.1 hx
  have h1 : o.getD i 0 < g.length := ht.ok.lt _ (by simp [List.getD, hi])
  rw [nd_eq h1] at hy
  have := h.gok.ln _ h1 y hy
  exact ⟨this.1, this.2.1⟩
theorem inf_says (hg : GL l fs g) (h : InfS l fs g ok f X) : f = (0, 0) ∧ (ok = true → (graphF l fs X).1 = 0 ∧ ∀ v, GV l fs v → Maps l g v → Maps l X v) ∧ (ok = false → ∀ v, GV l fs v → ¬ Maps l g v) := by
  rcases h with ⟨h1, _⟩ | ⟨_, hf, o, hd, h⟩
  · exact absurd (by rw [hg.zero]) h1
  obtain ⟨hx, hle, hfr, hm1, hm2⟩ := hg.can hd
  refine ⟨hf, fun hok => ?_, fun hok v hv hm => ?_⟩
  · rcases h with ⟨T, hr, _, rfl⟩ | ⟨_, h2, _⟩
    · refine ⟨by rw [inf_valid hg.h hx hle hfr hr], fun v hv hm => ?_⟩
      obtain ⟨φ, hφ⟩ := hm2.comp hg.s.vt hm
      exact ⟨φ, inf_hom hg.s hr hv hφ⟩
    · rw [hok] at h2; cases h2
  · rcases h with ⟨T, _, h2, _⟩ | ⟨hr, _, _⟩
    · rw [hok] at h2; cases h2
    · obtain ⟨φ, hφ⟩ := hm2.comp hg.s.vt hm
      obtain ⟨i, hi⟩ := raise_none hg.s hr (tyO_lt hx hg.s) (dem_lt hg.f hfr)
      by_cases hl : i < (canG g o).length
      · have h1 := hv.gx.tr _ (hφ.lt i hl)
        exact hi _ om (dem_hom hv hφ hl)
      · refine hi (tyO (canG g o) i) (tyO_lt hx hg.s i) ⟨sub_refl hg.s.vt _, fun c hc he => ?_⟩
        obtain ⟨j, hj, x, hxm, e⟩ := dem_mem.1 hc
        rcases e with e | e
        · rw [e] at he
          exact absurd hj (by rw [show j = i from he]; exact hl)
        · rw [e] at he
          have h5 := (hx.lr j hj x hxm).2
          exact absurd h5 (by rw [show x.2.toNat = i from he]; exact hl)
theorem inf_val (h0 : (graphF l fs v).1 = 0) (h : InfS l fs v ok f X) : ok = true ∧ f = (0, 0) ∧ ∃ o, DL v [0] [] o ∧ X = canG v o := by
  have hv := gv_of h0
  have hg := hv.gl
  rcases h with ⟨h1, _⟩ | ⟨_, hf, o, hd, h⟩
  · exact absurd (by rw [hg.zero]) h1
  have hvc := gv_of ((hv.gx.toGY.trr hv.gok.pos hd).valid hv)
  have hid : raiseL l (dem fs (canG v o)) (tyO (canG v o)) = some (tyO (canG v o)) := raise_id hv.s (fun c hc => by
    obtain ⟨j, hj, x, hx, e⟩ := dem_mem.1 hc
    obtain ⟨_, _, h3, h4⟩ := hvc.lt hj hx
    refine ⟨tyO_lt hvc.gx hv.s _, ?_⟩
    rcases e with e | e
    · rw [e]; exact h3
    · rw [e]; exact h4)
  rcases h with ⟨T, hr, hok, rfl⟩ | ⟨hr, _⟩
  · rw [hid] at hr
    cases hr
    exact ⟨hok, hf, o, hd, reG_self hvc.gx.tr⟩
  · rw [hid] at hr; cases hr
theorem inf_again {Y : List Nd} {ok2 : Bool} {f2 : Fl} (hg : GL l fs g) (h : InfS l fs g true f X) (k : InfS l fs X ok2 f2 Y) : ok2 = true ∧ f2 = (0, 0) ∧ Y = X := by
  have h0 := ((inf_says hg h).2.1 rfl).1
  obtain ⟨h1, h2, o2, hd2, rfl⟩ := inf_val h0 k
  refine ⟨h1, h2, ?_⟩
  rcases h with ⟨h1, _⟩ | ⟨_, hf, o, hd, h⟩
  · exact absurd (by rw [hg.zero]) h1
  rcases h with ⟨T, hr, _, rfl⟩ | ⟨_, h3, _⟩
  · exact can_re (tr_of hg.gok hd) hd2
  · cases h3
end
def demP (fs : List Ft) (G : List Nd) (i q : Nat) : List (Nat × Nat) := (List.range i).flatMap (demN fs G) ++ ((nd G i).ln.take q).flatMap (fun x => [(i, (ftAt fs x.1).of.toNat), (x.2.toNat, (ftAt fs x.1).val.toNat)])
section
variable {l : List Ty} {fs : List Ft} {G : List Nd} {i q : Nat}
theorem demP_zero : demP fs G i 0 = (List.range i).flatMap (demN fs G) := by simp [demP]
theorem demP_all (h : (nd G i).ln.length ≤ q) : demP fs G i q = (List.range (i + 1)).flatMap (demN fs G) := by
  unfold demP
  rw [List.take_of_length_le h, List.range_succ, List.flatMap_append]
  simp [demN]
theorem demP_succ (h : q < (nd G i).ln.length) : demP fs G i (q + 1) = (demP fs G i q ++ [(i, (ftAt fs ((nd G i).ln[q]).1).of.toNat)]) ++ [(((nd G i).ln[q]).2.toNat, (ftAt fs ((nd G i).ln[q]).1).val.toNat)] := by
  unfold demP
  rw [List.take_succ_eq_append_getElem h, List.flatMap_append]
  simp
theorem dem_pre (hi : i < G.length) : ∀ q, ∃ E, dem fs G = demP fs G i q ++ E := fun q => by
  have h1 : ∃ E, dem fs G = (List.range (i + 1)).flatMap (demN fs G) ++ E := by
    refine ⟨((List.range G.length).drop (i + 1)).flatMap (demN fs G), ?_⟩
    unfold dem
    rw [← List.flatMap_append]
    have : List.range (i + 1) = (List.range G.length).take (i + 1) := by rw [List.take_range]; congr 1; omega
    rw [this, List.take_append_drop]
  obtain ⟨E, h1⟩ := h1
  refine ⟨((nd G i).ln.drop q).flatMap (fun x => [(i, (ftAt fs x.1).of.toNat), (x.2.toNat, (ftAt fs x.1).val.toNat)]) ++ E, ?_⟩
  rw [h1, List.range_succ, List.flatMap_append]
  unfold demP
  have e : [i].flatMap (demN fs G) = ((nd G i).ln.take q).flatMap (fun x => [(i, (ftAt fs x.1).of.toNat), (x.2.toNat, (ftAt fs x.1).val.toNat)]) ++ ((nd G i).ln.drop q).flatMap (fun x => [(i, (ftAt fs x.1).of.toNat), (x.2.toNat, (ftAt fs x.1).val.toNat)]) := by
    rw [← List.flatMap_append, List.take_append_drop]
    simp [demN]
  rw [e]
  simp
theorem raise_snoc {D : List (Nat × Nat)} {T0 T : Nat → Nat} {c : Nat × Nat} (h : raiseL l D T0 = some T) (hm : (meet l (T c.1) c.2).2.1 = true) : raiseL l (D ++ [c]) T0 = some (raiseT l T c) := by
  rw [raise_app, h]
  show raiseL l [c] T = _
  unfold raiseL
  rw [if_pos hm]; rfl
theorem raise_fail {D E : List (Nat × Nat)} {T0 T : Nat → Nat} {c : Nat × Nat} (h : raiseL l D T0 = some T) (hm : ¬ (meet l (T c.1) c.2).2.1 = true) : raiseL l (D ++ [c] ++ E) T0 = none := by
  rw [List.append_assoc, raise_app, h]
  show raiseL l (c :: E) T = _
  unfold raiseL
  rw [if_neg hm]
theorem raise_no {i q a : Nat} {T0 T : Nat → Nat} (hi : i < G.length) (hq : q < (nd G i).ln.length) (h : raiseL l (demP fs G i q) T0 = some T) (ha : (ftAt fs ((nd G i).ln[q]).1).of.toNat = a) (hm : ¬ (meet l (T i) a).2.1 = true) : raiseL l (dem fs G) T0 = none := by
  obtain ⟨E, he⟩ := dem_pre (fs := fs) hi (q + 1)
  rw [he, demP_succ hq, List.append_assoc]
  exact raise_fail (c := (i, _)) h (by subst ha; exact hm)
theorem raise_no2 {i q a t b : Nat} {T0 T : Nat → Nat} (hi : i < G.length) (hq : q < (nd G i).ln.length) (h : raiseL l (demP fs G i q) T0 = some T) (ha : (ftAt fs ((nd G i).ln[q]).1).of.toNat = a) (ht : ((nd G i).ln[q]).2.toNat = t) (hb : (ftAt fs ((nd G i).ln[q]).1).val.toNat = b) (hm1 : (meet l (T i) a).2.1 = true) (hm : ¬ (meet l (raiseT l T (i, a) t) b).2.1 = true) : raiseL l (dem fs G) T0 = none := by
  obtain ⟨E, he⟩ := dem_pre (fs := fs) hi (q + 1)
  rw [he, demP_succ hq]
  subst ha ht hb
  exact raise_fail (c := (_, _)) (raise_snoc (c := (i, _)) h hm1) hm
theorem raise_yes {i q a t b : Nat} {T0 T : Nat → Nat} (hq : q < (nd G i).ln.length) (h : raiseL l (demP fs G i q) T0 = some T) (ha : (ftAt fs ((nd G i).ln[q]).1).of.toNat = a) (ht : ((nd G i).ln[q]).2.toNat = t) (hb : (ftAt fs ((nd G i).ln[q]).1).val.toNat = b) (hm1 : (meet l (T i) a).2.1 = true) (hm : (meet l (raiseT l T (i, a) t) b).2.1 = true) : raiseL l (demP fs G i (q + 1)) T0 = some (raiseT l (raiseT l T (i, a)) (t, b)) := by
  rw [demP_succ hq]
  subst ha ht hb
  exact raise_snoc (c := (_, _)) (raise_snoc (c := (i, _)) h hm1) hm
end
end Go.Proofs.YtfhmpbmgddaiiaaDoor
namespace Go.Proofs.YtfhmpbmgddaiiaaDoor
open Go.RowKit
theorem fn19_Wlt : callable Tryd.prog 19 = true := by kernel_rfl
theorem fn31_Wlt : callable Tryd.prog 31 = true := by kernel_rfl
theorem fn34 : callable Tryd.prog 34 = true := by kernel_rfl
theorem wfault_any (a b : Int) (w : World) : Calls Tryd.prog 34 #[.int .i64 a, .int .i64 b] w fun e w' => e = .returned (flV (a, b)) ∧ Bel w w' := by
 refine enter Tryd.func34 Tryd.ntmps34 rfl (Nat.le_of_ble_eq_true rfl) ?_
 have hB : Bel w w := Below.refl _ _
 refine c_seq (c_region ?_)
 refine wl_al (cs := #[.int .i64 0, .int .i64 0]) ze35_GLoose rfl (fun b4 w1 hb4 hs hr => ?_)
 have lo4 := nLT (Bel.size hB) hr
 replace hB := hB.tr0 hs
 clear hs
 clear hr
 refine x_nil (e_S (c_seq (c_region (wmI rfl (wmI rfl ?_)))))
 refine wl (r_bd2 (v0 := .int _ _) (v1 := .int _ _) (fun v0 v1 => #[v0, v1]) rfl rfl kR) ?_
 refine wl_stW hb4 rfl rfl sz35_GLoose rfl oneA (fun w2 hq hs => ?_)
 replace hB := hB.tr1 hs lo4
 clear hs
 replace hb4 := hq
 refine x_nil (e_S (c_ret (fin1 (.inl rfl) rfl (rr_cell U35 rfl rfl hb4.range0 sz35_GLoose) ?_)))
 exact ⟨rfl, hB⟩
theorem lse_any (A B G : Option Addr) (c d cg : Nat) (l : List Ty) (fs : List Ft) (gr : List Nd) (w : World) (hTab : TabIn w) (hT : TypesIn w A l) (hF : FeatsIn w B fs) (hG : NodesIn w G gr) : Calls Tryd.prog 15 #[.agg #[.slice A l.length c, .slice B fs.length d], .agg #[.slice G gr.length cg]] w fun e w' => e = .returned (flV (looseT l fs gr)) ∧ Bel w w' := by
 refine enter Tryd.func15 Tryd.ntmps15 rfl (Nat.le_of_ble_eq_true rfl) ?_
 have hB : Bel w w := Below.refl _ _
 refine c_seq (c_region ?_)
 refine wl_bx (v := .agg #[_, _]) (cs := #[_, _]) rfl rfl (fun b2 w1 hb2 hs hr => ?_)
 have lo2 := nLT (Bel.size hB) hr
 replace hB := hB.tr0 hs
 clear hs
 clear hr
 refine wl_bx (v := .agg #[_]) (cs := #[_]) rfl rfl (fun b3 w2 hb3 hs hr => ?_)
 have or_b2_b3 : b2 < b3 := nLL hb2.lt hr
 have lo3 := nLT (Bel.size hB) hr
 replace hB := hB.tr0 hs
 replace hb2 := hb2.tr0 hs
 clear hs
 clear hr
 refine wl_al (cs := #[.int .i64 0, .int .i64 0]) ze35_GLoose rfl (fun b4 w3 hb4 hs hr => ?_)
 have or_b2_b4 : b2 < b4 := nLL hb2.lt hr
 have or_b3_b4 : b3 < b4 := nLL hb3.lt hr
 have lo4 := nLT (Bel.size hB) hr
 replace hB := hB.tr0 hs
 replace hb2 := hb2.tr0 hs
 replace hb3 := hb3.tr0 hs
 clear hs
 clear hr
 refine x_nil (e_S (c_seq (c_seq (c_region (wl (r_ldS U25 rfl rfl hb2.range0 sz25) ?_)))))
 refine wl_cl fn31_Wlt (validate_any A B c d l fs _ (hTab.mono hB) (hT.mono hB) (hF.mono hB)) rfl (fun e' w4 hr => ?_)
 obtain ⟨rfl, hs⟩ := hr
 replace hs := Same.of_bel hs
 replace hB := hB.tr0 hs
 replace hb2 := hb2.tr0 hs
 replace hb3 := hb3.tr0 hs
 replace hb4 := hb4.tr0 hs
 clear hs
 refine ⟨_, rfl, ?_⟩
 refine wl_al (cs := #[.int .i64 0, .int .i64 0]) ze35_GLoose rfl (fun b5 w5 hb5 hs hr => ?_)
 have or_b2_b5 : b2 < b5 := nLL hb2.lt hr
 have or_b3_b5 : b3 < b5 := nLL hb3.lt hr
 have or_b4_b5 : b4 < b5 := nLL hb4.lt hr
 have lo5 := nLT (Bel.size hB) hr
 replace hB := hB.tr0 hs
 replace hb2 := hb2.tr0 hs
 replace hb3 := hb3.tr0 hs
 replace hb4 := hb4.tr0 hs
 clear hs
 clear hr
 refine wl_stW hb5 rfl rfl sz35_GLoose rfl oneA (fun w6 hq hs => ?_)
 replace hB := hB.tr1 hs lo5
 replace hb2 := hb2.tr1 hs om
 replace hb3 := hb3.tr1 hs om
 replace hb4 := hb4.tr1 hs om
 clear hs
 replace hb5 := hq
 refine x_nil (e_S (c_seq (c_region (wl (r_fa U35 sz3_GLoose dE rfl rfl rfl) (wl (r_ld1 (v := .int _ _) U3 rfl rfl (hb5.cell rfl)) ?_)))))
 refine wl (r_neq rfl rfl) (x_nil (e_S ?_))
 refine c_ifd rfl (fun c12 => ?_) (fun c12 => ?_)
 ·
  refine c_seq (c_region (wl (r_ldS U35 rfl rfl hb5.range0 sz35_GLoose) ?_))
  refine wl_stW hb4 rfl rfl sz35_GLoose rfl oneA (fun w7 hq hs => ?_)
  replace hB := hB.tr1 hs lo4
  replace hb2 := hb2.tr1 hs om
  replace hb3 := hb3.tr1 hs om
  replace hb5 := hb5.tr1 hs om
  clear hs
  replace hb4 := hq
  refine x_nil (e_S (c_ret (e_Sr (fin1 (.inl rfl) rfl (rr_cell U35 rfl rfl hb4.range0 sz35_GLoose) ?_))))
  exact ⟨ret_fl (lt_hier c12), hB⟩
 have h0 := Decidable.not_not.1 c12
 refine c_skip (e_S (c_seq (c_seq (c_region (wl (r_ldS U25 rfl rfl hb2.range0 sz25) ?_)))))
 refine wl (r_ldS U28 rfl rfl hb3.range0 sz28) ?_
 refine wl_cl fn32 (loose_any A B G c d cg l fs gr _ (hG.mono hB)) rfl (fun e' w8 hr => ?_)
 obtain ⟨rfl, hs⟩ := hr
 replace hs := Same.of_bel hs
 replace hB := hB.tr0 hs
 replace hb2 := hb2.tr0 hs
 replace hb3 := hb3.tr0 hs
 replace hb4 := hb4.tr0 hs
 replace hb5 := hb5.tr0 hs
 clear hs
 refine ⟨_, rfl, ?_⟩
 refine wl_al (cs := #[.int .i64 0, .int .i64 0]) ze35_GLoose rfl (fun b6 w9 hb6 hs hr => ?_)
 have or_b2_b6 : b2 < b6 := nLL hb2.lt hr
 have or_b3_b6 : b3 < b6 := nLL hb3.lt hr
 have or_b4_b6 : b4 < b6 := nLL hb4.lt hr
 have or_b5_b6 : b5 < b6 := nLL hb5.lt hr
 have lo6 := nLT (Bel.size hB) hr
 replace hB := hB.tr0 hs
 replace hb2 := hb2.tr0 hs
 replace hb3 := hb3.tr0 hs
 replace hb4 := hb4.tr0 hs
 replace hb5 := hb5.tr0 hs
 clear hs
 clear hr
 refine wl_stW hb6 rfl rfl sz35_GLoose rfl oneA (fun w10 hq hs => ?_)
 replace hB := hB.tr1 hs lo6
 replace hb2 := hb2.tr1 hs om
 replace hb3 := hb3.tr1 hs om
 replace hb4 := hb4.tr1 hs om
 replace hb5 := hb5.tr1 hs om
 clear hs
 replace hb6 := hq
 refine x_nil (e_S (c_seq (c_region (wl (r_fa U35 sz3_GLoose dE rfl rfl rfl) (wl (r_ld1 (v := .int _ _) U3 rfl rfl (hb6.cell rfl)) ?_)))))
 refine wl (r_neq rfl rfl) (x_nil (e_S ?_))
 refine c_ifd rfl (fun c19 => ?_) (fun c19 => ?_)
 ·
  refine c_seq (c_region (wl (r_ldS U35 rfl rfl hb6.range0 sz35_GLoose) ?_))
  refine wl_stW hb4 rfl rfl sz35_GLoose rfl oneA (fun w11 hq hs => ?_)
  replace hB := hB.tr1 hs lo4
  replace hb2 := hb2.tr1 hs om
  replace hb3 := hb3.tr1 hs om
  replace hb5 := hb5.tr1 hs om
  replace hb6 := hb6.tr1 hs om
  clear hs
  replace hb4 := hq
  refine x_nil (e_S (c_ret (e_Sr (fin1 (.inl rfl) rfl (rr_cell U35 rfl rfl hb4.range0 sz35_GLoose) ?_))))
  exact ⟨ret_fl (lt_loose h0 c19), hB⟩
 have h1 := Decidable.not_not.1 c19
 have hk := gok_of h1
 refine c_skip (e_S (c_seq (c_seq (c_region (wl (r_ldS U28 rfl rfl hb3.range0 sz28) ?_)))))
 refine wl_cl fn33 (unr_any G cg l.length fs.length gr _ (hG.mono hB) hk) rfl (fun e' w12 hr => ?_)
 obtain ⟨rfl, hs⟩ := hr
 replace hs := Same.of_bel hs
 replace hB := hB.tr0 hs
 replace hb2 := hb2.tr0 hs
 replace hb3 := hb3.tr0 hs
 replace hb4 := hb4.tr0 hs
 replace hb5 := hb5.tr0 hs
 replace hb6 := hb6.tr0 hs
 clear hs
 refine ⟨_, rfl, ?_⟩
 refine waI rfl (x_nil (e_S (c_seq (c_region (wmI rfl ?_)))))
 refine wl (r_geq rfl rfl) (x_nil (e_S ?_))
 refine c_ifd rfl (fun c24 => ?_) (fun c24 => ?_)
 ·
  refine c_seq (c_region (wmI rfl ?_))
  refine wl_cl fn34 (wfault_any _ _ _) rfl (fun e' w13 hr => ?_)
  obtain ⟨rfl, hs⟩ := hr
  replace hs := Same.of_bel hs
  replace hB := hB.tr0 hs
  replace hb2 := hb2.tr0 hs
  replace hb3 := hb3.tr0 hs
  replace hb4 := hb4.tr0 hs
  replace hb5 := hb5.tr0 hs
  replace hb6 := hb6.tr0 hs
  clear hs
  refine ⟨_, rfl, ?_⟩
  refine wl_stW hb4 rfl rfl sz35_GLoose rfl oneA (fun w14 hq hs => ?_)
  replace hB := hB.tr1 hs lo4
  replace hb2 := hb2.tr1 hs om
  replace hb3 := hb3.tr1 hs om
  replace hb5 := hb5.tr1 hs om
  replace hb6 := hb6.tr1 hs om
  clear hs
  replace hb4 := hq
  refine x_nil (e_S (c_ret (e_Sr (fin1 (.inl rfl) rfl (rr_cell U35 rfl rfl hb4.range0 sz35_GLoose) ?_))))
  exact ⟨ret_fl (lt_unr h0 h1 c24), hB⟩
 refine c_skip (e_S (c_seq (c_region (wl (r_bd (vs := #[]) (cs := #[.int .i64 0, .int .i64 0]) (by simp) kR) ?_))))
 refine wl_stW hb4 rfl rfl sz35_GLoose rfl oneA (fun w15 hq hs => ?_)
 replace hB := hB.tr1 hs lo4
 replace hb2 := hb2.tr1 hs om
 replace hb3 := hb3.tr1 hs om
 replace hb5 := hb5.tr1 hs om
 replace hb6 := hb6.tr1 hs om
 clear hs
 replace hb4 := hq
 refine x_nil (e_S (c_ret (fin1 (.inl rfl) rfl (rr_cell U35 rfl rfl hb4.range0 sz35_GLoose) ?_)))
 exact ⟨ret_fl (lt_zero h0 h1 c24), hB⟩
set_option maxHeartbeats 1000000 in
theorem raise_any {w : World} {zl zh b8 b9 bu bd gF cF i b : Nat} {l : List Ty} {G : List Nd} {T : Nat → Nat} (hTab : TabIn w) (hTI : TableIn w l bu bd) (hS : Sound l) (hb8 : Blk w b8 54 #[.slice (some ⟨bu, 0, none⟩) l.length l.length, .slice (some ⟨bd, 0, none⟩) l.length l.length]) (hb9 : Blk w b9 28 #[.slice (some ⟨gF, 0, none⟩) G.length cF]) (hg : GrT w zl zh (some ⟨gF, 0, none⟩) cF G (fun x => ((T x : Nat) : Int))) (hil : i < G.length) (ht : T i < l.length) (hbl : b < l.length) : Calls Tryd.prog 18 #[.int .i64 (i : Nat), .int .i64 (b : Nat), .pointer (some ⟨b8, 0, none⟩), .pointer (some ⟨b9, 0, none⟩)] w fun e w' => e = .returned (.bool (meet l (T i) b).2.1) ∧ ChG (fun k => k = gF) w w' ∧ GrT w' zl zh (some ⟨gF, 0, none⟩) cF G (fun x => (((if (meet l (T i) b).2.1 = true then raiseT l T (i, b) else T) x : Nat) : Int)) := by
 have hB : Bel w w := Below.refl _ _
 obtain ⟨V, g, cur, eA, hgF1, hgF2, hbF, hsz, hc0, hc1, hrF, hcl⟩   := hg.open_ hil
 cases eA
 have ne8 : b8 ≠ gF := fun e => absurd (blk_type (e ▸ hb8) hbF) dE
 have ne9 : b9 ≠ gF := fun e => absurd (blk_type (e ▸ hb9) hbF) dE
 refine enter Tryd.func18 Tryd.ntmps18 rfl (Nat.le_of_ble_eq_true rfl) (c_seq (c_region (waB rfl (x_nil (e_S ?_)))))
 refine c_seq ?_
 refine c_monoTO 16 [11, 12, 13, 14, 15, 16, 17, 18, 19, 10, 20, 21, 22, 7, 8, 9] (fun _ => false) (fun ix v wv => match ix with | 0 => v = tabV l.length bu bd | 1 => v = .pointer (some ⟨b9, 0, none⟩) | 2 => v = .slice (some ⟨gF, 0, none⟩) G.length cF | 3 => v = .int .i64 ((i : Nat) : Int) | 4 => v = .pointer (some ⟨gF, 0 + i * 2, none⟩) | 5 => v = .pointer (some ⟨gF, 0 + i * 2 + 0, none⟩) | 6 => v = .int .i64 ((T i : Nat) : Int) | 7 => v = .int .i64 ((b : Nat) : Int) | 8 => v = .tuple #[.int .i64 ((meet l (T i) b).1 : Nat), .bool (meet l (T i) b).2.1, .bool (meet l (T i) b).2.2] | 9 => v = .tuple #[.int .i64 ((meet l (T i) b).1 : Nat), .bool (meet l (T i) b).2.1, .bool (meet l (T i) b).2.2] | 10 => v = .int .i64 ((meet l (T i) b).1 : Nat) | 11 => v = .bool (meet l (T i) b).2.1 | 12 => v = .bool (meet l (T i) b).2.2 | 13 => v = .int .i64 ((meet l (T i) b).1 : Nat) | 14 => v = .bool (meet l (T i) b).2.1 | 15 => v = .bool (meet l (T i) b).2.2 | _ => True) kR kR ?_ ?_ ?_
 ·
  intro ix v wv wv2 h hs
  match ix, h with
  | 0, h => exact h
  | 1, h => exact h
  | 2, h => exact h
  | 3, h => exact h
  | 4, h => exact h
  | 5, h => exact h
  | 6, h => exact h
  | 7, h => exact h
  | 8, h => exact h
  | 9, h => exact h
  | 10, h => exact h
  | 11, h => exact h
  | 12, h => exact h
  | 13, h => exact h
  | 14, h => exact h
  | 15, h => exact h
  | _ + 16, h => exact trivial
 ·
  intro ix o hix hoq gg wx hs hd hdis
  match ix, hix, hoq with
  | 0, _, hoq =>
   obtain rfl := sI hoq
   have hs0 := hs
   replace hb8 := hb8.tr0 hs
   clear hs
   refine os_rv (r_ldS U54 rfl rfl hb8.range0 sz54_GVal) ⟨Same.refl _ _, ?_, frsh_no⟩
   exact rfl
  | 1, _, hoq =>
   obtain rfl := sI hoq
   have hs0 := hs
   replace hb9 := hb9.tr0 hs
   clear hs
   refine os_rv (r_fa U28 sz26 dE rfl rfl rfl) ⟨Same.refl _ _, ?_, frsh_no⟩
   exact rfl
  | 2, _, hoq =>
   obtain rfl := sI hoq
   have hs0 := hs
   replace hb9 := hb9.tr0 hs
   clear hs
   have d1 : gg 12 = .pointer (some ⟨b9, 0, none⟩) := hd 1 (dep_of kR)
   have e12 := d1
   refine os_know 12 (.pointer (some ⟨b9, 0, none⟩)) e12 nu ?_
   refine os_rv (r_ld1 (v := .slice _ _ _) U26 rfl rfl (hb9.cell rfl)) ⟨Same.refl _ _, ?_, frsh_no⟩
   exact rfl
  | 3, _, hoq =>
   obtain rfl := sI hoq
   have hs0 := hs
   clear hs
   refine os_rv (r_mv (v := .int _ _) rfl) ⟨Same.refl _ _, ?_, frsh_no⟩
   exact rfl
  | 4, _, hoq =>
   obtain rfl := sI hoq
   have hs0 := hs
   clear hs
   have d2 : gg 13 = .slice (some ⟨gF, 0, none⟩) G.length cF := hd 2 (dep_of kR)
   have e13 := d2
   have d3 : gg 14 = .int .i64 ((i : Nat) : Int) := hd 3 (dep_of kR)
   have e14 := d3
   refine os_know 13 (.slice (some ⟨gF, 0, none⟩) G.length cF) e13 nu (os_know 14 (.int .i64 ((i : Nat) : Int)) e14 nu ?_)
   refine os_rv (r_ia (i := i) U26 sz33 rfl rfl hil rfl) ⟨Same.refl _ _, ?_, frsh_no⟩
   exact rfl
  | 5, _, hoq =>
   obtain rfl := sI hoq
   have hs0 := hs
   clear hs
   have d4 : gg 15 = .pointer (some ⟨gF, 0 + i * 2, none⟩) := hd 4 (dep_of kR)
   have e15 := d4
   refine os_know 15 (.pointer (some ⟨gF, 0 + i * 2, none⟩)) e15 nu ?_
   refine os_rv (r_fa U33 sz3_GLoose dE rfl rfl rfl) ⟨Same.refl _ _, ?_, frsh_no⟩
   exact rfl
  | 6, _, hoq =>
   obtain rfl := sI hoq
   have hs0 := hs
   replace hbF := hbF.tr0 hs
   clear hs
   have d5 : gg 16 = .pointer (some ⟨gF, 0 + i * 2 + 0, none⟩) := hd 5 (dep_of kR)
   have e16 := d5
   refine os_know 16 (.pointer (some ⟨gF, 0 + i * 2 + 0, none⟩)) e16 nu ?_
   refine os_rv (r_ld1 (v := .int _ _) U3 rfl rfl (hbF.cell (hc0 i hil))) ⟨Same.refl _ _, ?_, frsh_no⟩
   exact rfl
  | 7, _, hoq =>
   obtain rfl := sI hoq
   have hs0 := hs
   clear hs
   refine os_rv (r_mv (v := .int _ _) rfl) ⟨Same.refl _ _, ?_, frsh_no⟩
   exact rfl
  | 8, _, hoq =>
   obtain rfl := sI hoq
   have hs0 := hs
   replace hB := hB.tr0 hs
   clear hs
   have d0 : gg 11 = tabV l.length bu bd := hd 0 (dep_of kR)
   have e11 := d0
   have d6 : gg 17 = .int .i64 ((T i : Nat) : Int) := hd 6 (dep_of kR)
   have e17 := d6
   have d7 : gg 18 = .int .i64 ((b : Nat) : Int) := hd 7 (dep_of kR)
   have e18 := d7
   refine os_know 11 (tabV l.length bu bd) e11 (by simp [undef, tabV]) (os_know 17 (.int .i64 ((T i : Nat) : Int)) e17 nu (os_know 18 (.int .i64 ((b : Nat) : Int)) e18 nu ?_))
   refine os_cl fn19_Wlt (meet_any l bu bd (T i) b wx (hTab.mono hB) (hTI.mono hB) hS.vt hS.le ht hbl) rfl (fun e' w2 hr => ?_)
   obtain ⟨rfl, hs⟩ := hr
   exact ⟨_, rfl, Same.of_bel hs, rfl, frsh_no⟩
  | 9, _, hoq =>
   obtain rfl := sI hoq
   have hs0 := hs
   clear hs
   have d8 : gg 19 = .tuple #[.int .i64 ((meet l (T i) b).1 : Nat), .bool (meet l (T i) b).2.1, .bool (meet l (T i) b).2.2] := hd 8 (dep_of kR)
   have e19 := d8
   refine os_know 19 (.tuple #[.int .i64 ((meet l (T i) b).1 : Nat), .bool (meet l (T i) b).2.1, .bool (meet l (T i) b).2.2]) e19 nu ?_
   refine os_rv (r_mv (v := .tuple _) rfl) ⟨Same.refl _ _, ?_, frsh_no⟩
   exact rfl
  | 10, _, hoq =>
   obtain rfl := sI hoq
   have hs0 := hs
   clear hs
   have d9 : gg 10 = .tuple #[.int .i64 ((meet l (T i) b).1 : Nat), .bool (meet l (T i) b).2.1, .bool (meet l (T i) b).2.2] := hd 9 (dep_of kR)
   have e10 := d9
   refine os_know 10 (.tuple #[.int .i64 ((meet l (T i) b).1 : Nat), .bool (meet l (T i) b).2.1, .bool (meet l (T i) b).2.2]) e10 nu ?_
   refine os_rv (r_ex (v := _) rfl rfl) ⟨Same.refl _ _, ?_, frsh_no⟩
   exact rfl
  | 11, _, hoq =>
   obtain rfl := sI hoq
   have hs0 := hs
   clear hs
   have d9 : gg 10 = .tuple #[.int .i64 ((meet l (T i) b).1 : Nat), .bool (meet l (T i) b).2.1, .bool (meet l (T i) b).2.2] := hd 9 (dep_of kR)
   have e10 := d9
   refine os_know 10 (.tuple #[.int .i64 ((meet l (T i) b).1 : Nat), .bool (meet l (T i) b).2.1, .bool (meet l (T i) b).2.2]) e10 nu ?_
   refine os_rv (r_ex (v := _) rfl rfl) ⟨Same.refl _ _, ?_, frsh_no⟩
   exact rfl
  | 12, _, hoq =>
   obtain rfl := sI hoq
   have hs0 := hs
   clear hs
   have d9 : gg 10 = .tuple #[.int .i64 ((meet l (T i) b).1 : Nat), .bool (meet l (T i) b).2.1, .bool (meet l (T i) b).2.2] := hd 9 (dep_of kR)
   have e10 := d9
   refine os_know 10 (.tuple #[.int .i64 ((meet l (T i) b).1 : Nat), .bool (meet l (T i) b).2.1, .bool (meet l (T i) b).2.2]) e10 nu ?_
   refine os_rv (r_ex (v := _) rfl rfl) ⟨Same.refl _ _, ?_, frsh_no⟩
   exact rfl
  | 13, _, hoq =>
   obtain rfl := sI hoq
   have hs0 := hs
   clear hs
   have d10 : gg 20 = .int .i64 ((meet l (T i) b).1 : Nat) := hd 10 (dep_of kR)
   have e20 := d10
   refine os_know 20 (.int .i64 ((meet l (T i) b).1 : Nat)) e20 nu ?_
   refine os_rv (r_as (v := .int _ _) rfl) ⟨Same.refl _ _, ?_, frsh_no⟩
   exact rfl
  | 14, _, hoq =>
   obtain rfl := sI hoq
   have hs0 := hs
   clear hs
   have d11 : gg 21 = .bool (meet l (T i) b).2.1 := hd 11 (dep_of kR)
   have e21 := d11
   refine os_know 21 (.bool (meet l (T i) b).2.1) e21 nu ?_
   refine os_rv (r_as (v := .bool _) rfl) ⟨Same.refl _ _, ?_, frsh_no⟩
   exact rfl
  | 15, _, hoq =>
   obtain rfl := sI hoq
   have hs0 := hs
   clear hs
   have d12 : gg 22 = .bool (meet l (T i) b).2.2 := hd 12 (dep_of kR)
   have e22 := d12
   refine os_know 22 (.bool (meet l (T i) b).2.2) e22 nu ?_
   refine os_rv (r_as (v := .bool _) rfl) ⟨Same.refl _ _, ?_, frsh_no⟩
   exact rfl
  | _ + 16, hix, _ => exact absurd hix om
 intro gg w1 hs hR hdis
 have hs0 := hs
 replace hB := hB.tr0 hs
 replace hb8 := hb8.tr0 hs
 replace hb9 := hb9.tr0 hs
 replace hbF := hbF.tr0 hs
 replace hrF := fun x hx => (hrF x hx).tr hs (by simp)
 clear hs
 have d13 : gg 7 = .int .i64 ((meet l (T i) b).1 : Nat) := hR 13 dE
 have e7 := d13
 have d14 : gg 8 = .bool (meet l (T i) b).2.1 := hR 14 dE
 have e8 := d14
 have d15 : gg 9 = .bool (meet l (T i) b).2.2 := hR 15 dE
 have e9 := d15
 refine wl_know 7 (.int .i64 ((meet l (T i) b).1 : Nat)) e7 nu (wl_know 8 (.bool (meet l (T i) b).2.1) e8 nu (wl_know 9 (.bool (meet l (T i) b).2.2) e9 nu (x_nil (e_S (c_seq ?_)))))
 refine c_seq (c_region (wmB rfl (x_nil (e_S ?_))))
 refine c_if rfl (fun c23 => ?_) (fun c23 => ?_)
 ·
  have hC : ChG (fun k => k = gF) w w1 := ChG.bel hB
  refine c_region (wl (r_fa U28 sz26 dE rfl rfl rfl) (wl (r_ld1 (v := .slice _ _ _) U26 rfl rfl (hb9.cell rfl)) (wmI rfl (wmI rfl (wl (r_ia (i := i) U26 sz33 rfl rfl hil rfl) ?_)))))
  refine wl (r_fa U33 sz3_GLoose dE rfl rfl rfl) ?_
  refine wl_st1 (v := .int _ _) hbF rfl rfl sz3_GLoose (by show 0 + i * 2 + 0 < cur.size; omega) rfl rfl (fun w2 hq hs => ?_)
  replace hb8 := hb8.tr1 hs om
  replace hb9 := hb9.tr1 hs om
  replace hrF := fun x hx => (hrF x hx).tr hs (fun g hg => by rw [List.mem_singleton.1 hg]; exact .inr ⟨_, _, hbF, by decide⟩)
  replace hC := hC.st hs (fun g hg => .inl (List.mem_singleton.1 hg))
  clear hs
  replace hbF := hq
  refine x_nil (e_S (c_seq (c_region (wmB rfl (waB rfl ?_)))))
  refine x_nil (e_S (c_ret (fin1 (.inl rfl) rfl rfl ?_)))
  first
    | exact ⟨rfl, hC, (hcl _ _ hbF hrF).congr (fun y _ => by rw [if_pos c23]; unfold raiseT; by_cases e : y = i <;> simp [e])⟩
    | exact ⟨rfl, hC, by rw [if_neg (show ¬ (meet l (T i) b).2.1 = true from by rw [c23]; decide)]; exact hg.tr (Same.of_bel hB) (by simp)⟩
 have hC : ChG (fun k => k = gF) w w1 := ChG.bel hB
 refine c_skip (e_S (c_seq (c_region (wmB rfl (waB rfl ?_)))))
 refine x_nil (e_S (c_ret (fin1 (.inl rfl) rfl rfl ?_)))
 first
   | exact ⟨rfl, hC, (hcl _ _ hbF hrF).congr (fun y _ => by rw [if_pos c23]; unfold raiseT; by_cases e : y = i <;> simp [e])⟩
   | exact ⟨rfl, hC, by rw [if_neg (show ¬ (meet l (T i) b).2.1 = true from by rw [c23]; decide)]; exact hg.tr (Same.of_bel hB) (by simp)⟩
end Go.Proofs.YtfhmpbmgddaiiaaDoor
