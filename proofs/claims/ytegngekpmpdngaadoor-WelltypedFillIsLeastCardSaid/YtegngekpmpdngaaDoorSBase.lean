/- Maps between valid graphs: they compose, maps both ways are a renumbering, and a map keeps paths. No program in sight. What these functions of the program compute, at every world: glosswright/glosswrightlaw3.shared. -/
import Derived.Test.YtegngekpmpdngaaDoorHom
import Derived.Test.YtegngekpmpdngaaDoorU
import Derived.Test.YtegngekpmpdngaaDoorSFind
import Derived.Test.YtegngekpmpdngaaDoorPath
import Derived.Test.YtegngekpmpdngaaDoorGro
import Derived.Test.YtegngekpmpdngaaDoorComp
namespace Go.Proofs.YtegngekpmpdngaaDoor
open Go.RowKit
section order
variable {l : List Ty} {fs : List Ft} {a b c : List Nd}
def Srt (xs : List (Int × Int)) : Prop := xs.Pairwise (fun x y => x.1 < y.1)
theorem srt_of {nf n : Nat} {last : Int} {xs : List (Int × Int)} (h : lnFault nf n last xs = 0) : Srt xs := by
  have hs := (ln_sorted h).2
  refine List.pairwise_iff_getElem.2 (fun i j hi hj hij => hs i j hi hj hij)
theorem tgt_in {xs : List (Int × Int)} (hs : Srt xs) {x : Int × Int} (hx : x ∈ xs) : tgt xs x.1 = x.2 := by
  induction xs with
  | nil => cases hx
  | cons y ys ih =>
    obtain ⟨h1, h2⟩ := List.pairwise_cons.1 hs
    rcases List.mem_cons.1 hx with e | e
    · subst e; simp [tgt]
    · have hne : ¬ y.1 = x.1 := by have := h1 x e; omega
      have := ih h2 e
      simp only [tgt, List.find?_cons, hne, decide_false] at this ⊢
      exact this
theorem mem_tgt {xs : List (Int × Int)} {f : Int} (h : 0 ≤ tgt xs f) : (f, tgt xs f) ∈ xs := by
  induction xs with
  | nil => simp [tgt] at h
  | cons y ys ih =>
    by_cases e : y.1 = f
    · have : tgt (y :: ys) f = y.2 := by simp [tgt, e]
      rw [this]
      have : (f, y.2) = y := by rw [← e]
      rw [this]; exact List.mem_cons_self ..
    · have : tgt (y :: ys) f = tgt ys f := by simp [tgt, e]
      rw [this] at h ⊢
      exact List.mem_cons_of_mem _ (ih h)
theorem srt_ext : ∀ {xs ys : List (Int × Int)}, Srt xs → Srt ys → (∀ z, z ∈ xs ↔ z ∈ ys) → xs = ys
  | [], [], _, _, _ => rfl
  | [], y :: ys, _, _, h => by have := (h y).2 (List.mem_cons_self ..); cases this
  | x :: xs, [], _, _, h => by have := (h x).1 (List.mem_cons_self ..); cases this
  | x :: xs, y :: ys, hx, hy, h => by
    obtain ⟨h1, h2⟩ := List.pairwise_cons.1 hx
    obtain ⟨h3, h4⟩ := List.pairwise_cons.1 hy
    have e : x = y := by
      rcases List.mem_cons.1 ((h x).1 (List.mem_cons_self ..)) with e | e
      · exact e
      · rcases List.mem_cons.1 ((h y).2 (List.mem_cons_self ..)) with e2 | e2
        · exact e2.symm
        · have := h1 y e2; have := h3 x e; omega
    subst e
    refine congrArg _ (srt_ext h2 h4 (fun z => ⟨fun hz => ?_, fun hz => ?_⟩))
    · rcases List.mem_cons.1 ((h z).1 (List.mem_cons_of_mem _ hz)) with e | e
      · have := h1 z hz; rw [e] at this; omega
      · exact e
    · rcases List.mem_cons.1 ((h z).2 (List.mem_cons_of_mem _ hz)) with e | e
      · have := h3 z hz; rw [e] at this; omega
      · exact e
theorem nodup_le : ∀ {xs ys : List Nat}, xs.Nodup → (∀ x ∈ xs, x ∈ ys) → xs.length ≤ ys.length
  | [], _, _, _ => Nat.zero_le _
  | x :: xs, ys, hn, h => by
    obtain ⟨h1, h2⟩ := List.nodup_cons.1 hn
    have hx := h x (List.mem_cons_self ..)
    have hl := List.length_erase_of_mem hx
    have hp := List.length_pos_of_mem hx
    have := nodup_le (xs := xs) (ys := ys.erase x) h2 (fun y hy => (List.mem_erase_of_ne (fun e : y = x => h1 (by rw [← e]; exact hy))).2 (h y (List.mem_cons_of_mem _ hy)))
    rw [List.length_cons]; omega
structure GY (l : List Ty) (a : List Nd) : Prop where
  vt : VT l
  pos : 0 < a.length
  tr : ∀ i, i < a.length → 0 ≤ (nd a i).ty ∧ (nd a i).ty < l.length
  srt : ∀ i, i < a.length → Srt (nd a i).ln
  lr : ∀ i, i < a.length → ∀ x ∈ (nd a i).ln, 0 ≤ x.2 ∧ x.2.toNat < a.length
structure GX (l : List Ty) (a : List Nd) : Prop extends GY l a where
  rch : ∀ i, i < a.length → Rch a i
theorem GV.gx (h : GV l fs a) : GX l a :=
  ⟨⟨h.s.vt, h.gok.pos, fun i hi => by rw [nd_eq hi]; exact h.gok.ty i hi, fun i hi => by rw [nd_eq hi]; exact srt_of (loose_ln h.lo i hi), fun i hi x hx => by
    rw [nd_eq hi] at hx
    have := h.gok.ln i hi x hx
    omega⟩, h.rch⟩
theorem lnFault_mk {nf n : Nat} : ∀ {xs : List (Int × Int)} {last : Int}, Srt xs → (∀ x ∈ xs, last < x.1 ∧ 0 ≤ x.1 ∧ x.1 < nf ∧ 0 ≤ x.2 ∧ x.2 < n) → lnFault nf n last xs = 0
  | [], _, _, _ => rfl
  | x :: xs, last, hs, h => by
    obtain ⟨h1, h2⟩ := List.pairwise_cons.1 hs
    have h3 := h x (List.mem_cons_self ..)
    have h4 : ¬ lnBad nf n x := by unfold lnBad; omega
    unfold lnFault
    rw [if_neg h4, if_neg (show ¬ x.1 ≤ last by omega)]
    exact lnFault_mk h2 (fun y hy => by
      have := h y (List.mem_cons_of_mem _ hy)
      have := h1 y hy
      omega)
theorem gf_mk (h : (hierFault l fs).1 = 0) (hx : GX l a) (hle : a.length ≤ 60) (hf : ∀ i, i < a.length → ∀ x ∈ (nd a i).ln, 0 ≤ x.1 ∧ x.1 < fs.length)
    (ht : ∀ i, i < a.length → ∀ x ∈ (nd a i).ln, sub l (nd a i).ty.toNat (ftAt fs x.1).of.toNat = true ∧ sub l (nd a x.2.toNat).ty.toNat (ftAt fs x.1).val.toNat = true) : graphF l fs a = (0, 0) := by
  have hl : looseF l.length fs.length a = (0, 0) := by
    unfold looseF
    have := hx.pos
    rw [if_neg om]
    refine firstF_all (fun k _ hk => ?_)
    have hk' : k < a.length := by omega
    have hty := hx.tr k hk'
    rw [nd_eq hk'] at hty
    rw [looseN_ln hk' om, List.drop_zero]
    refine lnFault_mk (by rw [← nd_eq hk']; exact hx.srt k hk') (fun x hxm => ?_)
    rw [← nd_eq hk'] at hxm
    have h1 := hx.lr k hk' x hxm
    have h2 := hf k hk' x hxm
    omega
  have ht2 : tyF l fs a = (0, 0) := by
    refine firstF_all (fun k _ hk => ?_)
    have hk' : k < a.length := by omega
    refine tyN_no hk' (fun j hj => ?_)
    have hm : (a[k]).ln[j] ∈ (nd a k).ln := by rw [nd_eq hk']; exact List.getElem_mem hj
    obtain ⟨h1, h2⟩ := ht k hk' _ hm
    rw [nd_eq hk'] at h1
    unfold lnTy
    rw [h1, show (ndAt a (a[k]).ln[j].2).ty.toNat = (nd a ((a[k]).ln[j]).2.toNat).ty.toNat from rfl, h2]
    rfl
  have hu : (-1 : Int) = unrI a := unr_is (.inl ⟨rfl, hx.rch⟩)
  rw [gf_in h, wi_zero (by rw [hl]) ht2 om]
theorem GV.lt (h : GV l fs a) {i : Nat} (hi : i < a.length) {x : Int × Int} (hx : x ∈ (nd a i).ln) : 0 ≤ x.1 ∧ x.1 < fs.length ∧ sub l (nd a i).ty.toNat (ftAt fs x.1).of.toNat = true ∧ sub l (nd a x.2.toNat).ty.toNat (ftAt fs x.1).val.toNat = true := by
  rw [nd_eq hi] at hx
  have h1 := h.gok.ln i hi x hx
  have h0 : tyN l fs a i = 0 := firstF_zero (by rw [show firstF (tyN l fs a) 0 a.length = tyF l fs a from rfl, h.t]) _ (Nat.zero_le _) om
  have h2 : lnTy l fs a (a[i]).ty x = false := by
    simp only [tyN, List.getElem?_eq_getElem hi] at h0
    cases hb : lnTy l fs a (a[i]).ty x with
    | false => rfl
    | true => rw [if_pos (List.any_eq_true.2 ⟨x, hx, hb⟩)] at h0; cases h0
  unfold lnTy at h2
  rw [show (ndAt a x.2).ty.toNat = (nd a x.2.toNat).ty.toNat from rfl, Bool.or_eq_false_iff] at h2
  rw [nd_eq hi]
  simp only [Bool.not_eq_false'] at h2
  exact ⟨h1.1, h1.2.1, h2.1, h2.2⟩
theorem GY.rng (h : GY l a) : ∀ i, i < a.length → ∀ t ∈ succN a i, t < a.length := fun i hi t ht => by
  simp only [succN, List.mem_map] at ht
  obtain ⟨x, hx, rfl⟩ := ht
  exact (h.lr i hi x hx).2
theorem GY.trr (h : GY l a) {r : Nat} {o : List Nat} (hrl : r < a.length) (hd : DL a [r] [] o) : TrR a r o := by
  have hr := h.rng
  obtain ⟨hok, _, _⟩ := hd.ok hr (fun i hi => by rw [List.mem_singleton.1 hi]; exact hrl) (OOk.nil _)
  have h0 := hd.has r (by simp)
  refine ⟨hd, hok, hd.nodup List.nodup_nil, h0, ?_, fun x hx => hd.clo x hx (by simp)⟩
  cases hd with
  | old h' t => cases h'
  | new h' s t =>
    cases t
    obtain ⟨_, s1, e1⟩ := s.ok hr (hr r hrl) ((OOk.nil _).snoc hrl (by simp))
    rw [e1]; simp
theorem Hom.refl (h : GX l a) : Hom l a a (fun i => i) :=
  ⟨rfl, fun _ hi => hi, fun _ _ => sub_refl h.vt _, fun i hi x hx => by
    have := h.lr i hi x hx
    rw [tgt_in (h.srt i hi) hx]; omega⟩
theorem Hom.comp {φ ψ : Nat → Nat} (hl : VT l) (hφ : Hom l a b φ) (hψ : Hom l b c ψ) : Hom l a c (fun i => ψ (φ i)) :=
  ⟨by show ψ (φ 0) = 0; rw [hφ.zero, hψ.zero], fun i hi => hψ.lt _ (hφ.lt i hi), fun i hi => sub_tr hl (hψ.ty _ (hφ.lt i hi)) (hφ.ty i hi), fun i hi x hx => by
    have h1 := hφ.ln i hi x hx
    have hm := mem_tgt (xs := (nd b (φ i)).ln) (f := x.1) om
    rw [h1] at hm
    have := hψ.ln _ (hφ.lt i hi) _ hm
    rw [Int.toNat_natCast] at this
    exact this⟩
theorem Maps.comp (hl : VT l) (h : Maps l a b) (k : Maps l b c) : Maps l a c := by
  obtain ⟨φ, hφ⟩ := h
  obtain ⟨ψ, hψ⟩ := k
  exact ⟨_, hφ.comp hl hψ⟩
theorem turn_hom {φ ψ : Nat → Nat} (ha : GX l a) (hb : GX l b) (hφ : Hom l a b φ) (hψ : Hom l b a ψ) : Turn a b φ ψ := by
  have hvt := ha.vt
  have h1 : ∀ i, i < a.length → ψ (φ i) = i := fun i hi => (hφ.comp hvt hψ).uniq (Hom.refl ha) (ha.rch i hi)
  have h2 : ∀ i, i < b.length → φ (ψ i) = i := fun i hi => (hψ.comp hvt hφ).uniq (Hom.refl hb) (hb.rch i hi)
  have hlen : b.length = a.length := by
    have n1 : ((List.range a.length).map φ).Nodup := by
      refine List.nodup_iff_pairwise_ne.2 (List.pairwise_map.2 ?_)
      refine List.Pairwise.imp_of_mem (fun {x y} hx hy hne e => hne ?_) List.nodup_range
      rw [← h1 x (List.mem_range.1 hx), ← h1 y (List.mem_range.1 hy), e]
    have n2 : ((List.range b.length).map ψ).Nodup := by
      refine List.nodup_iff_pairwise_ne.2 (List.pairwise_map.2 ?_)
      refine List.Pairwise.imp_of_mem (fun {x y} hx hy hne e => hne ?_) List.nodup_range
      rw [← h2 x (List.mem_range.1 hx), ← h2 y (List.mem_range.1 hy), e]
    have l1 := (nodup_le n1 (ys := List.range b.length) (fun z hz => by
      obtain ⟨x, hx, rfl⟩ := List.mem_map.1 hz
      exact List.mem_range.2 (hφ.lt x (List.mem_range.1 hx))))
    have l2 := (nodup_le n2 (ys := List.range a.length) (fun z hz => by
      obtain ⟨x, hx, rfl⟩ := List.mem_map.1 hz
      exact List.mem_range.2 (hψ.lt x (List.mem_range.1 hx))))
    simp at l1 l2
    omega
  refine ⟨hlen, hφ.zero, fun i hi => by rw [← hlen]; exact hφ.lt i hi, fun j hj => ?_, h1, fun i hi => ?_⟩
  · rw [← hlen] at hj
    exact ⟨hψ.lt j hj, h2 j hj⟩
  · have hbi := hφ.lt i hi
    have t1 := hφ.ty i hi
    have t2 := hψ.ty _ hbi
    rw [h1 i hi] at t2
    have r1 := ha.tr i hi
    have r2 := hb.tr _ hbi
    have e := sub_anti hvt t1 t2
    refine nd_ext (by show (nd b (φ i)).ty = (nd a i).ty; omega) ?_
    show (nd b (φ i)).ln = (nd a i).ln.map (fun y => (y.1, ((φ y.2.toNat : Nat) : Int)))
    refine srt_ext (hb.srt _ hbi) ?_ (fun z => ⟨fun hz => ?_, fun hz => ?_⟩)
    · exact List.pairwise_map.2 (ha.srt _ hi)
    · have g1 := hψ.ln _ hbi z hz
      rw [h1 i hi] at g1
      have g2 := hb.lr _ hbi z hz
      have hm := mem_tgt (xs := (nd a i).ln) (f := z.1) om
      rw [g1] at hm
      refine List.mem_map.2 ⟨_, hm, ?_⟩
      have e2 := h2 _ g2.2
      show (z.1, ((φ ((ψ z.2.toNat : Nat) : Int).toNat : Nat) : Int)) = z
      rw [Int.toNat_natCast, e2, Int.toNat_of_nonneg g2.1]
    · obtain ⟨y, hy, rfl⟩ := List.mem_map.1 hz
      have g1 := hφ.ln i hi y hy
      have hm := mem_tgt (xs := (nd b (φ i)).ln) (f := y.1) om
      rw [g1] at hm
      exact hm
theorem can_eq (ha : GX l a) (hb : GX l b) (h : Maps l a b) (k : Maps l b a) {oa ob : List Nat} (ta : DL a [0] [] oa) (tb : DL b [0] [] ob) : canG b ob = canG a oa := by
  obtain ⟨φ, hφ⟩ := h
  obtain ⟨ψ, hψ⟩ := k
  have t := turn_hom ha hb hφ hψ
  have ho := (ha.trr ha.pos ta).ok.lt
  have hd2 := t.dl ha.rng ta (fun i hi => by rw [List.mem_singleton.1 hi]; exact ha.pos) ho
  simp only [List.map_cons, List.map_nil, t.z] at hd2
  rw [← hd2.det tb]
  exact t.can ha.rng ho
theorem hom_can {r : Nat} {o : List Nat} (t : TrR a r o) {x : Nat} (hx : x ∈ o) : nd (canG a o) (o.idxOf x) = trN (o.idxOf ·) (nd a x) := by
  rw [canG_nd hx]
  refine nd_ext rfl ?_
  simp only [canN, trN]
  refine List.map_congr_left (fun y hy => ?_)
  simp only [canL, numO_in (t.mem hx hy)]
theorem dl_ex {g : List Nd} (hr : ∀ i, i < g.length → ∀ t ∈ succN g i, t < g.length) : ∀ (n : Nat) (is o : List Nat), lackN g.length (memB o) ≤ n → (∀ i ∈ is, i < g.length) → ∃ o', DL g is o o'
  | n, [], o, _, _ => ⟨o, .nil⟩
  | n, i :: is, o, hn, hi => by
    have hil := hi i (List.mem_cons_self ..)
    have his : ∀ j ∈ is, j < g.length := fun j hj => hi j (List.mem_cons_of_mem _ hj)
    by_cases h : i ∈ o
    · obtain ⟨o', h1⟩ := dl_ex hr n is o hn his
      exact ⟨o', .old h h1⟩
    · have hl := lack_snoc hil h
      cases n with
      | zero => omega
      | succ n =>
        obtain ⟨o1, h1⟩ := dl_ex hr n (succN g i) (o ++ [i]) om (hr i hil)
        have hm : lackN g.length (memB o1) ≤ lackN g.length (memB (o ++ [i])) := by
          unfold lackN
          refine List.countP_mono_left (fun x _ hx => ?_)
          simp only [memB, Bool.not_eq_true', decide_eq_false_iff_not] at hx ⊢
          exact fun k => hx (h1.sub x k)
        obtain ⟨o', h2⟩ := dl_ex hr n is o1 om his
        exact ⟨o', .new h h1 h2⟩
theorem GY.dl (h : GY l a) {r : Nat} (hr : r < a.length) : ∃ o, DL a [r] [] o := dl_ex h.rng _ [r] [] (Nat.le_refl _) (fun i hi => by rw [List.mem_singleton.1 hi]; exact hr)
theorem TrR.at_ {r : Nat} {o : List Nat} (t : TrR a r o) {j : Nat} (hj : j < (canG a o).length) : ∃ x, x ∈ o ∧ o.idxOf x = j ∧ o.getD j 0 = x ∧ nd (canG a o) j = trN (o.idxOf ·) (nd a x) := by
  rw [canG_len] at hj
  have hjo := List.getElem_mem hj
  have h1 := hom_can t hjo
  rw [idx_get t.nodup hj] at h1
  exact ⟨o[j], hjo, idx_get t.nodup hj, by simp [List.getD, hj], h1⟩
theorem TrR.gx {r : Nat} {o : List Nat} (t : TrR a r o) (ha : GY l a) : GX l (canG a o) := by
  have hlen := canG_len a o
  have hrg : ∀ i, i < (canG a o).length → ∀ x ∈ (nd (canG a o) i).ln, 0 ≤ x.2 ∧ x.2.toNat < (canG a o).length := fun j hj x hx => by
    obtain ⟨y, hy, _, _, e⟩ := t.at_ hj
    rw [e] at hx
    obtain ⟨z, hz, rfl⟩ := List.mem_map.1 hx
    have := (get_idx (t.mem hy hz)).1
    simp only [hlen]
    omega
  refine ⟨⟨ha.vt, by rw [hlen]; exact List.length_pos_of_mem t.has, fun j hj => ?_, fun j hj => ?_, hrg⟩, fun j hj => ?_⟩
  · obtain ⟨y, hy, _, _, e⟩ := t.at_ hj
    rw [e]; exact ha.tr _ (t.lt hy)
  · obtain ⟨y, hy, _, _, e⟩ := t.at_ hj
    rw [e]; exact List.pairwise_map.2 (ha.srt _ (t.lt hy))
  · have hd := t.dl2 t.has t.dl
    rw [t.zero, map_idx t.nodup] at hd
    have hR := hd.rch (fun i hi y hy => by
      simp only [succN, List.mem_map] at hy
      obtain ⟨x, hx, rfl⟩ := hy
      exact (hrg i hi x hx).2) (fun i hi => by rw [List.mem_singleton.1 hi, hlen]; exact List.length_pos_of_mem t.has) (fun i hi => by rw [List.mem_singleton.1 hi]; exact .zero) (fun x hx => by cases hx)
    exact hR j (List.mem_range.2 (by rw [← hlen]; exact hj))
theorem maps_can {o : List Nat} (ha : GX l a) (t : TrR a 0 o) : Maps l a (canG a o) ∧ Maps l (canG a o) a := by
  have hall : ∀ i, i < a.length → i ∈ o := fun i hi => by
    have := ha.rch i hi
    induction this with
    | zero => exact t.has
    | step hr hi2 hx2 ih =>
      rename_i j y
      exact t.mem (ih hi2) (by rw [nd_eq hi2]; exact hx2)
  have hcl := canG_len a o
  have hgc := t.gx ha.toGY
  refine ⟨⟨(o.idxOf ·), t.zero, fun i hi => ?_, fun i hi => ?_, fun i hi x hx => ?_⟩, ⟨fun j => o.getD j 0, ?_, fun j hj => ?_, fun j hj => ?_, fun j hj x hx => ?_⟩⟩
  · rw [hcl]; exact (get_idx (hall i hi)).1
  · show sub l (nd (canG a o) (o.idxOf i)).ty.toNat _ = true
    rw [hom_can t (hall i hi)]; exact sub_refl ha.vt _
  · show tgt (nd (canG a o) (o.idxOf i)).ln x.1 = ((o.idxOf x.2.toNat : Nat) : Int)
    have hm := get_idx (hall i hi)
    have hs := hgc.srt (o.idxOf i) (by rw [hcl]; exact hm.1)
    rw [hom_can t (hall i hi)] at hs ⊢
    exact tgt_in hs (x := (x.1, ((o.idxOf x.2.toNat : Nat) : Int))) (List.mem_map.2 ⟨x, hx, rfl⟩)
  · have h0 := get_idx t.has
    rw [← h0.2]
    have := idx_get t.nodup h0.1
    simp only [t.zero]
    have hp : 0 < o.length := by have := h0.1; omega
    have e : o[0]'hp = 0 := by
      have := h0.2
      simp only [t.zero] at this
      exact this
    simp [List.getD, hp, e]
  · rw [hcl] at hj
    have e : o.getD j 0 = o[j] := by simp [List.getD, hj]
    show o.getD j 0 < a.length
    rw [e]; exact t.lt (List.getElem_mem hj)
  · rw [hcl] at hj
    have e : o.getD j 0 = o[j] := by simp [List.getD, hj]
    have h1 := hom_can t (List.getElem_mem hj)
    rw [idx_get t.nodup hj] at h1
    show sub l (nd a (o.getD j 0)).ty.toNat _ = true
    rw [e, h1]; exact sub_refl ha.vt _
  · rw [hcl] at hj
    have e : o.getD j 0 = o[j] := by simp [List.getD, hj]
    have hjo := List.getElem_mem hj
    have h1 := hom_can t hjo
    rw [idx_get t.nodup hj] at h1
    rw [h1] at hx
    obtain ⟨y, hy, rfl⟩ := List.mem_map.1 hx
    have hal := t.lt hjo
    have hyl := ha.lr _ hal y hy
    have hyo := get_idx (t.mem hjo hy)
    show tgt (nd a (o.getD j 0)).ln y.1 = ((o.getD ((o.idxOf y.2.toNat : Nat) : Int).toNat 0 : Nat) : Int)
    rw [e, tgt_in (ha.srt _ hal) hy, Int.toNat_natCast]
    have e2 : o.getD (o.idxOf y.2.toNat) 0 = y.2.toNat := by
      have := hyo.2
      simp [List.getD, hyo.1, this]
    rw [e2]; omega
theorem Hom.part {φ : Nat → Nat} (h : Hom l a b φ) (hb : GX l b) {i : Nat} {oa ob : List Nat} (ta : TrR a i oa) (tb : TrR b (φ i) ob) : Maps l (canG a oa) (canG b ob) := by
  have hmem : ∀ x, x ∈ oa → φ x ∈ ob := by
    have hR : ∀ x, x ∈ oa → x ∈ oa ∧ φ x ∈ ob := by
      have hw := DL.within (o := oa.filter (fun x => decide (φ x ∈ ob))) (g := a) (fun x hx t ht => by
        simp only [List.mem_filter, decide_eq_true_eq] at hx ⊢
        refine ⟨ta.clo x hx.1 t ht, ?_⟩
        simp only [succN, List.mem_map] at ht
        obtain ⟨y, hy, rfl⟩ := ht
        have h2 := h.ln x (ta.lt hx.1) y hy
        have hm := mem_tgt (xs := (nd b (φ x)).ln) (f := y.1) om
        rw [h2] at hm
        have := tb.mem hx.2 hm
        rwa [Int.toNat_natCast] at this) ta.dl (fun z hz => by
          rw [List.mem_singleton.1 hz]
          simp only [List.mem_filter, decide_eq_true_eq]
          exact ⟨ta.has, tb.has⟩) (fun x hx => by cases hx)
      intro x hx
      have := hw x hx
      simp only [List.mem_filter, decide_eq_true_eq] at this
      exact this
    exact fun x hx => (hR x hx).2
  have hgb := tb.gx hb.toGY
  have la := canG_len a oa
  have lb := canG_len b ob
  have hz : oa.getD 0 0 = i := by
    have h0 := get_idx ta.has
    have hp : 0 < oa.length := by have := h0.1; omega
    have := h0.2
    simp only [ta.zero] at this
    simp [List.getD, hp, this]
  have hat : ∀ j, j < (canG a oa).length → oa.getD j 0 ∈ oa ∧ nd (canG a oa) j = trN (oa.idxOf ·) (nd a (oa.getD j 0)) := fun j hj => by
    rw [la] at hj
    have e : oa.getD j 0 = oa[j] := by simp [List.getD, hj]
    have hjo := List.getElem_mem hj
    have h1 := hom_can ta hjo
    rw [idx_get ta.nodup hj] at h1
    rw [e]; exact ⟨hjo, h1⟩
  refine ⟨fun j => ob.idxOf (φ (oa.getD j 0)), ?_, fun j hj => ?_, fun j hj => ?_, fun j hj x hx => ?_⟩
  · show ob.idxOf (φ (oa.getD 0 0)) = 0
    rw [hz]; exact tb.zero
  · rw [lb]; exact (get_idx (hmem _ (hat j hj).1)).1
  · obtain ⟨h1, h2⟩ := hat j hj
    show sub l (nd (canG b ob) (ob.idxOf (φ (oa.getD j 0)))).ty.toNat _ = true
    rw [h2, hom_can tb (hmem _ h1)]
    exact h.ty _ (ta.lt h1)
  · obtain ⟨h1, h2⟩ := hat j hj
    rw [h2] at hx
    obtain ⟨y, hy, rfl⟩ := List.mem_map.1 hx
    have hb1 := get_idx (hmem _ h1)
    have hs := hgb.srt (ob.idxOf (φ (oa.getD j 0))) (by rw [lb]; exact hb1.1)
    have h3 := h.ln _ (ta.lt h1) y hy
    have hm := mem_tgt (xs := (nd b (φ (oa.getD j 0))).ln) (f := y.1) om
    rw [h3] at hm
    show tgt (nd (canG b ob) (ob.idxOf (φ (oa.getD j 0)))).ln y.1 = ((ob.idxOf (φ (oa.getD ((oa.idxOf y.2.toNat : Nat) : Int).toNat 0)) : Nat) : Int)
    have hyo := get_idx (ta.mem h1 hy)
    have e2 : oa.getD (oa.idxOf y.2.toNat) 0 = y.2.toNat := by
      have := hyo.2
      simp [List.getD, hyo.1, this]
    rw [Int.toNat_natCast, e2]
    rw [hom_can tb (hmem _ h1)] at hs ⊢
    have hm2 : ((y.1, ((ob.idxOf (φ y.2.toNat) : Nat) : Int)) : Int × Int) ∈ (trN (ob.idxOf ·) (nd b (φ (oa.getD j 0)))).ln := List.mem_map.2 ⟨_, hm, by rw [Int.toNat_natCast]⟩
    exact tgt_in hs hm2
end order
end Go.Proofs.YtegngekpmpdngaaDoor
namespace Go.Proofs.YtegngekpmpdngaaDoor
open Go.RowKit
def sharedG : List Nd := [⟨1, [(0, 1), (1, 1)]⟩, ⟨2, []⟩]
theorem shared_ok : (graphF pairT pairF sharedG).1 = 0 := by
  have h0 : Rch sharedG 0 := .zero
  have hu : (-1 : Int) = unrI sharedG := unr_is (.inl ⟨rfl, fun i hi => by
    have hi3 : i < 2 := hi
    match i, hi3 with
    | 0, _ => exact h0
    | 1, _ => exact Rch.step (x := (0, 1)) h0 dE dE⟩)
  rw [gf_in (by rw [pair_fault]), wi_zero (by decide +kernel) (by decide +kernel) om]
theorem two_mk {l : List Ty} {fs : List Ft} {ga gb : List Nd} (h1 : (graphF l fs ga).1 = 0) (h2 : (graphF l fs gb).1 = 0) : (twoG l fs ga gb).1 = 0 := by
  have hg := gv_of h1
  unfold twoG
  rw [if_neg (fun k => k h1)]
  rw [gf_in hg.h] at h2
  exact h2
theorem subB_iff {l : List Ty} {fs : List Ft} {ga gb : List Nd} (h1 : (graphF l fs ga).1 = 0) (h2 : (graphF l fs gb).1 = 0) : subB l fs ga gb = true ↔ Maps l ga gb := by
  rw [subB_yes (two_mk h1 h2), decide_eq_true_iff]
theorem nodesb_any (A B : Option Addr) (n m c d : Nat) (ga gb : List Nd) (b : Bool) (w : World) (hA : NodesIn w A ga) (hBn : NodesIn w B gb) (ha : ga.length = n) (hb : gb.length = m) (he : decide (ga = gb) = b) : Calls Tryd.prog 24 #[.agg #[.slice A n c], .agg #[.slice B m d]] w fun e w' => e = .returned (.bool b) ∧ Bel w w' := by
  subst ha hb
  have h := nodes_any A B c d ga gb w hA hBn
  rw [he] at h
  exact h
theorem shared_any (w : World) : Calls Tryd.prog 30 #[] w fun e w' => (∃ A, e = .returned (.agg #[.slice A 2 2]) ∧ NodesIn w' A sharedG) ∧ Bel w w' := by
 refine enter Tryd.func30 Tryd.ntmps30 rfl (Nat.le_of_ble_eq_true rfl) ?_
 have hB : Bel w w := Below.refl _ _
 refine c_seq (c_region ?_)
 refine wl_al (cs := #[.slice none 0 0]) ze28 rfl (fun b0 w1 hb0 hs hr => ?_)
 have lo0 := nLT (Bel.size hB) hr
 replace hB := hB.tr0 hs
 clear hs
 clear hr
 refine x_nil (e_S (c_seq (c_region (wl (r_bd2 (v0 := .int _ _) (v1 := .int _ _) (fun v0 v1 => #[v0, v1]) rfl rfl kR) (wl (r_bd2 (v0 := .int _ _) (v1 := .int _ _) (fun v0 v1 => #[v0, v1]) rfl rfl kR) ?_)))))
 refine wl_bs (cs := #[_, _, _, _]) [(0, .agg _), (1, .agg _)] rfl U31 sz30_GSearch ze30 dE dE kR rfl (fun b3 w2 hb3 hs hr => ?_)
 have or_b0_b3 : b0 < b3 := nLL hb0.lt hr
 have lo3 := nLT (Bel.size hB) hr
 replace hB := hB.tr0 hs
 replace hb0 := hb0.tr0 hs
 clear hs
 clear hr
 refine wl (r_bd2 (v0 := .int _ _) (v1 := .slice _ _ _) (fun v0 v1 => #[v0, v1]) rfl rfl kR) (wl (r_bd1 (v0 := .int _ _) (fun v0 => #[v0, .slice none 0 0]) rfl kR) ?_)
 refine wl_bs (cs := #[_, _, _, _]) [(0, .agg _), (1, .agg _)] rfl U26 sz33 ze33 dE dE kR rfl (fun b6 w3 hb6 hs hr => ?_)
 have or_b0_b6 : b0 < b6 := nLL hb0.lt hr
 have or_b3_b6 : b3 < b6 := nLL hb3.lt hr
 have lo6 := nLT (Bel.size hB) hr
 replace hB := hB.tr0 hs
 replace hb0 := hb0.tr0 hs
 replace hb3 := hb3.tr0 hs
 clear hs
 clear hr
 refine wl (r_bd1 (v0 := .slice _ _ _) (fun v0 => #[v0]) rfl kR) ?_
 refine wl_stW hb0 rfl rfl sz28_GTgt rfl oneA (fun w4 hq hs => ?_)
 replace hB := hB.tr1 hs lo0
 replace hb3 := hb3.tr1 hs om
 replace hb6 := hb6.tr1 hs om
 clear hs
 replace hb0 := hq
 refine x_nil (e_S (c_ret (fin1 (.inl rfl) rfl (rr_cell U28 rfl rfl hb0.range0 sz28_GTgt) ?_)))
 exact ⟨⟨_, rfl, nodes_of_blk (l := sharedG) hb6 (.cons (links_of_blk [(0, 1), (1, 1)] hb3 rfl dE) (.cons (links_nil _ _) .nil)) dE⟩, hB⟩
end Go.Proofs.YtegngekpmpdngaaDoor
