/- Maps between valid graphs: they compose, maps both ways are a renumbering, and a map keeps paths. No program in sight. What these functions of the program compute, at every world: glosswright/glosswrightlaw3.shared. The engine's sixth part: copy, zeros appended to a slice, functions that the model has itself, a drawn region in which an operation changes what another one has made. strings.Builder and sums of strings: rules for them. No program in sight. What these functions of the program compute, at every world: (*strings.Builder).copyCheck, (*strings.Builder).copyCheck. What these functions of the program compute, at every world: (*strings.Builder).WriteString, (*strings.Builder).WriteByte. What the kit's shelf says of the library functions of this program, laid at its numbers. -/
import Derived.Test.YtegngekpmpdngaaDoorSFind
import Derived.Test.YtegngekpmpdngaaDoorU
import Derived.Test.YtegngekpmpdngaaDoorGro
import Derived.Laws.CopyRow
import Derived.Laws.Externs
import Derived.Lib.Overlaps
import Derived.Lib.Builder
import Derived.Lib.AppendStr
import Derived.Lib.UnsafeStr
import Derived.Test.YtegngekpmpdngaaDoorGVal
import Derived.Test.YtegngekpmpdngaaDoorEng2
import Derived.Shelf.Strings.Builder1
import Derived.Shelf.Strconv.Itoa3
import Derived.Test.YtegngekpmpdngaaDoorProg
namespace Go.Proofs.YtegngekpmpdngaaDoor
open Go.RowKit
section order
variable {l : List Ty} {fs : List Ft} {a b c : List Nd}
def Srt (xs : List (Int × Int)) : Prop := xs.Pairwise (fun x y => x.1 < y.1)
theorem srt_of {nf n : Nat} {last : Int} {xs : List (Int × Int)} (h : lnFault nf n last xs = 0) : Srt xs := by
  have hs := (ln_sorted h).2
  refine List.pairwise_iff_getElem.2 (fun i j hi hj hij => hs i j hi hj hij)
theorem tgt_in {xs : List (Int × Int)} (hs : Srt xs) {x : Int × Int} (hx : x ∈ xs) : tgt xs x.1 = x.2 := by
  induction xs with
  | nil => cases hx
  | cons y ys ih =>
    obtain ⟨h1, h2⟩ := List.pairwise_cons.1 hs
    rcases List.mem_cons.1 hx with e | e
    · subst e; simp [tgt]
    · have hne : ¬ y.1 = x.1 := by have := h1 x e; omega
      have := ih h2 e
      simp only [tgt, List.find?_cons, hne, decide_false] at this ⊢
      exact this
theorem mem_tgt {xs : List (Int × Int)} {f : Int} (h : 0 ≤ tgt xs f) : (f, tgt xs f) ∈ xs := by
  induction xs with
  | nil => simp [tgt] at h
  | cons y ys ih =>
    by_cases e : y.1 = f
    · have : tgt (y :: ys) f = y.2 := by simp [tgt, e]
      rw [this]
      have : (f, y.2) = y := by rw [← e]
      rw [this]; exact List.mem_cons_self ..
    · have : tgt (y :: ys) f = tgt ys f := by simp [tgt, e]
      rw [this] at h ⊢
      exact List.mem_cons_of_mem _ (ih h)
theorem srt_ext : ∀ {xs ys : List (Int × Int)}, Srt xs → Srt ys → (∀ z, z ∈ xs ↔ z ∈ ys) → xs = ys
  | [], [], _, _, _ => rfl
  | [], y :: ys, _, _, h => by have := (h y).2 (List.mem_cons_self ..); cases this
  | x :: xs, [], _, _, h => by have := (h x).1 (List.mem_cons_self ..); cases this
  | x :: xs, y :: ys, hx, hy, h => by
    obtain ⟨h1, h2⟩ := List.pairwise_cons.1 hx
    obtain ⟨h3, h4⟩ := List.pairwise_cons.1 hy
    have e : x = y := by
      rcases List.mem_cons.1 ((h x).1 (List.mem_cons_self ..)) with e | e
      · exact e
      · rcases List.mem_cons.1 ((h y).2 (List.mem_cons_self ..)) with e2 | e2
        · exact e2.symm
        · have := h1 y e2; have := h3 x e; omega
    subst e
    refine congrArg _ (srt_ext h2 h4 (fun z => ⟨fun hz => ?_, fun hz => ?_⟩))
    · rcases List.mem_cons.1 ((h z).1 (List.mem_cons_of_mem _ hz)) with e | e
      · have := h1 z hz; rw [e] at this; omega
      · exact e
    · rcases List.mem_cons.1 ((h z).2 (List.mem_cons_of_mem _ hz)) with e | e
      · have := h3 z hz; rw [e] at this; omega
      · exact e
theorem nodup_le : ∀ {xs ys : List Nat}, xs.Nodup → (∀ x ∈ xs, x ∈ ys) → xs.length ≤ ys.length
  | [], _, _, _ => Nat.zero_le _
  | x :: xs, ys, hn, h => by
    obtain ⟨h1, h2⟩ := List.nodup_cons.1 hn
    have hx := h x (List.mem_cons_self ..)
    have hl := List.length_erase_of_mem hx
    have hp := List.length_pos_of_mem hx
    have := nodup_le (xs := xs) (ys := ys.erase x) h2 (fun y hy => (List.mem_erase_of_ne (fun e : y = x => h1 (by rw [← e]; exact hy))).2 (h y (List.mem_cons_of_mem _ hy)))
    rw [List.length_cons]; omega
structure GY (l : List Ty) (a : List Nd) : Prop where
  vt : VT l
  pos : 0 < a.length
  tr : ∀ i, i < a.length → 0 ≤ (nd a i).ty ∧ (nd a i).ty < l.length
  srt : ∀ i, i < a.length → Srt (nd a i).ln
  lr : ∀ i, i < a.length → ∀ x ∈ (nd a i).ln, 0 ≤ x.2 ∧ x.2.toNat < a.length
structure GX (l : List Ty) (a : List Nd) : Prop extends GY l a where
  rch : ∀ i, i < a.length → Rch a i
theorem GV.gx (h : GV l fs a) : GX l a :=
  ⟨⟨h.s.vt, h.gok.pos, fun i hi => by rw [nd_eq hi]; exact h.gok.ty i hi, fun i hi => by rw [nd_eq hi]; exact srt_of (loose_ln h.lo i hi), fun i hi x hx => by
    rw [nd_eq hi] at hx
    have := h.gok.ln i hi x hx
    omega⟩, h.rch⟩
theorem lnFault_mk {nf n : Nat} : ∀ {xs : List (Int × Int)} {last : Int}, Srt xs → (∀ x ∈ xs, last < x.1 ∧ 0 ≤ x.1 ∧ x.1 < nf ∧ 0 ≤ x.2 ∧ x.2 < n) → lnFault nf n last xs = 0
  | [], _, _, _ => rfl
  | x :: xs, last, hs, h => by
    obtain ⟨h1, h2⟩ := List.pairwise_cons.1 hs
    have h3 := h x (List.mem_cons_self ..)
    have h4 : ¬ lnBad nf n x := by unfold lnBad; omega
    unfold lnFault
    rw [if_neg h4, if_neg (show ¬ x.1 ≤ last by omega)]
    exact lnFault_mk h2 (fun y hy => by
      have := h y (List.mem_cons_of_mem _ hy)
      have := h1 y hy
      omega)
theorem gf_mk (h : (hierFault l fs).1 = 0) (hx : GX l a) (hle : a.length ≤ 60) (hf : ∀ i, i < a.length → ∀ x ∈ (nd a i).ln, 0 ≤ x.1 ∧ x.1 < fs.length)
    (ht : ∀ i, i < a.length → ∀ x ∈ (nd a i).ln, sub l (nd a i).ty.toNat (ftAt fs x.1).of.toNat = true ∧ sub l (nd a x.2.toNat).ty.toNat (ftAt fs x.1).val.toNat = true) : graphF l fs a = (0, 0) := by
  have hl : looseF l.length fs.length a = (0, 0) := by
    unfold looseF
    have := hx.pos
    rw [if_neg om]
    refine firstF_all (fun k _ hk => ?_)
    have hk' : k < a.length := by omega
    have hty := hx.tr k hk'
    rw [nd_eq hk'] at hty
    rw [looseN_ln hk' om, List.drop_zero]
    refine lnFault_mk (by rw [← nd_eq hk']; exact hx.srt k hk') (fun x hxm => ?_)
    rw [← nd_eq hk'] at hxm
    have h1 := hx.lr k hk' x hxm
    have h2 := hf k hk' x hxm
    omega
  have ht2 : tyF l fs a = (0, 0) := by
    refine firstF_all (fun k _ hk => ?_)
    have hk' : k < a.length := by omega
    refine tyN_no hk' (fun j hj => ?_)
    have hm : (a[k]).ln[j] ∈ (nd a k).ln := by rw [nd_eq hk']; exact List.getElem_mem hj
    obtain ⟨h1, h2⟩ := ht k hk' _ hm
    rw [nd_eq hk'] at h1
    unfold lnTy
    rw [h1, show (ndAt a (a[k]).ln[j].2).ty.toNat = (nd a ((a[k]).ln[j]).2.toNat).ty.toNat from rfl, h2]
    rfl
  have hu : (-1 : Int) = unrI a := unr_is (.inl ⟨rfl, hx.rch⟩)
  rw [gf_in h, wi_zero (by rw [hl]) ht2 om]
theorem GV.lt (h : GV l fs a) {i : Nat} (hi : i < a.length) {x : Int × Int} (hx : x ∈ (nd a i).ln) : 0 ≤ x.1 ∧ x.1 < fs.length ∧ sub l (nd a i).ty.toNat (ftAt fs x.1).of.toNat = true ∧ sub l (nd a x.2.toNat).ty.toNat (ftAt fs x.1).val.toNat = true := by
  rw [nd_eq hi] at hx
  have h1 := h.gok.ln i hi x hx
  have h0 : tyN l fs a i = 0 := firstF_zero (by rw [show firstF (tyN l fs a) 0 a.length = tyF l fs a from rfl, h.t]) _ (Nat.zero_le _) om
  have h2 : lnTy l fs a (a[i]).ty x = false := by
    simp only [tyN, List.getElem?_eq_getElem hi] at h0
    cases hb : lnTy l fs a (a[i]).ty x with
    | false => rfl
    | true => rw [if_pos (List.any_eq_true.2 ⟨x, hx, hb⟩)] at h0; cases h0
  unfold lnTy at h2
  rw [show (ndAt a x.2).ty.toNat = (nd a x.2.toNat).ty.toNat from rfl, Bool.or_eq_false_iff] at h2
  rw [nd_eq hi]
  simp only [Bool.not_eq_false'] at h2
  exact ⟨h1.1, h1.2.1, h2.1, h2.2⟩
theorem GY.rng (h : GY l a) : ∀ i, i < a.length → ∀ t ∈ succN a i, t < a.length := fun i hi t ht => by
  simp only [succN, List.mem_map] at ht
  obtain ⟨x, hx, rfl⟩ := ht
  exact (h.lr i hi x hx).2
theorem GY.trr (h : GY l a) {r : Nat} {o : List Nat} (hrl : r < a.length) (hd : DL a [r] [] o) : TrR a r o := by
  have hr := h.rng
  obtain ⟨hok, _, _⟩ := hd.ok hr (fun i hi => by rw [List.mem_singleton.1 hi]; exact hrl) (OOk.nil _)
  have h0 := hd.has r (by simp)
  refine ⟨hd, hok, hd.nodup List.nodup_nil, h0, ?_, fun x hx => hd.clo x hx (by simp)⟩
  cases hd with
  | old h' t => cases h'
  | new h' s t =>
    cases t
    obtain ⟨_, s1, e1⟩ := s.ok hr (hr r hrl) ((OOk.nil _).snoc hrl (by simp))
    rw [e1]; simp
theorem Hom.refl (h : GX l a) : Hom l a a (fun i => i) :=
  ⟨rfl, fun _ hi => hi, fun _ _ => sub_refl h.vt _, fun i hi x hx => by
    have := h.lr i hi x hx
    rw [tgt_in (h.srt i hi) hx]; omega⟩
theorem Hom.comp {φ ψ : Nat → Nat} (hl : VT l) (hφ : Hom l a b φ) (hψ : Hom l b c ψ) : Hom l a c (fun i => ψ (φ i)) :=
  ⟨by show ψ (φ 0) = 0; rw [hφ.zero, hψ.zero], fun i hi => hψ.lt _ (hφ.lt i hi), fun i hi => sub_tr hl (hψ.ty _ (hφ.lt i hi)) (hφ.ty i hi), fun i hi x hx => by
    have h1 := hφ.ln i hi x hx
    have hm := mem_tgt (xs := (nd b (φ i)).ln) (f := x.1) om
    rw [h1] at hm
    have := hψ.ln _ (hφ.lt i hi) _ hm
    rw [Int.toNat_natCast] at this
    exact this⟩
theorem Maps.comp (hl : VT l) (h : Maps l a b) (k : Maps l b c) : Maps l a c := by
  obtain ⟨φ, hφ⟩ := h
  obtain ⟨ψ, hψ⟩ := k
  exact ⟨_, hφ.comp hl hψ⟩
theorem turn_hom {φ ψ : Nat → Nat} (ha : GX l a) (hb : GX l b) (hφ : Hom l a b φ) (hψ : Hom l b a ψ) : Turn a b φ ψ := by
  have hvt := ha.vt
  have h1 : ∀ i, i < a.length → ψ (φ i) = i := fun i hi => (hφ.comp hvt hψ).uniq (Hom.refl ha) (ha.rch i hi)
  have h2 : ∀ i, i < b.length → φ (ψ i) = i := fun i hi => (hψ.comp hvt hφ).uniq (Hom.refl hb) (hb.rch i hi)
  have hlen : b.length = a.length := by
    have n1 : ((List.range a.length).map φ).Nodup := by
      refine List.nodup_iff_pairwise_ne.2 (List.pairwise_map.2 ?_)
      refine List.Pairwise.imp_of_mem (fun {x y} hx hy hne e => hne ?_) List.nodup_range
      rw [← h1 x (List.mem_range.1 hx), ← h1 y (List.mem_range.1 hy), e]
    have n2 : ((List.range b.length).map ψ).Nodup := by
      refine List.nodup_iff_pairwise_ne.2 (List.pairwise_map.2 ?_)
      refine List.Pairwise.imp_of_mem (fun {x y} hx hy hne e => hne ?_) List.nodup_range
      rw [← h2 x (List.mem_range.1 hx), ← h2 y (List.mem_range.1 hy), e]
    have l1 := (nodup_le n1 (ys := List.range b.length) (fun z hz => by
      obtain ⟨x, hx, rfl⟩ := List.mem_map.1 hz
      exact List.mem_range.2 (hφ.lt x (List.mem_range.1 hx))))
    have l2 := (nodup_le n2 (ys := List.range a.length) (fun z hz => by
      obtain ⟨x, hx, rfl⟩ := List.mem_map.1 hz
      exact List.mem_range.2 (hψ.lt x (List.mem_range.1 hx))))
    simp at l1 l2
    omega
  refine ⟨hlen, hφ.zero, fun i hi => by rw [← hlen]; exact hφ.lt i hi, fun j hj => ?_, h1, fun i hi => ?_⟩
  · rw [← hlen] at hj
    exact ⟨hψ.lt j hj, h2 j hj⟩
  · have hbi := hφ.lt i hi
    have t1 := hφ.ty i hi
    have t2 := hψ.ty _ hbi
    rw [h1 i hi] at t2
    have r1 := ha.tr i hi
    have r2 := hb.tr _ hbi
    have e := sub_anti hvt t1 t2
    refine nd_ext (by show (nd b (φ i)).ty = (nd a i).ty; omega) ?_
    show (nd b (φ i)).ln = (nd a i).ln.map (fun y => (y.1, ((φ y.2.toNat : Nat) : Int)))
    refine srt_ext (hb.srt _ hbi) ?_ (fun z => ⟨fun hz => ?_, fun hz => ?_⟩)
    · exact List.pairwise_map.2 (ha.srt _ hi)
    · have g1 := hψ.ln _ hbi z hz
      rw [h1 i hi] at g1
      have g2 := hb.lr _ hbi z hz
      have hm := mem_tgt (xs := (nd a i).ln) (f := z.1) om
      rw [g1] at hm
      refine List.mem_map.2 ⟨_, hm, ?_⟩
      have e2 := h2 _ g2.2
      show (z.1, ((φ ((ψ z.2.toNat : Nat) : Int).toNat : Nat) : Int)) = z
      rw [Int.toNat_natCast, e2, Int.toNat_of_nonneg g2.1]
    · obtain ⟨y, hy, rfl⟩ := List.mem_map.1 hz
      have g1 := hφ.ln i hi y hy
      have hm := mem_tgt (xs := (nd b (φ i)).ln) (f := y.1) om
      rw [g1] at hm
      exact hm
theorem can_eq (ha : GX l a) (hb : GX l b) (h : Maps l a b) (k : Maps l b a) {oa ob : List Nat} (ta : DL a [0] [] oa) (tb : DL b [0] [] ob) : canG b ob = canG a oa := by
  obtain ⟨φ, hφ⟩ := h
  obtain ⟨ψ, hψ⟩ := k
  have t := turn_hom ha hb hφ hψ
  have ho := (ha.trr ha.pos ta).ok.lt
  have hd2 := t.dl ha.rng ta (fun i hi => by rw [List.mem_singleton.1 hi]; exact ha.pos) ho
  simp only [List.map_cons, List.map_nil, t.z] at hd2
  rw [← hd2.det tb]
  exact t.can ha.rng ho
theorem hom_can {r : Nat} {o : List Nat} (t : TrR a r o) {x : Nat} (hx : x ∈ o) : nd (canG a o) (o.idxOf x) = trN (o.idxOf ·) (nd a x) := by
  rw [canG_nd hx]
  refine nd_ext rfl ?_
  simp only [canN, trN]
  refine List.map_congr_left (fun y hy => ?_)
  simp only [canL, numO_in (t.mem hx hy)]
theorem dl_ex {g : List Nd} (hr : ∀ i, i < g.length → ∀ t ∈ succN g i, t < g.length) : ∀ (n : Nat) (is o : List Nat), lackN g.length (memB o) ≤ n → (∀ i ∈ is, i < g.length) → ∃ o', DL g is o o'
  | n, [], o, _, _ => ⟨o, .nil⟩
  | n, i :: is, o, hn, hi => by
    have hil := hi i (List.mem_cons_self ..)
    have his : ∀ j ∈ is, j < g.length := fun j hj => hi j (List.mem_cons_of_mem _ hj)
    by_cases h : i ∈ o
    · obtain ⟨o', h1⟩ := dl_ex hr n is o hn his
      exact ⟨o', .old h h1⟩
    · have hl := lack_snoc hil h
      cases n with
      | zero => omega
      | succ n =>
        obtain ⟨o1, h1⟩ := dl_ex hr n (succN g i) (o ++ [i]) om (hr i hil)
        have hm : lackN g.length (memB o1) ≤ lackN g.length (memB (o ++ [i])) := by
          unfold lackN
          refine List.countP_mono_left (fun x _ hx => ?_)
          simp only [memB, Bool.not_eq_true', decide_eq_false_iff_not] at hx ⊢
          exact fun k => hx (h1.sub x k)
        obtain ⟨o', h2⟩ := dl_ex hr n is o1 om his
        exact ⟨o', .new h h1 h2⟩
theorem GY.dl (h : GY l a) {r : Nat} (hr : r < a.length) : ∃ o, DL a [r] [] o := dl_ex h.rng _ [r] [] (Nat.le_refl _) (fun i hi => by rw [List.mem_singleton.1 hi]; exact hr)
theorem TrR.at_ {r : Nat} {o : List Nat} (t : TrR a r o) {j : Nat} (hj : j < (canG a o).length) : ∃ x, x ∈ o ∧ o.idxOf x = j ∧ o.getD j 0 = x ∧ nd (canG a o) j = trN (o.idxOf ·) (nd a x) := by
  rw [canG_len] at hj
  have hjo := List.getElem_mem hj
  have h1 := hom_can t hjo
  rw [idx_get t.nodup hj] at h1
  exact ⟨o[j], hjo, idx_get t.nodup hj, by simp [List.getD, hj], h1⟩
theorem TrR.gx {r : Nat} {o : List Nat} (t : TrR a r o) (ha : GY l a) : GX l (canG a o) := by
  have hlen := canG_len a o
  have hrg : ∀ i, i < (canG a o).length → ∀ x ∈ (nd (canG a o) i).ln, 0 ≤ x.2 ∧ x.2.toNat < (canG a o).length := fun j hj x hx => by
    obtain ⟨y, hy, _, _, e⟩ := t.at_ hj
    rw [e] at hx
    obtain ⟨z, hz, rfl⟩ := List.mem_map.1 hx
    have := (get_idx (t.mem hy hz)).1
    simp only [hlen]
    omega
  refine ⟨⟨ha.vt, by rw [hlen]; exact List.length_pos_of_mem t.has, fun j hj => ?_, fun j hj => ?_, hrg⟩, fun j hj => ?_⟩
  · obtain ⟨y, hy, _, _, e⟩ := t.at_ hj
    rw [e]; exact ha.tr _ (t.lt hy)
  · obtain ⟨y, hy, _, _, e⟩ := t.at_ hj
    rw [e]; exact List.pairwise_map.2 (ha.srt _ (t.lt hy))
  · have hd := t.dl2 t.has t.dl
    rw [t.zero, map_idx t.nodup] at hd
    have hR := hd.rch (fun i hi y hy => by
      simp only [succN, List.mem_map] at hy
      obtain ⟨x, hx, rfl⟩ := hy
      exact (hrg i hi x hx).2) (fun i hi => by rw [List.mem_singleton.1 hi, hlen]; exact List.length_pos_of_mem t.has) (fun i hi => by rw [List.mem_singleton.1 hi]; exact .zero) (fun x hx => by cases hx)
    exact hR j (List.mem_range.2 (by rw [← hlen]; exact hj))
theorem Hom.part {φ : Nat → Nat} (h : Hom l a b φ) (hb : GX l b) {i : Nat} {oa ob : List Nat} (ta : TrR a i oa) (tb : TrR b (φ i) ob) : Maps l (canG a oa) (canG b ob) := by
  have hmem : ∀ x, x ∈ oa → φ x ∈ ob := by
    have hR : ∀ x, x ∈ oa → x ∈ oa ∧ φ x ∈ ob := by
      have hw := DL.within (o := oa.filter (fun x => decide (φ x ∈ ob))) (g := a) (fun x hx t ht => by
        simp only [List.mem_filter, decide_eq_true_eq] at hx ⊢
        refine ⟨ta.clo x hx.1 t ht, ?_⟩
        simp only [succN, List.mem_map] at ht
        obtain ⟨y, hy, rfl⟩ := ht
        have h2 := h.ln x (ta.lt hx.1) y hy
        have hm := mem_tgt (xs := (nd b (φ x)).ln) (f := y.1) om
        rw [h2] at hm
        have := tb.mem hx.2 hm
        rwa [Int.toNat_natCast] at this) ta.dl (fun z hz => by
          rw [List.mem_singleton.1 hz]
          simp only [List.mem_filter, decide_eq_true_eq]
          exact ⟨ta.has, tb.has⟩) (fun x hx => by cases hx)
      intro x hx
      have := hw x hx
      simp only [List.mem_filter, decide_eq_true_eq] at this
      exact this
    exact fun x hx => (hR x hx).2
  have hgb := tb.gx hb.toGY
  have la := canG_len a oa
  have lb := canG_len b ob
  have hz : oa.getD 0 0 = i := by
    have h0 := get_idx ta.has
    have hp : 0 < oa.length := by have := h0.1; omega
    have := h0.2
    simp only [ta.zero] at this
    simp [List.getD, hp, this]
  have hat : ∀ j, j < (canG a oa).length → oa.getD j 0 ∈ oa ∧ nd (canG a oa) j = trN (oa.idxOf ·) (nd a (oa.getD j 0)) := fun j hj => by
    rw [la] at hj
    have e : oa.getD j 0 = oa[j] := by simp [List.getD, hj]
    have hjo := List.getElem_mem hj
    have h1 := hom_can ta hjo
    rw [idx_get ta.nodup hj] at h1
    rw [e]; exact ⟨hjo, h1⟩
  refine ⟨fun j => ob.idxOf (φ (oa.getD j 0)), ?_, fun j hj => ?_, fun j hj => ?_, fun j hj x hx => ?_⟩
  · show ob.idxOf (φ (oa.getD 0 0)) = 0
    rw [hz]; exact tb.zero
  · rw [lb]; exact (get_idx (hmem _ (hat j hj).1)).1
  · obtain ⟨h1, h2⟩ := hat j hj
    show sub l (nd (canG b ob) (ob.idxOf (φ (oa.getD j 0)))).ty.toNat _ = true
    rw [h2, hom_can tb (hmem _ h1)]
    exact h.ty _ (ta.lt h1)
  · obtain ⟨h1, h2⟩ := hat j hj
    rw [h2] at hx
    obtain ⟨y, hy, rfl⟩ := List.mem_map.1 hx
    have hb1 := get_idx (hmem _ h1)
    have hs := hgb.srt (ob.idxOf (φ (oa.getD j 0))) (by rw [lb]; exact hb1.1)
    have h3 := h.ln _ (ta.lt h1) y hy
    have hm := mem_tgt (xs := (nd b (φ (oa.getD j 0))).ln) (f := y.1) om
    rw [h3] at hm
    show tgt (nd (canG b ob) (ob.idxOf (φ (oa.getD j 0)))).ln y.1 = ((ob.idxOf (φ (oa.getD ((oa.idxOf y.2.toNat : Nat) : Int).toNat 0)) : Nat) : Int)
    have hyo := get_idx (ta.mem h1 hy)
    have e2 : oa.getD (oa.idxOf y.2.toNat) 0 = y.2.toNat := by
      have := hyo.2
      simp [List.getD, hyo.1, this]
    rw [Int.toNat_natCast, e2]
    rw [hom_can tb (hmem _ h1)] at hs ⊢
    have hm2 : ((y.1, ((ob.idxOf (φ y.2.toNat) : Nat) : Int)) : Int × Int) ∈ (trN (ob.idxOf ·) (nd b (φ (oa.getD j 0)))).ln := List.mem_map.2 ⟨_, hm, by rw [Int.toNat_natCast]⟩
    exact tgt_in hs hm2
end order
end Go.Proofs.YtegngekpmpdngaaDoor
namespace Go.Proofs.YtegngekpmpdngaaDoor
open Go.RowKit
def sharedG : List Nd := [⟨1, [(0, 1), (1, 1)]⟩, ⟨2, []⟩]
theorem shared_dl : DL sharedG [0] [] [0, 1] :=
  .new dE (.new (is := [1]) (i := 1) (o1 := [0, 1]) dE .nil (.old dE .nil)) .nil
theorem shared_ok : (graphF pairT pairF sharedG).1 = 0 := by
  have h0 : Rch sharedG 0 := .zero
  have hu : (-1 : Int) = unrI sharedG := unr_is (.inl ⟨rfl, fun i hi => by
    have hi3 : i < 2 := hi
    match i, hi3 with
    | 0, _ => exact h0
    | 1, _ => exact Rch.step (x := (0, 1)) h0 dE dE⟩)
  rw [gf_in (by rw [pair_fault]), wi_zero (by decide +kernel) (by decide +kernel) om]
theorem shared_any (w : World) : Calls Tryd.prog 30 #[] w fun e w' => (∃ A, e = .returned (.agg #[.slice A 2 2]) ∧ NodesIn w' A sharedG) ∧ Bel w w' := by
 refine enter Tryd.func30 Tryd.ntmps30 rfl (Nat.le_of_ble_eq_true rfl) ?_
 have hB : Bel w w := Below.refl _ _
 refine c_seq (c_region ?_)
 refine wl_al (cs := #[.slice none 0 0]) ze28_GTgt rfl (fun b0 w1 hb0 hs hr => ?_)
 have lo0 := nLT (Bel.size hB) hr
 replace hB := hB.tr0 hs
 clear hs
 clear hr
 refine x_nil (e_S (c_seq (c_region (wl (r_bd2 (v0 := .int _ _) (v1 := .int _ _) (fun v0 v1 => #[v0, v1]) rfl rfl kR) (wl (r_bd2 (v0 := .int _ _) (v1 := .int _ _) (fun v0 v1 => #[v0, v1]) rfl rfl kR) ?_)))))
 refine wl_bs (cs := #[_, _, _, _]) [(0, .agg _), (1, .agg _)] rfl U31 sz30_GSearch ze30_GTgt dE dE kR rfl (fun b3 w2 hb3 hs hr => ?_)
 have or_b0_b3 : b0 < b3 := nLL hb0.lt hr
 have lo3 := nLT (Bel.size hB) hr
 replace hB := hB.tr0 hs
 replace hb0 := hb0.tr0 hs
 clear hs
 clear hr
 refine wl (r_bd2 (v0 := .int _ _) (v1 := .slice _ _ _) (fun v0 v1 => #[v0, v1]) rfl rfl kR) (wl (r_bd1 (v0 := .int _ _) (fun v0 => #[v0, .slice none 0 0]) rfl kR) ?_)
 refine wl_bs (cs := #[_, _, _, _]) [(0, .agg _), (1, .agg _)] rfl U26 sz33_GTgt ze33_GTgt dE dE kR rfl (fun b6 w3 hb6 hs hr => ?_)
 have or_b0_b6 : b0 < b6 := nLL hb0.lt hr
 have or_b3_b6 : b3 < b6 := nLL hb3.lt hr
 have lo6 := nLT (Bel.size hB) hr
 replace hB := hB.tr0 hs
 replace hb0 := hb0.tr0 hs
 replace hb3 := hb3.tr0 hs
 clear hs
 clear hr
 refine wl (r_bd1 (v0 := .slice _ _ _) (fun v0 => #[v0]) rfl kR) ?_
 refine wl_stW hb0 rfl rfl sz28 rfl oneA (fun w4 hq hs => ?_)
 replace hB := hB.tr1 hs lo0
 replace hb3 := hb3.tr1 hs om
 replace hb6 := hb6.tr1 hs om
 clear hs
 replace hb0 := hq
 refine x_nil (e_S (c_ret (fin1 (.inl rfl) rfl (rr_cell U28 rfl rfl hb0.range0 sz28) ?_)))
 exact ⟨⟨_, rfl, nodes_of_blk (l := sharedG) hb6 (.cons (links_of_blk [(0, 1), (1, 1)] hb3 rfl dE) (.cons (links_nil _ _) .nil)) dE⟩, hB⟩
end Go.Proofs.YtegngekpmpdngaaDoor
namespace Go.Proofs.YtegngekpmpdngaaDoor
open Go.RowKit
section six
variable {P : Program} {Q : Exit → Act → World → Prop} {n : Nat} {f : Fr} {w : World} {ops : Array Oper} {rest : List Oper} {d : Tmp} {ty t e : TypeId} {pos : String} {af : Array Edge} {x y : Operand} {v : Value}
theorem r_ext {F : FuncId} {xs : Array Operand} {ats : Array TypeId} {args : List Value} {dst : Option Nat} {gd : Option (Nat × Bool)} (h : (callFunc F args.toArray).run P w = .ok (.value v) w) (hargs : xs.toList.map (ev n f) = args) :
    RV P n f w ⟨dst, .call { callee := .value (.func F), args := xs, argTypes := ats }, ty, pos, af, gd⟩ v w := by
  subst hargs
  have hm : (xs.toList.map (ev n f)).toArray = xs.map (ev n f) := by rw [← Array.toList_map, Array.toArray_toList]
  rw [hm] at h
  simp [RV, execOp, resolve, ev, Deferred.ofValue, invoke, h]
theorem shape_blk {b : Nat} {cs : Array Value} (h : Blk w b t cs) : w.shape? b = some (t, cs.size) := by
  unfold Blk at h; simp [World.shape?, h]
theorem Own.whole {base sz k cap : Nat} {A : Option Addr} {xs : List Value} (h : Own w base e sz A k cap xs) (hk : 0 < k) : ∃ (g : Nat) (cur : Array Value), A = some ⟨g, 0, none⟩ ∧ base ≤ g ∧ Blk w g e cur ∧ cap ≤ 9223372036854775807 ∧ cur.size = cap * sz ∧ cur.toList.take (k * sz) = xs := by
  rcases h.2 with ⟨_, h0⟩ | ⟨g, c, cur, hv, hb, hg, hkc, hm, hs, ht⟩
  · omega
  · cases hv
    exact ⟨g, cur, rfl, hb, hg, by simpa [maxLen] using hm, hs, ht⟩
end six
end Go.Proofs.YtegngekpmpdngaaDoor
namespace Go.Proofs.YtegngekpmpdngaaDoor
open Go.RowKit
def bl (s : ByteArray) : List UInt8 := s.data.toList
theorem bl_app (p q : ByteArray) : bl (p ++ q) = bl p ++ bl q := by
  unfold bl
  rw [ByteArray.data_append, Array.toList_append]
theorem bl_size (p : ByteArray) : (bl p).length = p.size := by unfold bl; rw [Array.length_toList]; rfl
theorem bl_ext {p q : ByteArray} (h : bl p = bl q) : p = q := by
  cases p; cases q
  unfold bl at h
  simp only [ByteArray.mk.injEq]
  exact Array.toList_inj.1 h
theorem bl_mk (l : List UInt8) : bl ⟨l.toArray⟩ = l := rfl
theorem str_cells (s : ByteArray) : Lib.strCells s = Lib.byteCells (bl s) := rfl
theorem cells_app (a b : List UInt8) : Lib.byteCells a ++ Lib.byteCells b = Lib.byteCells (a ++ b) := by simp [Lib.byteCells]
section rules
variable {P : Program} {Q : Exit → Act → World → Prop} {n : Nat} {f : Fr} {w w' : World} {ops : Array Oper} {rest : List Oper} {d : Nat} {ty : TypeId} {pos : String} {af : Array Edge} {x y z : Operand} {t t' e : TypeId}
theorem r_addS {dst : Option Tmp} {gd : Option (Nat × Bool)} {p q : ByteArray} (hx : ev n f x = .string p) (hy : ev n f y = .string q) (hb : p.size + q.size ≤ 9223372036854775807) :
    RV P n f w ⟨dst, .binOp .add t x y t', ty, pos, af, gd⟩ (.string (p ++ q)) w := by
  have h : ¬ ((p.size + q.size : Nat) : Int) > IntKind.i64.max := by
    have e : IntKind.i64.max = 9223372036854775807 := by decide
    rw [e]; omega
  simp only [RV, execOp, hx, hy, eqGuard, binOp, Op.stringOp, if_neg h]
  rfl
theorem r_minN {dst : Option Tmp} {gd : Option (Nat × Bool)} {ats : Array TypeId} {a b : Nat} (hx : ev n f x = .int .i64 (a : Int)) (hy : ev n f y = .int .i64 (b : Int)) :
    RV P n f w ⟨dst, .call { callee := .builtin .min, args := #[x, y], argTypes := ats }, ty, pos, af, gd⟩ (.int .i64 ((min a b : Nat) : Int)) w := by
  have e : (if b < a then (b : Int) else (a : Int)) = ((min a b : Nat) : Int) := by
    by_cases h : b < a
    · rw [if_pos h]; omega
    · rw [if_neg h]; omega
  simp [RV, execOp, resolve, invoke, builtin, hx, hy, Builtin.min_, Builtin.min2, e]
theorem add_ok {p q : ByteArray} {a b : Nat} (hp : (bl p).length ≤ a) (hq : (bl q).length ≤ b) (h : a + b ≤ 9223372036854775807) : p.size + q.size ≤ 9223372036854775807 := by
  rw [bl_size] at hp hq
  omega
theorem r_pneS {dst : Option Tmp} {gd : Option (Nat × Bool)} {te : TypeId} {a : Addr} (hu : P.underlying t = some (.pointer te)) (hz : (P.info? te).isSome = true) (hx : ev n f x = .pointer (some a)) (hy : ev n f y = .pointer (some a)) :
    RV P n f w ⟨dst, .binOp .neq t x y t', ty, pos, af, gd⟩ (.bool false) w := by
  obtain ⟨j, hj⟩ := Option.isSome_iff_exists.1 hz
  have h := Lib.run_neq_ptr_same (P := P) w a hu hj
  simp [RV, execOp, hx, hy, eqGuard, h]
theorem r_peqN {dst : Option Tmp} {gd : Option (Nat × Bool)} {te : TypeId} (hu : P.underlying t = some (.pointer te)) (hx : ev n f x = .pointer none) (hy : ev n f y = .pointer none) :
    RV P n f w ⟨dst, .binOp .eql t x y t', ty, pos, af, gd⟩ (.bool true) w := by
  have h : ∀ d : Nat, (Op.equalIn (d + 1) t (.pointer none) (.pointer none)).run P w = .ok true w := fun d => by simp [Op.equalIn, run_underlying hu]
  simp only [RV, execOp, hx, hy, eqGuard, binOp]
  simp [Op.equal, Op.maxDepth, h 9999]
theorem r_peqS {dst : Option Tmp} {gd : Option (Nat × Bool)} {te : TypeId} {a : Addr} (hu : P.underlying t = some (.pointer te)) (hx : ev n f x = .pointer (some a)) (hy : ev n f y = .pointer none) :
    RV P n f w ⟨dst, .binOp .eql t x y t', ty, pos, af, gd⟩ (.bool false) w := by
  have h : ∀ d : Nat, (Op.equalIn (d + 1) t (.pointer (some a)) (.pointer none)).run P w = .ok false w := fun d => by simp [Op.equalIn, run_underlying hu]
  simp only [RV, execOp, hx, hy, eqGuard, binOp]
  simp [Op.equal, Op.maxDepth, h 9999]
theorem r_cvUp {dst : Option Tmp} {gd : Option (Nat × Bool)} {sT te e2 : TypeId} {b sz : Nat} {cs : Array Value} (hs : P.underlying sT = some (.pointer te)) (hd : P.underlying t = some .unsafePointer) (hz : (P.info? te).map (·.size) = some sz) (h0 : sz ≠ 0) (hb : Blk w b e2 cs) (hc : 0 < cs.size) (hx : ev n f x = .pointer (some ⟨b, 0, none⟩)) :
    RV P n f w ⟨dst, .convert sT t x, ty, pos, af, gd⟩ (.pointer (some ⟨b, 0, none⟩)) w := by
  obtain ⟨j, hj, hjs⟩ := Option.map_eq_some_iff.1 hz
  have h := Lib.run_to_unsafe (P := P) w ⟨b, 0, none⟩ hs hd hj (by rw [hjs]; exact h0) (shape_blk hb) hc
  simp [RV, execOp, hx, h]
theorem r_cvDn {dst : Option Tmp} {gd : Option (Nat × Bool)} {sT u e2 : TypeId} {b : Nat} {cs : Array Value} (hs : P.underlying sT = some .unsafePointer) (hd : P.underlying t = some (.pointer u)) (hz : (P.info? u).isSome = true) (hb : Blk w b e2 cs) (hl : liesAt P P.depth e2 (cs.size / P.cellsOf e2) 0 u 1 = true) (hx : ev n f x = .pointer (some ⟨b, 0, none⟩)) :
    RV P n f w ⟨dst, .convert sT t x, ty, pos, af, gd⟩ (.pointer (some ⟨b, 0, none⟩)) w := by
  obtain ⟨j, hj⟩ := Option.isSome_iff_exists.1 hz
  have h := Lib.run_from_unsafe (P := P) w ⟨b, 0, none⟩ hs hd hj (shape_blk hb) hl
  simp [RV, execOp, hx, h]
theorem run_noEsc {F : FuncId} {fn : Func} {v : Value} (hf : P.funcs[F]? = some fn) (hname : (fn.name == "runtime.NumGoroutine") = false) (hb : fn.body.isNone = true) (hn : Extern.findNext fn = none) (he : Extern.find fn = some Extern.AbiNoEscape.same) :
    (callFunc F #[v]).run P w = .ok (.value v) w := by
  rw [run_callFunc_extern hf hname hb hn he, Lib.run_noEscape]
  rfl
theorem wl_appS {u : TypeId} {base k cap : Nat} {A : Option Addr} {xs : List Value} {s : ByteArray} (hu : P.underlying t = some (.slice e)) (hv : P.underlying u = some .string) (hi : (P.info? e).map (fun i => (i.zero, i.size, i.bytes)) = some (some (.int .u8 0), 1, 1))
    (hown : Own w base e 1 A k cap xs) (hx : ev n f x = .slice A k cap) (hy : ev n f y = .string s) (hbytes : k + s.size ≤ 140737488355328) (hbase : base ≤ w.heap.size)
    (K : ∀ A' cap' w1, Own w1 base e 1 A' (k + s.size) cap' (xs ++ Lib.strCells s) → Same (aL A) w w1 → WL P ops Q rest n (upd f d (.slice A' (k + s.size) cap')) w1) :
    WL P ops Q (⟨some d, .call { callee := .builtin .append, args := #[x, y], argTypes := #[t, u] }, ty, pos, af, none⟩ :: rest) n f w := by
  obtain ⟨i, hq, hzz⟩ := Option.map_eq_some_iff.1 hi
  simp only [Prod.mk.injEq] at hzz
  obtain ⟨v', w1, hr, ho, hg, _⟩ := Lib.run_append_own_string (P := P) (w := w) base t u ty e i hu hv hq hzz.1 hzz.2.1 hzz.2.2 (.slice A k cap) k xs hown s (by unfold maxLen; omega) hbytes hbase
  obtain ⟨A', cap', rfl⟩ : ∃ A' cap', v' = .slice A' (k + s.size) cap' := by
    rcases ho.2 with ⟨hv, h0⟩ | ⟨g, c, cur, hv, _⟩
    · exact ⟨none, 0, by rw [hv, h0]⟩
    · exact ⟨_, _, hv⟩
  refine wl (v := .slice A' (k + s.size) cap') (w' := w1) ?_ (K A' cap' w1 ho (grown_same hg))
  simp only [RV, execOp, resolve, invoke, builtin, Sem.run_bind, Sem.run_pure, Result.andThen_ok, List.map_toArray, List.map_cons, List.map_nil, hx, hy, hr]
end rules
def BldI (w : World) (B b : Nat) (bs : List Value) : Prop := B ≤ b ∧ ∃ p A cap, (p = .pointer none ∨ p = .pointer (some ⟨b, 0, none⟩)) ∧ Blk w b 131 #[p, .slice A bs.length cap] ∧ Own w B 5 1 A bs.length cap bs
structure KB (B b : Nat) (w w' : World) : Prop where
  os : w'.os = w.os
  tape : w'.tape = w.tape
  output : w'.output = w.output
  size : w.heap.size ≤ w'.heap.size
  blk : ∀ k, k < w.heap.size → k ≠ b → (k < B ∨ ∀ cs, ¬ Blk w k 5 cs) → w'.heap[k]? = w.heap[k]?
theorem KB.refl (B b : Nat) (w : World) : KB B b w w := ⟨rfl, rfl, rfl, Nat.le_refl _, fun _ _ _ _ => rfl⟩
theorem KB.st {B b : Nat} {Y : List Nat} {a c d : World} (h : KB B b a c) (k : Same Y c d) (hy : ∀ g ∈ Y, g = b ∨ a.heap.size ≤ g ∨ (B ≤ g ∧ ∃ cs, Blk a g 5 cs)) : KB B b a d :=
  ⟨k.os.trans h.os, k.tape.trans h.tape, k.output.trans h.output, nLT h.size k.size, fun i hi hn hc => (k.blk i (nLL hi h.size) (fun hm => by
    rcases hy i hm with e | e | ⟨e, cs, hcs⟩
    · exact hn e
    · omega
    · rcases hc with hc | hc
      · omega
      · exact hc cs hcs)).trans (h.blk i hi hn hc)⟩
theorem KB.bel {B b : Nat} {w0 w w' : World} (h : Bel w0 w) (k : KB B b w w') (h1 : w0.heap.size ≤ B) (h2 : w0.heap.size ≤ b) : Bel w0 w' :=
  ⟨k.os.trans h.os, k.tape.trans h.tape, k.output.trans h.output, nLT h.size k.size, fun i hi => (k.blk i (nLL hi h.size) om (.inl om)).trans (h.block i hi)⟩
theorem KB.keep {B b q t : Nat} {w w' : World} {cs : Array Value} (k : KB B b w w') (h : Blk w q t cs) (ht : 5 ≠ t) (hq : q ≠ b) : Blk w' q t cs :=
  (k.blk q h.lt hq (.inr (fun _ h2 => ht (blk_type h2 h)))).trans h
theorem BldI.tr {w w' : World} {B b : Nat} {bs : List Value} {X : List Nat} (h : BldI w B b bs) (hs : Same X w w') (hx : ∀ g ∈ X, g ≠ b ∧ ∃ cs t, Blk w g t cs ∧ t ≠ 5) : BldI w' B b bs := by
  obtain ⟨h1, p, A, cap, hp, hb, ho⟩ := h
  refine ⟨h1, p, A, cap, hp, hb.tr hs (fun hm => (hx b hm).1 rfl), ho.tr hs (fun g hg hm => ?_)⟩
  obtain ⟨_, cs, t, hbt, hne⟩ := hx g hm
  obtain ⟨c2, hb2⟩ := ho.typ g hg
  exact hne (blk_type hbt hb2)
theorem BldI.tr0 {w w' : World} {B b : Nat} {bs : List Value} (h : BldI w B b bs) (hs : Same [] w w') : BldI w' B b bs := h.tr hs (by simp)
theorem BldI.tr1 {w w' : World} {B b q t : Nat} {bs : List Value} {cs : Array Value} (h : BldI w B b bs) (hs : Same [q] w w') (hq : Blk w q t cs) (ht : t ≠ 5) (hne : q ≠ b) : BldI w' B b bs :=
  h.tr hs (fun g hg => by rw [List.mem_singleton.1 hg]; exact ⟨hne, cs, t, hq, ht⟩)
theorem BldI.lt {w : World} {B b : Nat} {bs : List Value} (h : BldI w B b bs) : b < w.heap.size := by
  obtain ⟨_, _, _, _, _, hb, _⟩ := h
  exact hb.lt
theorem BldI.is {w : World} {B b : Nat} {bs : List Value} (h : BldI w B b bs) : Lib.IsBuilder 131 5 B b bs w := by
  obtain ⟨h1, p, A, cap, hp, hb, ho⟩ := h
  have hn : (Value.slice A bs.length cap).ownBlock ≠ some b := fun e => by
    cases A with
    | none => cases e
    | some a =>
      simp only [Value.ownBlock, Option.some.injEq] at e
      obtain ⟨c2, hb2⟩ := ho.typ b (by rw [← e]; exact List.mem_singleton.2 rfl)
      exact absurd (blk_type hb2 hb) dE
  rcases hp with rfl | rfl
  · exact .inl ⟨h1, _, hb, ho, hn⟩
  · exact .inr ⟨h1, _, hb, ho, hn⟩
theorem BldI.new {w : World} {B b : Nat} (hb : Blk w b 131 #[.pointer none, .slice none 0 0]) (h : B ≤ b) : BldI w B b [] := ⟨h, _, none, 0, .inl rfl, hb, Own.nil _ _ _ _⟩
end Go.Proofs.YtegngekpmpdngaaDoor
namespace Go.Proofs.YtegngekpmpdngaaDoor
open Go.RowKit
theorem own_neB {w : World} {base b sz k c : Nat} {e t : TypeId} {A : Option Addr} {xs : List Value} {cs : Array Value} (h : Own w base e sz A k c xs) (hb : Blk w b t cs) (hne : e ≠ t) : ∀ g ∈ aL A, g ≠ b := fun g hg e1 => by
  obtain ⟨c2, h2⟩ := h.typ g hg
  subst e1
  exact hne (blk_type h2 hb)
theorem sz128 : (Tryd.prog.info? 128).map (·.size) = some 1 := by kernel_rfl
theorem ck_fresh {w : World} {bB : Nat} {s : Value} (hbB : Blk w bB 131 #[.pointer none, s]) : Calls Tryd.prog 106 #[.pointer (some ⟨bB, 0, none⟩)] w fun e w' => e = .returned (.tuple #[]) ∧ Blk w' bB 131 #[.pointer (some ⟨bB, 0, none⟩), s] ∧ Same [bB] w w' := by
 have hS : SameQ [bB] w w := Same.refl _ _
 refine enter Tryd.func106 Tryd.ntmps106 rfl (Nat.le_of_ble_eq_true rfl) (c_seq (c_region (wl (r_mv (v := .pointer (some _)) rfl) (wl (r_nc rfl) (wl (r_fa U131 sz128 dE rfl rfl rfl) ?_)))))
 refine wl (r_ld1 (v := .pointer none) U128 rfl rfl (hbB.cell rfl)) (wl (r_peqN U128 rfl rfl) (x_nil (e_S (c_yes rfl (c_region ?_)))))
 refine wl (r_mv (v := .pointer (some _)) rfl) (wl (r_mv (v := .pointer (some _)) rfl) (wl (r_cvUp U128 Tryd.underlying159 (sz := 2) kR dE hbB (Nat.zero_lt_succ 1) rfl) (wl (r_ext (args := [.pointer (some ⟨bB, 0, none⟩)]) (run_noEsc (P := Tryd.prog) Tryd.func114 kR kR kR kR) rfl) (wl (r_cvDn (u := 131) Tryd.underlying159 U128 kR hbB kR rfl) (wl (r_nc rfl) ?_)))))
 refine wl (r_fa U131 sz128 dE rfl rfl rfl) ?_
 refine wl_st1 (v := .pointer (some _)) hbB rfl rfl sz128 (by first | decide | simp) rfl rfl (fun w1 hq hs => ?_)
 replace hS := SameQ.trans hS hs (by simp)
 clear hs
 replace hbB := hq
 refine x_nil (fin0 (.inr rfl) rfl  ?_)
 exact ⟨rfl, hbB, hS⟩
theorem ck_used {w : World} {bB : Nat} {s : Value} (hbB : Blk w bB 131 #[.pointer (some ⟨bB, 0, none⟩), s]) : Calls Tryd.prog 106 #[.pointer (some ⟨bB, 0, none⟩)] w fun e w' => e = .returned (.tuple #[]) ∧ Blk w' bB 131 #[.pointer (some ⟨bB, 0, none⟩), s] ∧ Same [bB] w w' := by
 have hS : SameQ [bB] w w := Same.refl _ _
 refine enter Tryd.func106 Tryd.ntmps106 rfl (Nat.le_of_ble_eq_true rfl) (c_seq (c_region (wl (r_mv (v := .pointer (some _)) rfl) (wl (r_nc rfl) (wl (r_fa U131 sz128 dE rfl rfl rfl) ?_)))))
 refine wl (r_ld1 (v := .pointer (some _)) U128 rfl rfl (hbB.cell rfl)) (wl (r_peqS U128 rfl rfl) (x_nil (e_S (c_no rfl (c_seq ?_)))))
 refine c_region (wl (r_mv (v := .pointer (some _)) rfl) (wl (r_nc rfl) (wl (r_fa U131 sz128 dE rfl rfl rfl) (wl (r_ld1 (v := .pointer (some _)) U128 rfl rfl (hbB.cell rfl)) (wl (r_mv (v := .pointer (some _)) rfl) ?_)))))
 refine wl (r_pneS U128 kR rfl rfl) (x_nil (e_S (c_no rfl (c_skip (fin0 (.inr rfl) rfl  ?_)))))
 exact ⟨rfl, hbB, hS⟩
theorem ck_any {w : World} {bB : Nat} {p s : Value} (hp : p = .pointer none ∨ p = .pointer (some ⟨bB, 0, none⟩)) (hbB : Blk w bB 131 #[p, s]) : Calls Tryd.prog 106 #[.pointer (some ⟨bB, 0, none⟩)] w fun e w' => e = .returned (.tuple #[]) ∧ Blk w' bB 131 #[.pointer (some ⟨bB, 0, none⟩), s] ∧ Same [bB] w w' := by
  rcases hp with rfl | rfl
  · exact ck_fresh hbB
  · exact ck_used hbB
end Go.Proofs.YtegngekpmpdngaaDoor
namespace Go.Proofs.YtegngekpmpdngaaDoor
open Go.RowKit
theorem fn106 : callable Tryd.prog 106 = true := by kernel_rfl
theorem in5 : (Tryd.prog.info? 5).map (fun i => (i.zero, i.size, i.bytes)) = some (some (.int .u8 0), 1, 1) := by kernel_rfl
theorem sz129 : (Tryd.prog.info? 129).map (·.size) = some 1 := by kernel_rfl
theorem sz5_BWs : (Tryd.prog.info? 5).map (·.size) = some 1 := by kernel_rfl
theorem ze5 : (Tryd.prog.info? 5).map (·.zero) = some (some (.int .u8 0)) := by kernel_rfl
theorem ws_any {w : World} {B bB : Nat} {bs : List Value} {s : ByteArray} (h : BldI w B bB bs) (hlen : bs.length + s.size ≤ 140737488355328) (hBw : B ≤ w.heap.size) : Calls Tryd.prog 89 #[.pointer (some ⟨bB, 0, none⟩), .string s] w fun e w' => e = .returned (.tuple #[.int .i64 s.size, .nilIface]) ∧ BldI w' B bB (bs ++ Lib.strCells s) ∧ KB B bB w w' := by
 obtain ⟨hBb, p, A, cap, hp, hbB, ho⟩ := h
 have hK : KB B bB w w := KB.refl _ _ _
 have hAo : ∀ g ∈ aL A, B ≤ g ∧ ∃ cs, Blk w g 5 cs := fun g hg => ⟨(ho.lt g hg).1, ho.typ g hg⟩
 have hzB := hBw
 refine enter Tryd.func89 Tryd.ntmps89 rfl (Nat.le_of_ble_eq_true rfl) (c_seq (c_region (waI rfl (wl (r_as (v := _) rfl) (x_nil ?_)))))
 refine e_S (c_seq (c_region (wl (r_mv (v := .pointer (some _)) rfl) ?_)))
 refine wl_cl fn106 (ck_any hp hbB) rfl (fun e' w1 hr => ?_)
 obtain ⟨rfl, hbB2, hs⟩ := hr
 replace ho := ho.tr1 hs (own_neB ho hbB dE)
 replace hK := hK.st hs (fun g hg => .inl (List.mem_singleton.1 hg))
 replace hzB := nLT hzB (Same.size hs)
 replace hbB := hbB2
 clear hs
 refine ⟨_, rfl, ?_⟩
 refine x_nil (e_S (c_seq (c_region (wl (r_mv (v := .pointer (some _)) rfl) (wl (r_mv (v := .pointer (some _)) rfl) ?_)))))
 refine wl (r_nc rfl) (wl (r_fa U131 sz129 dE rfl rfl rfl) (wl (r_ld1 (v := .slice _ _ _) U129 rfl rfl (hbB.cell rfl)) (wl (r_mv (v := .string _) rfl) ?_)))
 have or_ho_bB := own_neB ho hbB dE
 refine wl_appS U129 U9 kR ho rfl rfl hlen hzB (fun A2 cap2 w2 ho2 hs => ?_)
 replace hbB := hbB.tr hs (fun hx => or_ho_bB bB hx rfl)
 replace hK := hK.st hs (fun g hg => .inr (.inr (hAo g hg)))
 replace hzB := nLT hzB (Same.size hs)
 clear ho
 have ho := ho2
 clear ho2
 replace hs := Same.refl [] w2
 replace hbB := hbB.tr0 hs
 replace ho := ho.tr0 hs
 replace hK := hK.st hs (by simp)
 replace hzB := nLT hzB (Same.size hs)
 clear hs
 refine wl (r_nc rfl) (wl (r_fa U131 sz129 dE rfl rfl rfl) ?_)
 refine wl_st1 (v := .slice _ _ _) hbB rfl rfl sz129 (by first | decide | simp) rfl rfl (fun w3 hq hs => ?_)
 replace ho := ho.tr1 hs (fun g hg => by first | exact own_neB ho hbB dE g hg | (have := or_ho_bB g hg; omega))
 replace hK := hK.st hs (fun g hg => .inl (List.mem_singleton.1 hg))
 replace hzB := nLT hzB (Same.size hs)
 clear hs
 replace hbB := hq
 refine x_nil (e_S (c_seq (c_region (wl (r_mv (v := .string _) rfl) (wl (r_lenS U9 rfl) ?_)))))
 refine waI rfl (wl (r_as (v := _) rfl) (x_nil (e_S (c_ret (fin2 (.inl rfl) rfl rfl rfl ?_)))))
 exact ⟨rfl, ⟨hBb, _, A2, cap2, .inr rfl, by rw [List.length_append, Lib.strCells_length]; exact hbB, by rw [List.length_append, Lib.strCells_length]; exact ho⟩, hK⟩
theorem wb_any {w : World} {B bB : Nat} {bs : List Value} {c : Int} (h : BldI w B bB bs) (hlen : bs.length + 1 ≤ 140737488355328) (hBw : B ≤ w.heap.size) : Calls Tryd.prog 90 #[.pointer (some ⟨bB, 0, none⟩), .int .u8 c] w fun e w' => e = .returned .nilIface ∧ BldI w' B bB (bs ++ [.int .u8 c]) ∧ KB B bB w w' := by
 obtain ⟨hBb, p, A, cap, hp, hbB, ho⟩ := h
 have hK : KB B bB w w := KB.refl _ _ _
 have hAo : ∀ g ∈ aL A, B ≤ g ∧ ∃ cs, Blk w g 5 cs := fun g hg => ⟨(ho.lt g hg).1, ho.typ g hg⟩
 have hzB := hBw
 refine enter Tryd.func90 Tryd.ntmps90 rfl (Nat.le_of_ble_eq_true rfl) (c_seq (c_region (wl (r_as (v := _) rfl) (x_nil (e_S ?_)))))
 refine c_seq (c_region (wl (r_mv (v := .pointer (some _)) rfl) ?_))
 refine wl_cl fn106 (ck_any hp hbB) rfl (fun e' w1 hr => ?_)
 obtain ⟨rfl, hbB2, hs⟩ := hr
 replace ho := ho.tr1 hs (own_neB ho hbB dE)
 replace hK := hK.st hs (fun g hg => .inl (List.mem_singleton.1 hg))
 replace hzB := nLT hzB (Same.size hs)
 replace hbB := hbB2
 clear hs
 refine ⟨_, rfl, ?_⟩
 refine x_nil (e_S (c_seq ?_))
 have or_ho_bB := own_neB ho hbB dE
 have ltB := hbB.lt
 refine c_region (wl (r_mv (v := .pointer (some _)) rfl) (wl (r_mv (v := .pointer (some _)) rfl) (wl (r_nc rfl) (wl (r_fa U131 sz129 dE rfl rfl rfl) (wl (r_ld1 (v := .slice _ _ _) U129 rfl rfl (hbB.cell rfl)) ?_)))))
 refine wmI rfl ?_
 refine wl_bs (cs := #[_]) [(0, .int _ _)] rfl U129 sz5_BWs ze5 dE dE kR rfl (fun b13 w2 hb13 hs hr => ?_)
 have or_bB_b13 : bB < b13 := nLL hbB.lt hr
 have or_ho_b13 := (fun g hg => nLL (ho.lt g hg).2 hr)
 have or_hK_b13 := (nLT hK.size hr)
 have or_hzB_b13 := (nLT hzB hr)
 replace hbB := hbB.tr0 hs
 replace ho := ho.tr0 hs
 replace hK := hK.st hs (by simp)
 replace hzB := nLT hzB (Same.size hs)
 clear hs
 refine wl_app U129 in5 rfl dE ho hb13 rfl rfl rfl oneA dE om om hzB (fun g14 cap14 w3 ho14 hs hg => ?_)
 have ne_ho14_bB : g14 ≠ bB := fun e => by
  have hl := hbB.lt
  rcases hg with hg | hg
  · have h1 := ho.lt g14 (by rw [hg]; exact List.mem_singleton.2 rfl)
    (try have := or_ho_bB g14 (by rw [hg]; exact List.mem_singleton.2 rfl)); omega
  · omega
 replace hbB := hbB.tr hs (fun hx => by have := (ho.lt _ hx).1; (try have := or_ho_bB _ hx); omega)
 replace hK := hK.st hs (fun g hg => .inr (.inr (hAo g hg)))
 replace hzB := nLT hzB (Same.size hs)
 have hA2 := hg
 refine wl (r_nc rfl) (wl (r_fa U131 sz129 dE rfl rfl rfl) ?_)
 refine wl_st1 (v := .slice _ _ _) hbB rfl rfl sz129 (by first | decide | simp) rfl rfl (fun w4 hq hs => ?_)
 replace hK := hK.st hs (fun g hg => .inl (List.mem_singleton.1 hg))
 replace hzB := nLT hzB (Same.size hs)
 replace ho14 := ho14.tr1 hs (fun g hg => by have := (ho14.lt g hg).1; (try have := or_ho14_bB g hg); (try simp only [aL] at hg); (try simp only [List.mem_singleton] at hg); omega)
 clear hs
 replace hbB := hq
 refine x_nil (e_S (c_seq (c_region (wl (r_as (v := _) rfl) (x_nil ?_)))))
 refine e_S (c_ret (fin1 (.inl rfl) rfl rfl ?_))
 exact ⟨rfl, ⟨hBb, _, some ⟨g14, 0, none⟩, cap14, .inr rfl, by rw [List.length_append]; exact hbB, by rw [List.length_append]; exact ho14⟩, hK⟩
end Go.Proofs.YtegngekpmpdngaaDoor
namespace Go.Proofs.YtegngekpmpdngaaDoor
open Go.Shelf
def sh_lays169_ren : Go.Shelf.Ren := ⟨fun | 169 => 91 | n => n, fun | 70 => 128 | 9 => 9 | 0 => 0 | 72 => 131 | 37 => 129 | 127 => 150 | 3 => 3 | 5 => 5 | n => n, fun | n => n⟩
theorem sh_lays169 : Go.Proofs.Lays.n169 Tryd.prog sh_lays169_ren := {
  mixed := by kernel_rfl
  f169 := Tryd.func91.trans (congrArg some (by kernel_rfl))
  t0 := Tryd.underlying0
  a0 := Tryd.isAgg0
  z0 := Tryd.sizeOf0
  v0 := Tryd.zeroValue0
  t3 := U3
  a3 := Tryd.isAgg3
  z3 := Tryd.sizeOf3
  v3 := Tryd.zeroValue3
  t9 := U9
  a9 := Tryd.isAgg9
  z9 := Tryd.sizeOf9
  v9 := Tryd.zeroValue9
  t37 := U129
  a37 := Tryd.isAgg129
  z37 := Tryd.sizeOf129
  v37 := Tryd.zeroValue129
  t70 := U128
  a70 := Tryd.isAgg128
  z70 := Tryd.sizeOf128
  v70 := Tryd.zeroValue128
  t72 := U131
  a72 := Tryd.isAgg131
  z72 := Tryd.sizeOf131
  v72 := Tryd.zeroValue131
  t127 := Tryd.underlying150
  a127 := Tryd.isAgg150
  z127 := Tryd.sizeOf150
  v127 := Tryd.zeroValue150 }
theorem sh_Builder_Extra_169 : Builder.Extra Tryd.prog sh_lays169_ren := {
  sizeBuilder := by kernel_rfl
  liesBuilder := by kernel_rfl
  t5 := U5
  a5 := Tryd.isAgg5
  z5 := Tryd.sizeOf5
  v5 := Tryd.zeroValue5
  infoByte := by kernel_rfl
  cellsByte := by kernel_rfl
  sizeByte := by kernel_rfl
  neB5 := by decide }
open Go.RowKit in
theorem sh_Builder_String_any (B b : Nat) (l : List UInt8) (w : World) (h : Lib.IsBuilder 131 5 B b (Lib.byteCells l) w) (hBw : B ≤ w.heap.size) :
    Calls Tryd.prog 91 #[.pointer (some ⟨b, 0, none⟩)] w fun e w' => e = .returned (.string ⟨l.toArray⟩) ∧ Below B w w' := Any.Builder_String_any sh_lays169 sh_Builder_Extra_169 B b l w h hBw
def sh_lays171_ren : Go.Shelf.Ren := ⟨fun | 171 => 93 | 243 => 107 | 246 => 115 | 283 => 121 | 284 => 122 | 285 => 123 | 286 => 124 | 129 => 131 | 317 => 130 | 318 => 132 | 319 => 133 | 320 => 134 | 337 => 137 | 338 => 102 | n => n, fun | 3 => 3 | 9 => 9 | 2 => 2 | 4 => 4 | 171 => 166 | 0 => 0 | 53 => 122 | 37 => 129 | 5 => 5 | 173 => 168 | 212 => 171 | 51 => 172 | 20 => 20 | 213 => 173 | 46 => 148 | 232 => 182 | 233 => 157 | n => n, fun | 17 => 2 | 18 => 5 | 19 => 0 | n => n⟩
theorem sh_lays171 : Go.Proofs.Lays.n171 Tryd.prog sh_lays171_ren := {
  mixed := by kernel_rfl
  f129 := Tryd.func131.trans (congrArg some (by kernel_rfl))
  f171 := Tryd.func93.trans (congrArg some (by kernel_rfl))
  f243 := Tryd.func107.trans (congrArg some (by kernel_rfl))
  f246 := Tryd.func115.trans (congrArg some (by kernel_rfl))
  f283 := Tryd.func121.trans (congrArg some (by kernel_rfl))
  f284 := Tryd.func122.trans (congrArg some (by kernel_rfl))
  f285 := Tryd.func123.trans (congrArg some (by kernel_rfl))
  f286 := Tryd.func124.trans (congrArg some (by kernel_rfl))
  f317 := Tryd.func130.trans (congrArg some (by kernel_rfl))
  f318 := Tryd.func132.trans (congrArg some (by kernel_rfl))
  f319 := Tryd.func133.trans (congrArg some (by kernel_rfl))
  f320 := Tryd.func134.trans (congrArg some (by kernel_rfl))
  f337 := Tryd.func137.trans (congrArg some (by kernel_rfl))
  f338 := Tryd.func102.trans (congrArg some (by kernel_rfl))
  t0 := Tryd.underlying0
  a0 := Tryd.isAgg0
  z0 := Tryd.sizeOf0
  v0 := Tryd.zeroValue0
  t2 := Tryd.underlying2
  a2 := Tryd.isAgg2
  z2 := Tryd.sizeOf2
  v2 := Tryd.zeroValue2
  t3 := U3
  a3 := Tryd.isAgg3
  z3 := Tryd.sizeOf3
  v3 := Tryd.zeroValue3
  t4 := U4
  a4 := Tryd.isAgg4
  z4 := Tryd.sizeOf4
  v4 := Tryd.zeroValue4
  t5 := U5
  a5 := Tryd.isAgg5
  z5 := Tryd.sizeOf5
  v5 := Tryd.zeroValue5
  t9 := U9
  a9 := Tryd.isAgg9
  z9 := Tryd.sizeOf9
  v9 := Tryd.zeroValue9
  t20 := Tryd.underlying20
  a20 := Tryd.isAgg20
  z20 := Tryd.sizeOf20
  v20 := Tryd.zeroValue20
  t37 := U129
  a37 := Tryd.isAgg129
  z37 := Tryd.sizeOf129
  v37 := Tryd.zeroValue129
  t46 := Tryd.underlying148
  a46 := Tryd.isAgg148
  z46 := Tryd.sizeOf148
  v46 := Tryd.zeroValue148
  t51 := Tryd.underlying172
  a51 := Tryd.isAgg172
  z51 := Tryd.sizeOf172
  v51 := Tryd.zeroValue172
  t53 := U122
  a53 := Tryd.isAgg122
  z53 := Tryd.sizeOf122
  v53 := Tryd.zeroValue122
  t171 := Tryd.underlying166
  a171 := Tryd.isAgg166
  z171 := Tryd.sizeOf166
  v171 := Tryd.zeroValue166
  t173 := Tryd.underlying168
  a173 := Tryd.isAgg168
  z173 := Tryd.sizeOf168
  v173 := Tryd.zeroValue168
  t212 := Tryd.underlying171
  a212 := Tryd.isAgg171
  z212 := Tryd.sizeOf171
  v212 := Tryd.zeroValue171
  t213 := Tryd.underlying173
  a213 := Tryd.isAgg173
  z213 := Tryd.sizeOf173
  t232 := Tryd.underlying182
  a232 := Tryd.isAgg182
  z232 := Tryd.sizeOf182
  v232 := Tryd.zeroValue182
  t233 := Tryd.underlying157
  a233 := Tryd.isAgg157
  z233 := Tryd.sizeOf157
  v233 := Tryd.zeroValue157
  g17 := by kernel_rfl
  g18 := by kernel_rfl
  g19 := by kernel_rfl }
open Go.RowKit Go.Sort Go.Lib in
theorem sh_strconv_Itoa_small (i : Nat) (hi : i < 100) (w : World) :
    Calls Tryd.prog 93 #[.int .i64 i] w fun e w' => e = .returned (.string ⟨(Lib.decDigits i).toArray⟩) ∧ w' = w := Any.strconv_Itoa_small sh_lays171 i hi w
end Go.Proofs.YtegngekpmpdngaaDoor
