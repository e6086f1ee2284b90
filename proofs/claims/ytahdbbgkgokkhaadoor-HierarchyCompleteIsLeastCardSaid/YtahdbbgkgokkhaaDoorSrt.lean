/- slices.SortFunc of sets, by the shelf's contract. -/
import Derived.Test.YtahdbbgkgokkhaaDoorCSet
import Derived.Test.YtahdbbgkgokkhaaDoorCst
import Derived.Test.YtahdbbgkgokkhaaDoorShf
import Derived.Test.YtahdbbgkgokkhaaDoorEng6
namespace Go.Proofs.YtahdbbgkgokkhaaDoor
open Go.RowKit Go.Sort
/-! ## worlds that a sort passes through -/
theorem heap_sortW {α : Type} [Inhabited α] (enc : α → Value) (w : World) (g o n : Nat) (d : Array α) (os : Array Obj) {k : Nat} (hk : k < w.heap.size) (hne : k ≠ g) : (sortWorld enc w g o n d os).heap[k]? = w.heap[k]? := by
  show (w.heap.modify g _ ++ os)[k]? = _
  rw [Array.getElem?_append_left (by simpa using hk), Array.getElem?_modify, if_neg (Ne.symm hne)]
theorem same_sortW {α : Type} [Inhabited α] (enc : α → Value) (w : World) (g o n : Nat) (d : Array α) (os : Array Obj) : Same [g] w (sortWorld enc w g o n d os) :=
  ⟨rfl, rfl, rfl, by show _ ≤ (w.heap.modify g _ ++ os).size; simp, fun k hk hx => heap_sortW enc w g o n d os hk (by simpa using hx)⟩
theorem blk_sortW {α : Type} [Inhabited α] {enc : α → Value} {w : World} {g o n : Nat} {d : Array α} {os : Array Obj} {t : TypeId} {cs : Array Value} (h : Blk w g t cs) : Blk (sortWorld enc w g o n d os) g t (putCells enc o d cs) := by
  have hl := h.lt
  unfold Blk at h ⊢
  show (w.heap.modify g _ ++ os)[g]? = _
  rw [Array.getElem?_append_left (by simpa using hl), Array.getElem?_modify, if_pos rfl, h]
  rfl
theorem TabIn.tr {w w' : World} {X : List Nat} (h : TabIn w) (hs : Same X w w') (hx : ∀ g ∈ X, g ≠ 0) : TabIn w' := by
  refine ⟨Nat.lt_of_lt_of_le h.1 hs.size, fun k hk => ?_⟩
  have h1 := h.2 k hk
  unfold World.cell? at h1 ⊢
  rw [hs.blk _ h.1 (fun hm => hx _ hm rfl)]
  exact h1
/-! ## the order -/
theorem cmpU_lt {x y : Nat} : cmpU x y < 0 ↔ tz x < tz y ∨ (tz x = tz y ∧ (pop 64 y < pop 64 x ∨ (pop 64 y = pop 64 x ∧ revN y < revN x))) := by
  unfold cmpU
  by_cases h1 : cmpI (tz x) (tz y) ≠ 0
  · rw [if_pos h1, cmpI_lt]
    rw [Ne, cmpI_eq] at h1
    omega
  · rw [if_neg h1]
    rw [Ne, cmpI_eq, Decidable.not_not] at h1
    by_cases h2 : cmpI (pop 64 y) (pop 64 x) ≠ 0
    · rw [if_pos h2, cmpI_lt]
      rw [Ne, cmpI_eq] at h2
      omega
    · rw [if_neg h2, cmpI_lt]
      rw [Ne, cmpI_eq, Decidable.not_not] at h2
      omega
def ltU (x y : UInt64) : Int := cmpU x.toNat y.toNat
theorem swo_U : SWO (ltOf ltU) := by
  refine ⟨fun x => ?_, fun x y z h k => ?_, fun x y z h k => ?_⟩
  · unfold ltOf ltU; rw [decide_eq_false_iff_not, cmpU_lt]; omega
  · unfold ltOf ltU at *; rw [decide_eq_true_iff, cmpU_lt] at *; omega
  · unfold ltOf ltU at *; rw [decide_eq_false_iff_not, cmpU_lt] at *; omega
def encU (x : UInt64) : Value := uV x.toNat
theorem encU_of {x : Nat} (h : x < 18446744073709551616) : encU (UInt64.ofNat x) = uV x := by
  unfold encU
  rw [UInt64.toNat_ofNat', Nat.mod_eq_of_lt (by exact h)]
theorem sort_any {base cap : Nat} {A : Option Addr} {xs : List Nat} {w : World} (ho : UOwn w base A cap xs) (hn : xs.length ≤ 60) (hx : ∀ x ∈ xs, x < 18446744073709551616) (hTab : TabIn w) (hb : 0 < base) :
    Calls Tryd.prog 19 #[.slice A xs.length cap, .func (.func 20) #[] #[]] w fun e w' => e = .returned (.tuple #[]) ∧ ∃ ys : List Nat, ys.Perm xs ∧ ys.Pairwise (fun x y => ¬ cmpU y x < 0) ∧ ys.length = xs.length ∧ UOwn w' base A cap ys ∧ Same (aL A) w w' := by
  by_cases h0 : xs = []
  · subst h0
    refine (sh_slices_SortFunc_none (α := UInt64) A cap _ w).mono fun e w' h => ⟨h.1, [], List.Perm.refl _, List.Pairwise.nil, rfl, ?_⟩
    rw [h.2]
    exact ⟨ho, Same.refl _ _⟩
  have hp := List.length_pos_iff.2 h0
  obtain ⟨g, cur, rfl, hgb, hcur, hcm, hcs, hct⟩ := Own.whole ho hp
  rw [Nat.mul_one] at hcs hct
  have hmax := Own.max ho
  have hcap := Own.cap_le ho
  obtain ⟨d, hd⟩ : ∃ d : Array UInt64, d = (xs.map UInt64.ofNat).toArray := ⟨_, rfl⟩
  have hds : d.size = xs.length := by rw [hd]; simp
  have hdj : ∀ j (hj : j < xs.length), d[j]! = UInt64.ofNat xs[j] := fun j hj => by
    rw [getElem!_pos d j (by omega)]
    simp [hd]
  have hcell : ∀ j (hj : j < xs.length), cur[j]? = some (uV xs[j]) := fun j hj => by
    have h1 : (xs.map uV)[j]? = some (uV xs[j]) := by simp [hj]
    rw [← hct, List.getElem?_take_of_lt hj, Array.getElem?_toList] at h1
    exact h1
  have hH : Holds encU w g 0 d := fun j hj => by
    have hj2 : j < xs.length := by omega
    rw [Nat.zero_add, hdj j hj2, encU_of (hx _ (List.getElem_mem hj2))]
    exact ⟨hcur.cell (hcell j hj2), hcur.frozen j⟩
  have hTW : ∀ (m : Nat) (os : Array Obj) (dk : Array UInt64), TabIn (sortWorld encU w g 0 m dk os) := fun m os dk => hTab.tr (same_sortW encU w g 0 m dk os) (fun q hq => by rw [List.mem_singleton.1 hq]; omega)
  have hcmp : CmpLays1 Tryd.prog 20 #[] encU ltU g 0 d.size w := fun m os dk _ x y => by
    refine (setc_any x.toNat y.toNat _ x.toNat_lt y.toNat_lt (hTW m os dk)).mono fun e w' h => ⟨h.1, 0, #[], ?_⟩
    rw [grow_empty, World.drewN_zero]
    exact h.2.symm
  have hcall := sh_slices_SortFunc encU (fun _ => rfl) ltU swo_U 20 #[] g 0 cap d w (run_callFunc (by kernel_rfl)) hcmp hH hcur.lt (by omega)
  rw [hds] at hcall
  refine hcall.mono fun e w' h => ⟨h.1, ?_⟩
  obtain ⟨d', n, os, ⟨hp1, _, hp3⟩, hsort, rfl⟩ := h.2
  have hd's : d'.size = xs.length := by omega
  rw [← hds] at hp3 hsort
  have e1 : (d'.extract 0 d.size).toList = d'.toList := by rw [show d.size = d'.size by omega]; simp
  have e2 : (d.extract 0 d.size).toList = d.toList := by simp
  rw [e1, e2] at hp3
  have hlen : (d'.toList.map UInt64.toNat).length = xs.length := by simp [hd's]
  have hperm : (d'.toList.map UInt64.toNat).Perm xs := by
    have h1 := hp3.map UInt64.toNat
    have h2 : d.toList.map UInt64.toNat = xs := by
      rw [hd]
      simp only [List.map_map]
      conv => rhs; rw [← List.map_id xs]
      refine List.map_congr_left (fun x hxm => ?_)
      simp only [Function.comp, UInt64.toNat_ofNat', id]
      exact Nat.mod_eq_of_lt (hx x hxm)
    rwa [h2] at h1
  refine ⟨d'.toList.map UInt64.toNat, hperm, ?_, hlen, ?_, same_sortW encU w g 0 n d' os⟩
  · rw [List.pairwise_iff_getElem]
    intro i j hi hj hij
    rw [List.getElem_map, List.getElem_map]
    have h1 := hsort i j (Nat.zero_le _) hij (by omega)
    rw [getElem!_pos d' i (by omega), getElem!_pos d' j (by omega)] at h1
    unfold ltOf ltU at h1
    rw [decide_eq_false_iff_not] at h1
    simpa using h1
  · unfold UOwn
    rw [hlen]
    refine own_mk (blk_sortW hcur) hgb hcap hcm (by unfold putCells; simp [hcs]) ?_
    rw [Nat.mul_one]
    refine List.ext_getElem? (fun j => ?_)
    by_cases hj : j < xs.length
    · rw [List.getElem?_take_of_lt hj, Array.getElem?_toList]
      unfold putCells
      rw [Array.getElem?_mapIdx, hcell j hj, Option.map_some, if_pos ⟨Nat.zero_le _, by omega⟩, Nat.sub_zero, getElem!_pos d' j (by omega)]
      simp [hd's, hj, encU]
    · rw [List.getElem?_eq_none (by rw [List.length_take]; omega), List.getElem?_eq_none (by simp [hd's]; omega)]
end Go.Proofs.YtahdbbgkgokkhaaDoor
