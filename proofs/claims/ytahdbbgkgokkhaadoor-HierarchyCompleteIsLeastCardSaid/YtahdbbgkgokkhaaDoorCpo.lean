/- Completing types: the sets that are added; the list while it is written. No program in sight. -/
import Derived.Test.YtahdbbgkgokkhaaDoorCrw
namespace Go.Proofs.YtahdbbgkgokkhaaDoor
open Go.RowKit
/-- not empty, of types, with every subtype of a member -/
structure DnS (l : List Ty) (x : Nat) : Prop where
  ne : x ≠ 0
  lt : ∀ i, x.testBit i = true → i < l.length
  dn : ∀ i j, j < l.length → x.testBit i = true → sub l j i = true → x.testBit j = true
theorem down_bit (l : List Ty) (i j : Nat) : (downN l i).testBit j = (decide (j < l.length) && sub l j i) := mask_bit _ _ _
theorem dns_base {l : List Ty} (hv : VT l) {x : Nat} (hx : x ∈ base l) : DnS l x := by
  obtain ⟨k, hk, rfl⟩ := List.mem_map.1 hx
  have hkl := List.mem_range.1 hk
  refine ⟨fun e => ?_, fun i hi => ?_, fun i j hj hi hs => ?_⟩
  · have := down_bit l k k
    rw [e] at this
    simp [hkl, sub_refl hv] at this
  · rw [down_bit] at hi
    simp only [Bool.and_eq_true, decide_eq_true_eq] at hi
    exact hi.1
  · rw [down_bit] at hi ⊢
    simp only [Bool.and_eq_true, decide_eq_true_eq] at hi ⊢
    exact ⟨hj, sub_tr hv hs hi.2⟩
theorem dns_cl {l : List Ty} (hv : VT l) {x : Nat} (h : Cl (base l) x) : DnS l x := by
  induction h with
  | base h => exact dns_base hv h
  | @meet x y _ _ h0 ih1 ih2 =>
    refine ⟨h0, fun i hi => ?_, fun i j hj hi hs => ?_⟩
    · rw [Nat.testBit_and] at hi
      simp only [Bool.and_eq_true] at hi
      exact ih1.lt i hi.1
    · rw [Nat.testBit_and] at hi ⊢
      simp only [Bool.and_eq_true] at hi ⊢
      exact ⟨ih1.dn i j hj hi.1 hs, ih2.dn i j hj hi.2 hs⟩
theorem base_nodup {l : List Ty} (hv : VT l) : (base l).Nodup := by
  unfold base
  refine List.Pairwise.map _ (R := fun a b => a ≠ b ∧ a < l.length ∧ b < l.length) (fun a b h e => ?_) ?_
  · have h1 := down_bit l a a
    have h2 := down_bit l b b
    rw [e, down_bit] at h1
    rw [← e, down_bit] at h2
    simp [h.2.1, sub_refl hv] at h1
    simp [h.2.2, sub_refl hv] at h2
    exact h.1 (sub_anti hv h1 h2)
  · refine List.pairwise_iff_getElem.2 (fun i j hi hj hij => ?_)
    simp only [List.length_range] at hi hj
    rw [List.getElem_range, List.getElem_range]
    exact ⟨by omega, hi, hj⟩
theorem comp_keep {l : List Ty} (hv : VT l) (h60 : l.length ≤ 60) {R : List Nat} (h : compS l = some R) : ClP (base l) R R.length 0 := by
  refine clO_keep 61 0 (base l) R (Nat.zero_le _) ⟨by rw [base_len]; exact h60, base_nodup hv, ⟨[], by rw [List.append_nil], fun x hx => by cases hx⟩, fun i' j' _ hj h2 => by omega⟩ h
theorem comp_dn {l : List Ty} (hv : VT l) (h60 : l.length ≤ 60) {ds D : List Nat} (h : compS l = some (base l ++ ds)) (hp : D.Perm ds) : ∀ x ∈ D, DnS l x := fun x hx => by
  obtain ⟨A, hA, hm⟩ := (comp_keep hv h60 h).pre
  rw [← List.append_cancel_left hA] at hm
  exact dns_cl hv (hm x (hp.mem_iff.1 hx)).1
theorem DnS.eq {l : List Ty} {x : Nat} (h : DnS l x) : x = mask (fun i => x.testBit i) l.length := mask_ext (fun j => by
  cases e : x.testBit j with
  | false => simp
  | true => simp [h.lt j e])
theorem DnS.tz {l : List Ty} {x : Nat} (h : DnS l x) (h60 : l.length ≤ 60) : tz x < l.length ∧ x.testBit (tz x) = true ∧ ∀ j, j < tz x → x.testBit j = false := by
  have h0 := h.ne
  rw [h.eq] at h0
  have := ctz_mask h60 h0
  rw [← h.eq] at this
  exact this
theorem DnS.lt64 {l : List Ty} {x : Nat} (h : DnS l x) (h60 : l.length ≤ 60) : x < 18446744073709551616 := by
  rw [h.eq]; exact mask_lt64 _ h60
/-- the list while it is written: pr stands, Dr is left -/
structure PopI (l : List Ty) (D Dr : List Nat) (pr : List (Nat × ByteArray)) (i a k cn : Nat) : Prop where
  eq : outL l D = pr ++ outG (downN l) (nmL l) (usedB l) k i a Dr
  kk : k = (l.length - i) + Dr.length
  nb : NB (usedB l) cn a
  cn' : cn + Dr.length = D.length
  ge : ∀ x ∈ Dr, i ≤ tz x
  lt : ∀ x ∈ Dr, tz x < l.length
  so : Dr.Pairwise (fun x y => tz x ≤ tz y)
  sub : ∀ x ∈ Dr, x ∈ D
  sz : l.length + D.length ≤ 60
theorem PopI.start {l : List Ty} {D : List Nat} (h60 : l.length ≤ 60) (hD : ∀ x ∈ D, DnS l x) (hp : D.Pairwise (fun x y => ¬ cmpU y x < 0)) (hs : l.length + D.length ≤ 60) : PopI l D D [] 0 0 (l.length + D.length) 0 :=
  ⟨rfl, by omega, Nat.zero_le _, by omega, fun _ _ => Nat.zero_le _, fun x hx => ((hD x hx).tz h60).1, hp.imp (fun h => by rw [cmpU_lt] at h; omega), fun _ h => h, hs⟩
theorem PopI.len {l : List Ty} {D Dr : List Nat} {pr : List (Nat × ByteArray)} {i a k cn : Nat} (h : PopI l D Dr pr i a k cn) : pr.length + k = l.length + D.length := by
  have := congrArg List.length h.eq
  rw [List.length_append, outG_len, outL, outG_len] at this
  omega
theorem PopI.small {l : List Ty} {D Dr : List Nat} {x : Nat} {pr : List (Nat × ByteArray)} {i a k cn : Nat} (h : PopI l D (x :: Dr) pr i a k cn) : cn + l.length ≤ 59 ∧ pr.length ≤ 60 := by
  have h1 := h.cn'
  have h2 := h.sz
  have h3 := h.len
  rw [List.length_cons] at h1
  omega
theorem PopI.small2 {l : List Ty} {D Dr : List Nat} {pr : List (Nat × ByteArray)} {i a k cn : Nat} (h : PopI l D Dr pr i a k cn) : pr.length ≤ 60 := by
  have h2 := h.sz
  have h3 := h.len
  omega
theorem PopI.pop {l : List Ty} {D Dr : List Nat} {x : Nat} {pr : List (Nat × ByteArray)} {i a a2 k cn : Nat} (h : PopI l D (x :: Dr) pr i a k cn) (ht : tz x = i) (hn : nxt (usedB l) a = a2 + 1) (hb : NB (usedB l) cn a2) : PopI l D Dr (pr ++ [(x, glb (a2 + 1))]) i (a2 + 1) (k - 1) (cn + 1) := by
  obtain ⟨k', rfl⟩ : ∃ k', k = k' + 1 := ⟨k - 1, by have := h.kk; rw [List.length_cons] at this; omega⟩
  have h1 := h.kk
  have h2 := h.cn'
  have h3 := h.so
  rw [List.length_cons] at h1 h2
  refine ⟨?_, by omega, hb.free, by omega, fun y hy => h.ge y (List.mem_cons_of_mem _ hy), fun y hy => h.lt y (List.mem_cons_of_mem _ hy), (List.pairwise_cons.1 h3).2, fun y hy => h.sub y (List.mem_cons_of_mem _ hy), h.sz⟩
  rw [h.eq, outG_pop ht, hn, List.append_assoc]
  rfl
theorem PopI.old {l : List Ty} {D Dr : List Nat} {pr : List (Nat × ByteArray)} {i a k cn : Nat} (h : PopI l D Dr pr i a k cn) (hi : i < l.length) (hn : ∀ x ∈ Dr.head?, tz x ≠ i) : PopI l D Dr (pr ++ [(downN l i, l[i].name)]) (i + 1) a (k - 1) cn := by
  obtain ⟨k', rfl⟩ : ∃ k', k = k' + 1 := ⟨k - 1, by have := h.kk; omega⟩
  have h1 := h.kk
  refine ⟨?_, by omega, h.nb, h.cn', fun y hy => ?_, h.lt, h.so, h.sub, h.sz⟩
  · rw [h.eq, outG_old hn, List.append_assoc]
    have : nmL l i = l[i].name := by unfold nmL; simp [List.getD, hi]
    rw [this]
    rfl
  · cases Dr with
    | nil => cases hy
    | cons x Dr =>
      have h2 := hn x rfl
      have h3 := h.ge x (List.mem_cons_self ..)
      rcases List.mem_cons.1 hy with rfl | h4
      · omega
      · have := (List.pairwise_cons.1 h.so).1 y h4
        omega
theorem PopI.done {l : List Ty} {D Dr : List Nat} {pr : List (Nat × ByteArray)} {a k cn : Nat} (h : PopI l D Dr pr l.length a k cn) : outL l D = pr := by
  have hD : Dr = [] := by
    cases Dr with
    | nil => rfl
    | cons x Dr =>
      have h1 := h.ge x (List.mem_cons_self ..)
      have h2 := h.lt x (List.mem_cons_self ..)
      omega
  subst hD
  have h1 := h.kk
  have : k = 0 := by simpa using h1
  subst this
  rw [h.eq]
  exact List.append_nil _
/-! ## slices that grew -/
theorem psl_snoc (A : Option Addr) (cap : Nat) (pr : List (Nat × ByteArray)) (p : Nat × ByteArray) : Value.slice A ((pr.map Prod.fst).length + 1) cap = Value.slice A ((pr ++ [p]).map Prod.fst).length cap := by simp
theorem psl_snoc2 (A : Option Addr) (cap : Nat) (pr : List (Nat × ByteArray)) (p : Nat × ByteArray) : Value.slice A (pr.length + 1) cap = Value.slice A (pr ++ [p]).length cap := by simp
theorem pown_snoc {w : World} {b : Nat} {A : Option Addr} {cap : Nat} {pr : List (Nat × ByteArray)} {x : Nat} {s : ByteArray} (h : Own w b 49 1 A ((pr.map Prod.fst).length + 1) cap ((pr.map Prod.fst).map uV ++ [Value.int .u64 (x : Int)])) : Own w b 49 1 A ((pr ++ [(x, s)]).map Prod.fst).length cap (((pr ++ [(x, s)]).map Prod.fst).map uV) := by
  have e : (pr ++ [(x, s)]).map Prod.fst = pr.map Prod.fst ++ [x] := by simp
  rw [e]
  exact uown_snoc h
theorem poO_snoc {w : World} {b : Nat} {A : Option Addr} {cap : Nat} {pr : List (Nat × ByteArray)} {x : Nat} {s : ByteArray} (h : Own w b 35 2 A (pr.length + 1) cap (outV pr ++ [Value.string s, Value.slice none 0 0])) : Own w b 35 2 A (pr ++ [(x, s)]).length cap (outV (pr ++ [(x, s)])) := by
  rw [outV_snoc, List.length_append]
  exact h
end Go.Proofs.YtahdbbgkgokkhaaDoor
