/- The reference's way to complete types: what its walk needs. No program in sight. -/
import Derived.Test.YtahdbbgkgokkhaaDoorRcm
namespace Go.Proofs.YtahdbbgkgokkhaaDoor
open Go.RowKit
section rules
variable {P : Program} {n : Nat} {f : Fr} {w : World} {ty : TypeId} {pos : String} {af : Array Edge} {x y : Operand} {t e : TypeId}
end rules
/-- slices of ints that lie in the world w0 -/
def RwB (w0 : World) (L : List (List Int)) (vs : List Value) : Prop := vs.length = L.length ∧ ∀ k (hk : k < L.length), ∃ A c, vs[k]? = some (.slice A (L[k]).length c) ∧ IntsIn w0 A L[k]
theorem RwB.nil (w0 : World) : RwB w0 [] [] := ⟨rfl, fun k hk => by simp at hk⟩
theorem RwB.snoc {w0 : World} {L : List (List Int)} {vs : List Value} {xs : List Int} {A : Option Addr} {c : Nat} (h : RwB w0 L vs) (hp : IntsIn w0 A xs) : RwB w0 (L ++ [xs]) (vs ++ [.slice A xs.length c]) := by
  have h1 := h.1
  refine ⟨by simp [h1], fun k hk => ?_⟩
  by_cases e : k < L.length
  · obtain ⟨A2, c2, e1, hp2⟩ := h.2 k e
    exact ⟨A2, c2, by rw [List.getElem?_append_left (by omega), List.getElem_append_left e]; exact e1, by rw [List.getElem_append_left e]; exact hp2⟩
  · have e2 : k = L.length := by simp at hk; omega
    subst e2
    refine ⟨A, c, ?_, ?_⟩
    · rw [List.getElem?_append_right (by omega), h1, Nat.sub_self]; simp
    · simpa using hp
theorem RwB.one {w0 : World} {L : List (List Int)} {vs : List Value} (h : RwB w0 L vs) : ∀ v ∈ vs, v.oneCell' = true := fun v hv => by
  obtain ⟨k, hk, rfl⟩ := List.mem_iff_getElem.1 hv
  obtain ⟨A, c, e1, _⟩ := h.2 k (by rw [← h.1]; exact hk)
  rw [List.getElem?_eq_getElem hk] at e1
  rw [Option.some.inj e1]; rfl
theorem MatIn.drop {w : World} {A : Option Addr} {L1 L2 : List (List Int)} {c n : Nat} (h : MatIn w A (L1 ++ L2)) (hn : L1.length = n) (hc : n + L2.length ≤ c) : ∃ AW, (if c = n then A else A.map (·.add (n * 1))) = AW ∧ MatIn w AW L2 := by
  subst hn
  refine ⟨_, rfl, by have := h.1; rw [List.length_append] at this; omega, fun hne => ?_⟩
  have hp := List.length_pos_iff.2 hne
  rw [if_neg (by omega)]
  obtain ⟨b, o, e, hl, hcl⟩ := h.2 (by intro e; exact hne (List.append_eq_nil_iff.1 e).2)
  refine ⟨b, o + L1.length, by rw [e]; show some (Addr.add _ _) = _; rw [Addr.add_mid, Nat.mul_one], hl, fun k hk => ?_⟩
  obtain ⟨A', c', h1, h2⟩ := hcl (L1.length + k) (by rw [List.length_append]; omega)
  rw [List.getElem_append_right (by omega)] at h1 h2
  simp only [Nat.add_sub_cancel_left] at h1 h2
  exact ⟨A', c', by rw [show o + L1.length + k * 1 = o + (L1.length + k) * 1 by omega]; exact h1, h2⟩
/-! ## inserting -/
/-- before, while it is put together -/
structure InsI (ds : List Nat) (i q : Nat) (B : List Nat) : Prop where
  so : B.Pairwise (Lt 64)
  pe : B.Perm ((ds.take q).filter (fun x => decide (tz x = i)))
theorem InsI.start (ds : List Nat) (i : Nat) : InsI ds i 0 [] := ⟨List.Pairwise.nil, by simp⟩
theorem take_get {ds : List Nat} {q : Nat} (h : q < ds.length) : ds.take (q + 1) = ds.take q ++ [ds.getD q 0] := by
  rw [take_snoc ds h]; simp [List.getD, h]
theorem InsI.skip {ds : List Nat} {i q : Nat} {B : List Nat} (h : InsI ds i q B) (hq : q < ds.length) (ht : ¬ tz (ds.getD q 0) = i) : InsI ds i (q + 1) B := ⟨h.so, by
  rw [take_get hq, List.filter_append]
  have : [ds.getD q 0].filter (fun x => decide (tz x = i)) = [] := by rw [List.filter_cons_of_neg (by simpa using ht)]; rfl
  rw [this, List.append_nil]
  exact h.pe⟩
theorem InsI.mem {ds : List Nat} {i q : Nat} {B : List Nat} (h : InsI ds i q B) {y : Nat} (hy : y ∈ B) : y ∈ ds.take q ∧ tz y = i := by
  have := h.pe.mem_iff.1 hy
  rw [List.mem_filter] at this
  exact ⟨this.1, by simpa using this.2⟩
theorem InsI.new {ds : List Nat} {i q : Nat} {B : List Nat} (h : InsI ds i q B) (hq : q < ds.length) (hn : ds.Nodup) : ¬ ds.getD q 0 ∈ B := fun hm => by
  have h1 := (h.mem hm).1
  have h2 := List.Nodup.sublist (List.take_sublist (q + 1) ds) hn
  rw [take_get hq] at h2
  exact (List.nodup_append.1 h2).2.2 _ h1 _ (List.mem_singleton.2 rfl) rfl
theorem InsI.put {ds : List Nat} {i q k : Nat} {B : List Nat} (h : InsI ds i q B) (hq : q < ds.length) (ht : tz (ds.getD q 0) = i) (hlo : ∀ j (hj : j < B.length), j < k → Lt 64 B[j] (ds.getD q 0)) (hhi : ∀ hk : k < B.length, Lt 64 (ds.getD q 0) B[k]) : InsI ds i (q + 1) (B.take k ++ ([ds.getD q 0] ++ B.drop k)) := by
  have hso := h.so
  rw [← List.take_append_drop k B] at hso
  obtain ⟨s1, s2, s3⟩ := List.pairwise_append.1 hso
  have hd : ∀ y ∈ B.drop k, Lt 64 (ds.getD q 0) y := fun y hy => by
    by_cases hk : k < B.length
    · rw [List.drop_eq_getElem_cons hk] at hy s2
      rcases List.mem_cons.1 hy with rfl | hy
      · exact hhi hk
      · exact (hhi hk).trans ((List.pairwise_cons.1 s2).1 y hy)
    · rw [List.drop_eq_nil_of_le (by omega)] at hy; cases hy
  refine ⟨List.pairwise_append.2 ⟨s1, List.pairwise_cons.2 ⟨hd, s2⟩, fun a ha b hb => ?_⟩, ?_⟩
  · rcases List.mem_cons.1 hb with rfl | hb
    · obtain ⟨j, hj, rfl⟩ := List.mem_iff_getElem.1 ha
      rw [List.length_take] at hj
      rw [List.getElem_take]
      exact hlo j (by omega) (by omega)
    · exact s3 a ha b hb
  · rw [take_get hq, List.filter_append, List.filter_cons_of_pos (by simpa using ht)]
    refine List.Perm.trans ?_ (List.Perm.append_right _ h.pe)
    refine List.Perm.trans (List.perm_middle (l₁ := B.take k) (l₂ := B.drop k)) ?_
    rw [List.take_append_drop]
    exact (List.perm_append_singleton _ _).symm
theorem InsI.done {ds D : List Nat} {i : Nat} {B : List Nat} (h : InsI ds i ds.length B) (hp : D.Perm ds) (hs : D.Pairwise (Lt 64)) : B = D.filter (fun x => decide (tz x = i)) := by
  refine lt_uniq h.so (hs.filter _) ?_
  have := h.pe
  rw [List.take_length] at this
  exact this.trans (hp.symm.filter _)
/-! ## parents, as the reference finds them -/
def bR (M : List Nat) (i j k : Nat) : Bool := decide (pop 64 (M.getD i 0) < pop 64 (M.getD k 0)) && decide (pop 64 (M.getD k 0) < pop 64 (M.getD j 0)) && decide (pop 64 (M.getD i 0 &&& M.getD k 0) = pop 64 (M.getD i 0)) && decide (pop 64 (M.getD k 0 &&& M.getD j 0) = pop 64 (M.getD k 0))
def dirR (M : List Nat) (i j : Nat) : Bool := decide (pop 64 (M.getD i 0) < pop 64 (M.getD j 0)) && !decide (pop 64 (M.getD i 0 &&& M.getD j 0) < pop 64 (M.getD i 0)) && !((List.range M.length).any (bR M i j))
def parR (M : List Nat) (i j : Nat) : List Int := ((List.range j).filter (dirR M i)).map (fun (n : Nat) => (n : Int))
def tyR (O : List (Nat × ByteArray)) (i : Nat) : Ty := ⟨(O.getD i (0, ⟨#[]⟩)).2, parR (O.map Prod.fst) i (O.map Prod.fst).length⟩
def outR (O : List (Nat × ByteArray)) (i : Nat) : List Ty := (List.range i).map (tyR O)
section br
variable {M : List Nat} {i j k : Nat}
end br
end Go.Proofs.YtahdbbgkgokkhaaDoor
