/- The reference's way to complete types: what its walk needs. No program in sight. -/
import Derived.Test.YtahdbbgkgokkhaaDoorRcm
namespace Go.Proofs.YtahdbbgkgokkhaaDoor
open Go.RowKit
section rules
variable {P : Program} {n : Nat} {f : Fr} {w : World} {ty : TypeId} {pos : String} {af : Array Edge} {x y : Operand} {t e : TypeId}
theorem r_slE {dst : Option Tmp} {gd : Option (Nat × Bool)} {A AW : Option Addr} {m c l l2 : Nat} {sz : Nat} (hu : P.underlying t = some (.slice e)) (hs : (P.info? e).map (·.size) = some sz) (hA : (if c = l then A else A.map (·.add (l * sz))) = AW) (hx : ev n f x = .slice A m c) (hy : ev n f y = .int .i64 (l : Int)) (hl : l ≤ m) (h2 : m - l = l2) :
    RV P n f w ⟨dst, .slice t x (some y) none none, ty, pos, af, gd⟩ (.slice AW l2 (c - l)) w := by
  subst hA h2
  exact r_slL hu hs hx hy hl
end rules
/-- slices of ints that lie in the world w0 -/
def RwB (w0 : World) (L : List (List Int)) (vs : List Value) : Prop := vs.length = L.length ∧ ∀ k (hk : k < L.length), ∃ A c, vs[k]? = some (.slice A (L[k]).length c) ∧ IntsIn w0 A L[k]
theorem RwB.nil (w0 : World) : RwB w0 [] [] := ⟨rfl, fun k hk => by simp at hk⟩
theorem RwB.snoc {w0 : World} {L : List (List Int)} {vs : List Value} {xs : List Int} {A : Option Addr} {c : Nat} (h : RwB w0 L vs) (hp : IntsIn w0 A xs) : RwB w0 (L ++ [xs]) (vs ++ [.slice A xs.length c]) := by
  have h1 := h.1
  refine ⟨by simp [h1], fun k hk => ?_⟩
  by_cases e : k < L.length
  · obtain ⟨A2, c2, e1, hp2⟩ := h.2 k e
    exact ⟨A2, c2, by rw [List.getElem?_append_left (by omega), List.getElem_append_left e]; exact e1, by rw [List.getElem_append_left e]; exact hp2⟩
  · have e2 : k = L.length := by simp at hk; omega
    subst e2
    refine ⟨A, c, ?_, ?_⟩
    · rw [List.getElem?_append_right (by omega), h1, Nat.sub_self]; simp
    · simpa using hp
theorem RwB.one {w0 : World} {L : List (List Int)} {vs : List Value} (h : RwB w0 L vs) : ∀ v ∈ vs, v.oneCell' = true := fun v hv => by
  obtain ⟨k, hk, rfl⟩ := List.mem_iff_getElem.1 hv
  obtain ⟨A, c, e1, _⟩ := h.2 k (by rw [← h.1]; exact hk)
  rw [List.getElem?_eq_getElem hk] at e1
  rw [Option.some.inj e1]; rfl
theorem RwB.ins {w0 : World} {L : List (List Int)} {vs : List Value} {xs : List Int} {A : Option Addr} {c k : Nat} (h : RwB w0 L vs) (hp : IntsIn w0 A xs) (hk : k ≤ L.length) : RwB w0 (L.take k ++ ([xs] ++ L.drop k)) (vs.take k ++ ([.slice A xs.length c] ++ vs.drop k)) := by
  have h1 := h.1
  have t1 : (vs.take k).length = k := by rw [List.length_take]; omega
  have t2 : (L.take k).length = k := by rw [List.length_take]; omega
  refine ⟨by simp [h1], fun q hq => ?_⟩
  have hq2 : q < L.length + 1 := by simp at hq; omega
  rcases Nat.lt_trichotomy q k with e | e | e
  · obtain ⟨A2, c2, e1, hp2⟩ := h.2 q (by omega)
    refine ⟨A2, c2, ?_, ?_⟩
    · rw [List.getElem?_append_left (by omega), List.getElem?_take_of_lt e, List.getElem_append_left (by omega), List.getElem_take]; exact e1
    · rw [List.getElem_append_left (by omega), List.getElem_take]; exact hp2
  · subst e
    refine ⟨A, c, ?_, ?_⟩
    · rw [List.getElem?_append_right (by omega), t1, Nat.sub_self, List.getElem_append_right (by omega)]; simp [t2]
    · rw [List.getElem_append_right (by omega)]; simp [t2]; exact hp
  · obtain ⟨A2, c2, e1, hp2⟩ := h.2 (q - 1) (by omega)
    have e5 : (L.take k ++ ([xs] ++ L.drop k))[q] = L[q - 1] := by
      rw [List.getElem_append_right (by omega)]
      simp only [t2]
      rw [List.getElem_append_right (by simp; omega)]
      simp only [List.length_cons, List.length_nil, List.getElem_drop]
      congr 1; omega
    refine ⟨A2, c2, ?_, by rw [e5]; exact hp2⟩
    rw [e5, List.getElem?_append_right (by omega), t1, List.getElem?_append_right (by simp; omega), List.getElem?_drop]
    simp only [List.length_cons, List.length_nil]
    rw [show k + (q - k - (0 + 1)) = q - 1 by omega]
    exact e1
theorem mat_ownB {w0 w : World} {base n cap : Nat} {A : Option Addr} {L : List (List Int)} {vs : List Value} (ho : Own w base 33 1 A n cap vs) (h : RwB w0 L vs) (hb : Bel w0 w) : MatIn w A L := by
  have h1 := h.1
  have h2 := ho.len
  refine ⟨by have := ho.max; unfold maxI; omega, fun hn => ?_⟩
  have hp := List.length_pos_iff.2 hn
  obtain ⟨g, e, _, hl, hc⟩ := ho.cell (fun e => by rw [e] at h1; simp at h1; omega)
  refine ⟨g, 0, e, hl, fun k hk => ?_⟩
  obtain ⟨A', c, e1, hpr⟩ := h.2 k hk
  refine ⟨A', c, ?_, hpr.mono hb⟩
  rw [Nat.zero_add, Nat.mul_one]
  exact hc _ _ e1
theorem MatIn.drop {w : World} {A : Option Addr} {L1 L2 : List (List Int)} {c n : Nat} (h : MatIn w A (L1 ++ L2)) (hn : L1.length = n) (hc : n + L2.length ≤ c) : ∃ AW, (if c = n then A else A.map (·.add (n * 1))) = AW ∧ MatIn w AW L2 := by
  subst hn
  refine ⟨_, rfl, by have := h.1; rw [List.length_append] at this; omega, fun hne => ?_⟩
  have hp := List.length_pos_iff.2 hne
  rw [if_neg (by omega)]
  obtain ⟨b, o, e, hl, hcl⟩ := h.2 (by intro e; exact hne (List.append_eq_nil_iff.1 e).2)
  refine ⟨b, o + L1.length, by rw [e]; show some (Addr.add _ _) = _; rw [Addr.add_mid, Nat.mul_one], hl, fun k hk => ?_⟩
  obtain ⟨A', c', h1, h2⟩ := hcl (L1.length + k) (by rw [List.length_append]; omega)
  rw [List.getElem_append_right (by omega)] at h1 h2
  simp only [Nat.add_sub_cancel_left] at h1 h2
  exact ⟨A', c', by rw [show o + L1.length + k * 1 = o + (L1.length + k) * 1 by omega]; exact h1, h2⟩
theorem MatIn.at2 {w : World} {A : Option Addr} {L : List (List Int)} (h : MatIn w A L) {k : Nat} (hk : k < L.length) :
    ∃ b o A' c, A = some ⟨b, o, none⟩ ∧ b < w.heap.size ∧ w.cell? ⟨b, o + k * 1, none⟩ = some (.slice A' (L[k]).length c) ∧ IntsIn w A' L[k] := by
  obtain ⟨b, o, e, hl, hc⟩ := h.2 (by rintro rfl; simp at hk)
  obtain ⟨A', c, h1, h2⟩ := hc k hk
  exact ⟨b, o, A', c, e, hl, h1, h2⟩
theorem msL_app (S T : List Nat) : msL (S ++ T) = msL S ++ msL T := by simp [msL]
theorem RwT.trT {lo hi : Nat} {w w' : World} {l : List Ty} {vs : List Value} {X : List Nat} (h : RwT lo hi w l vs) (hs : Same X w w') (hx : ∀ g ∈ X, hi ≤ g ∨ ∃ cs t, Blk w g t cs ∧ t ≠ 3) : RwT lo hi w' l vs :=
  ⟨h.1, fun k hk => by obtain ⟨A, c, e1, e2, hp⟩ := h.2 k hk; exact ⟨A, c, e1, e2, hp.trT hs hx⟩⟩
theorem types_ownR {w : World} {base lo hi cap n : Nat} {A : Option Addr} {l : List Ty} {vs : List Value} (ho : Own w base 35 2 A n cap vs) (h : RwT lo hi w l vs) (hn : n = l.length) : TypesIn w A l := by
  subst hn
  refine ⟨by have := ho.max; unfold maxI; omega, fun hn => ?_⟩
  have hp := List.length_pos_iff.2 hn
  have h1 := h.1
  obtain ⟨g, e, _, hlt, hc⟩ := ho.cell (fun e => by rw [e] at h1; simp at h1; omega)
  refine ⟨g, 0, e, hlt, fun k hk => ?_⟩
  obtain ⟨A', c, e1, e2, hp⟩ := h.2 k hk
  refine ⟨A', c, fun j v hj => ?_, hp.ints⟩
  rw [Nat.zero_add]
  match j with
  | 0 => rw [Nat.add_zero]; cases hj; exact hc _ _ e1
  | 1 => cases hj; exact hc _ _ e2
  | j + 2 => cases hj
/-! ## inserting -/
def insP (B : List Nat) (k x : Nat) : Bool := decide (k < B.length) && (decide (pop 64 x < pop 64 (B.getD k 0)) || (decide (pop 64 (B.getD k 0) = pop 64 x) && decide (cmpL (lst 64 (B.getD k 0)) (lst 64 x) < 0)))
theorem cmpJ_ls (x y : Nat) : cmpJ (lsI x) (lsI y) = cmpL (lst 64 x) (lst 64 y) := cmpJ_nat _ _
theorem ip0 {B : List Nat} {k x : Nat} (h : ¬ (k : Int) < ((B.length : Nat) : Int)) : Value.bool false = .bool (decide (insP B k x = true)) := by
  have : ¬ k < B.length := by omega
  simp [insP, this]
theorem ip1 {B : List Nat} {k x : Nat} (h : (k : Int) < ((B.length : Nat) : Int)) (h2 : (((lsI x).length : Nat) : Int) < (((lsI (B.getD k 0)).length : Nat) : Int)) : Value.bool true = .bool (decide (insP B k x = true)) := by
  rw [lsI_len, lsI_len] at h2
  have h3 : k < B.length := by omega
  have h4 : pop 64 x < pop 64 (B.getD k 0) := by omega
  unfold insP
  rw [decide_eq_true h3, decide_eq_true h4]; rfl
theorem ip2 {B : List Nat} {k x : Nat} (h2 : ¬ (((lsI x).length : Nat) : Int) < (((lsI (B.getD k 0)).length : Nat) : Int)) (h3 : ¬ (((lsI (B.getD k 0)).length : Nat) : Int) = (((lsI x).length : Nat) : Int)) : Value.bool false = .bool (decide (insP B k x = true)) := by
  rw [lsI_len, lsI_len] at h2 h3
  have h4 : ¬ pop 64 x < pop 64 (B.getD k 0) := by omega
  have h5 : ¬ pop 64 (B.getD k 0) = pop 64 x := by omega
  unfold insP
  rw [decide_eq_false h4, decide_eq_false h5]; simp
theorem ip3 {B : List Nat} {k x : Nat} (h : (k : Int) < ((B.length : Nat) : Int)) (h2 : ¬ (((lsI x).length : Nat) : Int) < (((lsI (B.getD k 0)).length : Nat) : Int)) (h3 : (((lsI (B.getD k 0)).length : Nat) : Int) = (((lsI x).length : Nat) : Int)) : Value.bool (decide (cmpJ (lsI (B.getD k 0)) (lsI x) < 0)) = .bool (decide (insP B k x = true)) := by
  rw [lsI_len, lsI_len] at h2 h3
  have h1 : k < B.length := by omega
  have h4 : ¬ pop 64 x < pop 64 (B.getD k 0) := by omega
  have h5 : pop 64 (B.getD k 0) = pop 64 x := by omega
  unfold insP
  rw [decide_eq_true h1, decide_eq_false h4, decide_eq_true h5, cmpJ_ls]
  simp
theorem insP_lt {B : List Nat} {k x : Nat} (h : insP B k x = true) (hb : ∀ y ∈ B, y < 18446744073709551616) (hx : x < 18446744073709551616) (ht : ∀ y ∈ B, tz y = tz x) (hn : ¬ x ∈ B) : ∃ hk : k < B.length, Lt 64 B[k] x := by
  unfold insP at h
  simp only [Bool.and_eq_true, Bool.or_eq_true, decide_eq_true_eq] at h
  obtain ⟨h1, h2⟩ := h
  have e : B.getD k 0 = B[k] := by simp [List.getD, h1]
  rw [e] at h2
  have hm := List.getElem_mem h1
  exact ⟨h1, (ref_lt (hi64 (hb _ hm)) (hi64 hx) (ht _ hm) (fun e => hn (by rw [← e]; exact hm))).1 h2⟩
theorem insP_no {B : List Nat} {k x : Nat} (h : ¬ insP B k x = true) (hk : k < B.length) (hb : ∀ y ∈ B, y < 18446744073709551616) (hx : x < 18446744073709551616) (ht : ∀ y ∈ B, tz y = tz x) (hn : ¬ x ∈ B) : Lt 64 x B[k] := by
  have e : B.getD k 0 = B[k] := by simp [List.getD, hk]
  have hm := List.getElem_mem hk
  have hne : B[k] ≠ x := fun e => hn (by rw [← e]; exact hm)
  rcases lt_or (n := 64) (hi64 (hb _ hm)) (hi64 hx) with h1 | h1 | h1
  · exact absurd h1 hne
  · refine absurd ?_ h
    have h2 := (ref_lt (hi64 (hb _ hm)) (hi64 hx) (ht _ hm) hne).2 h1
    unfold insP
    rw [e]
    simp only [Bool.and_eq_true, Bool.or_eq_true, decide_eq_true_eq]
    exact ⟨hk, h2⟩
  · exact h1
/-- before, while it is put together -/
structure InsI (ds : List Nat) (i q : Nat) (B : List Nat) : Prop where
  so : B.Pairwise (Lt 64)
  pe : B.Perm ((ds.take q).filter (fun x => decide (tz x = i)))
theorem InsI.start (ds : List Nat) (i : Nat) : InsI ds i 0 [] := ⟨List.Pairwise.nil, by simp⟩
theorem take_get {ds : List Nat} {q : Nat} (h : q < ds.length) : ds.take (q + 1) = ds.take q ++ [ds.getD q 0] := by
  rw [take_snoc ds h]; simp [List.getD, h]
theorem InsI.skip {ds : List Nat} {i q : Nat} {B : List Nat} (h : InsI ds i q B) (hq : q < ds.length) (ht : ¬ tz (ds.getD q 0) = i) : InsI ds i (q + 1) B := ⟨h.so, by
  rw [take_get hq, List.filter_append]
  have : [ds.getD q 0].filter (fun x => decide (tz x = i)) = [] := by rw [List.filter_cons_of_neg (by simpa using ht)]; rfl
  rw [this, List.append_nil]
  exact h.pe⟩
theorem InsI.mem {ds : List Nat} {i q : Nat} {B : List Nat} (h : InsI ds i q B) {y : Nat} (hy : y ∈ B) : y ∈ ds.take q ∧ tz y = i := by
  have := h.pe.mem_iff.1 hy
  rw [List.mem_filter] at this
  exact ⟨this.1, by simpa using this.2⟩
theorem InsI.new {ds : List Nat} {i q : Nat} {B : List Nat} (h : InsI ds i q B) (hq : q < ds.length) (hn : ds.Nodup) : ¬ ds.getD q 0 ∈ B := fun hm => by
  have h1 := (h.mem hm).1
  have h2 := List.Nodup.sublist (List.take_sublist (q + 1) ds) hn
  rw [take_get hq] at h2
  exact (List.nodup_append.1 h2).2.2 _ h1 _ (List.mem_singleton.2 rfl) rfl
theorem InsI.put {ds : List Nat} {i q k : Nat} {B : List Nat} (h : InsI ds i q B) (hq : q < ds.length) (ht : tz (ds.getD q 0) = i) (hlo : ∀ j (hj : j < B.length), j < k → Lt 64 B[j] (ds.getD q 0)) (hhi : ∀ hk : k < B.length, Lt 64 (ds.getD q 0) B[k]) : InsI ds i (q + 1) (B.take k ++ ([ds.getD q 0] ++ B.drop k)) := by
  have hso := h.so
  rw [← List.take_append_drop k B] at hso
  obtain ⟨s1, s2, s3⟩ := List.pairwise_append.1 hso
  have hd : ∀ y ∈ B.drop k, Lt 64 (ds.getD q 0) y := fun y hy => by
    by_cases hk : k < B.length
    · rw [List.drop_eq_getElem_cons hk] at hy s2
      rcases List.mem_cons.1 hy with rfl | hy
      · exact hhi hk
      · exact (hhi hk).trans ((List.pairwise_cons.1 s2).1 y hy)
    · rw [List.drop_eq_nil_of_le (by omega)] at hy; cases hy
  refine ⟨List.pairwise_append.2 ⟨s1, List.pairwise_cons.2 ⟨hd, s2⟩, fun a ha b hb => ?_⟩, ?_⟩
  · rcases List.mem_cons.1 hb with rfl | hb
    · obtain ⟨j, hj, rfl⟩ := List.mem_iff_getElem.1 ha
      rw [List.length_take] at hj
      rw [List.getElem_take]
      exact hlo j (by omega) (by omega)
    · exact s3 a ha b hb
  · rw [take_get hq, List.filter_append, List.filter_cons_of_pos (by simpa using ht)]
    refine List.Perm.trans ?_ (List.Perm.append_right _ h.pe)
    refine List.Perm.trans (List.perm_middle (l₁ := B.take k) (l₂ := B.drop k)) ?_
    rw [List.take_append_drop]
    exact (List.perm_append_singleton _ _).symm
theorem InsI.done {ds D : List Nat} {i : Nat} {B : List Nat} (h : InsI ds i ds.length B) (hp : D.Perm ds) (hs : D.Pairwise (Lt 64)) : B = D.filter (fun x => decide (tz x = i)) := by
  refine lt_uniq h.so (hs.filter _) ?_
  have := h.pe
  rw [List.take_length] at this
  exact this.trans (hp.symm.filter _)
theorem filt_split {D : List Nat} (h : D.Pairwise (Lt 64)) (i : Nat) : D.filter (fun x => decide (i ≤ tz x)) = D.filter (fun x => decide (tz x = i)) ++ D.filter (fun x => decide (i + 1 ≤ tz x)) := by
  induction D with
  | nil => rfl
  | cons x D ih =>
    obtain ⟨h1, h2⟩ := List.pairwise_cons.1 h
    have h3 : ∀ y ∈ D, tz x ≤ tz y := fun y hy => by rcases h1 y hy with e | e <;> omega
    rcases Nat.lt_trichotomy (tz x) i with e | e | e
    · rw [List.filter_cons_of_neg (by simp; omega), List.filter_cons_of_neg (by simp; omega), List.filter_cons_of_neg (by simp; omega), ih h2]
    · rw [List.filter_cons_of_pos (by simp; omega), List.filter_cons_of_pos (by simp; omega), List.filter_cons_of_neg (by simp; omega), ih h2]; rfl
    · have e1 : D.filter (fun y => decide (tz y = i)) = [] := by
        rw [List.filter_eq_nil_iff]; intro y hy; have := h3 y hy; simp; omega
      rw [List.filter_cons_of_pos (by simp; omega), List.filter_cons_of_neg (by simp; omega), List.filter_cons_of_pos (by simp; omega), ih h2, e1]; rfl
theorem filt_all (D : List Nat) : D.filter (fun x => decide (0 ≤ tz x)) = D := by rw [List.filter_eq_self]; intro x _; simp
/-! ## parents, as the reference finds them -/
def bR (M : List Nat) (i j k : Nat) : Bool := decide (pop 64 (M.getD i 0) < pop 64 (M.getD k 0)) && decide (pop 64 (M.getD k 0) < pop 64 (M.getD j 0)) && decide (pop 64 (M.getD i 0 &&& M.getD k 0) = pop 64 (M.getD i 0)) && decide (pop 64 (M.getD k 0 &&& M.getD j 0) = pop 64 (M.getD k 0))
def dirR (M : List Nat) (i j : Nat) : Bool := decide (pop 64 (M.getD i 0) < pop 64 (M.getD j 0)) && !decide (pop 64 (M.getD i 0 &&& M.getD j 0) < pop 64 (M.getD i 0)) && !((List.range M.length).any (bR M i j))
def parR (M : List Nat) (i j : Nat) : List Int := ((List.range j).filter (dirR M i)).map (fun (n : Nat) => (n : Int))
theorem parR_yes {M : List Nat} {i j : Nat} (h : dirR M i j = true) : parR M i (j + 1) = parR M i j ++ [(j : Int)] := by
  unfold parR; rw [List.range_succ, List.filter_append, List.map_append]; simp [h]
theorem parR_no {M : List Nat} {i j : Nat} (h : dirR M i j = false) : parR M i (j + 1) = parR M i j := by
  unfold parR; rw [List.range_succ, List.filter_append, List.map_append]; simp [h]
theorem parR_le (M : List Nat) (i j : Nat) : (parR M i j).length ≤ j := by
  unfold parR
  rw [List.length_map]
  exact Nat.le_trans (List.length_filter_le ..) (by simp)
def tyR (O : List (Nat × ByteArray)) (i : Nat) : Ty := ⟨(O.getD i (0, ⟨#[]⟩)).2, parR (O.map Prod.fst) i (O.map Prod.fst).length⟩
def outR (O : List (Nat × ByteArray)) (i : Nat) : List Ty := (List.range i).map (tyR O)
theorem outR_succ (O : List (Nat × ByteArray)) (i : Nat) : outR O (i + 1) = outR O i ++ [tyR O i] := by unfold outR; rw [List.range_succ, List.map_append]; rfl
theorem outR_len (O : List (Nat × ByteArray)) (i : Nat) : (outR O i).length = i := by simp [outR]
section br
variable {M : List Nat} {i j k : Nat}
theorem br1 (h : ¬ (((lsI (M.getD i 0)).length : Nat) : Int) < (((lsI (M.getD k 0)).length : Nat) : Int)) : bR M i j k = false := by
  rw [lsI_len, lsI_len] at h
  have : ¬ pop 64 (M.getD i 0) < pop 64 (M.getD k 0) := by omega
  unfold bR; rw [decide_eq_false this]; rfl
theorem br2 (h : ¬ (((lsI (M.getD k 0)).length : Nat) : Int) < (((lsI (M.getD j 0)).length : Nat) : Int)) : bR M i j k = false := by
  rw [lsI_len, lsI_len] at h
  have : ¬ pop 64 (M.getD k 0) < pop 64 (M.getD j 0) := by omega
  unfold bR; rw [decide_eq_false this]; simp
theorem br3 (h : ¬ (((lsI (M.getD i 0 &&& M.getD k 0)).length : Nat) : Int) = (((lsI (M.getD i 0)).length : Nat) : Int)) : bR M i j k = false := by
  rw [lsI_len, lsI_len] at h
  have : ¬ pop 64 (M.getD i 0 &&& M.getD k 0) = pop 64 (M.getD i 0) := by omega
  unfold bR; rw [decide_eq_false this]; simp
theorem br4 (h : ¬ (((lsI (M.getD k 0 &&& M.getD j 0)).length : Nat) : Int) = (((lsI (M.getD k 0)).length : Nat) : Int)) : bR M i j k = false := by
  rw [lsI_len, lsI_len] at h
  have : ¬ pop 64 (M.getD k 0 &&& M.getD j 0) = pop 64 (M.getD k 0) := by omega
  unfold bR; rw [decide_eq_false this]; simp
theorem brY (h1 : (((lsI (M.getD i 0)).length : Nat) : Int) < (((lsI (M.getD k 0)).length : Nat) : Int)) (h2 : (((lsI (M.getD k 0)).length : Nat) : Int) < (((lsI (M.getD j 0)).length : Nat) : Int)) (h3 : (((lsI (M.getD i 0 &&& M.getD k 0)).length : Nat) : Int) = (((lsI (M.getD i 0)).length : Nat) : Int)) (h4 : (((lsI (M.getD k 0 &&& M.getD j 0)).length : Nat) : Int) = (((lsI (M.getD k 0)).length : Nat) : Int)) : bR M i j k = true := by
  rw [lsI_len, lsI_len] at h1 h2 h3 h4
  unfold bR
  rw [decide_eq_true (by omega), decide_eq_true (by omega), decide_eq_true (by omega), decide_eq_true (by omega)]; rfl
theorem dr1 (h : (((lsI (M.getD j 0)).length : Nat) : Int) ≤ (((lsI (M.getD i 0)).length : Nat) : Int)) : dirR M i j = false := by
  rw [lsI_len, lsI_len] at h
  have : ¬ pop 64 (M.getD i 0) < pop 64 (M.getD j 0) := by omega
  unfold dirR; rw [decide_eq_false this]; rfl
theorem dr2 (h : (((lsI (M.getD i 0 &&& M.getD j 0)).length : Nat) : Int) < (((lsI (M.getD i 0)).length : Nat) : Int)) : dirR M i j = false := by
  rw [lsI_len, lsI_len] at h
  unfold dirR; rw [decide_eq_true (show pop 64 (M.getD i 0 &&& M.getD j 0) < pop 64 (M.getD i 0) by omega)]; simp
theorem dr3 (h : (List.range M.length).any (bR M i j) = true) : dirR M i j = false := by unfold dirR; rw [h]; simp
theorem drY (h1 : ¬ (((lsI (M.getD j 0)).length : Nat) : Int) ≤ (((lsI (M.getD i 0)).length : Nat) : Int)) (h2 : ¬ (((lsI (M.getD i 0 &&& M.getD j 0)).length : Nat) : Int) < (((lsI (M.getD i 0)).length : Nat) : Int)) (h3 : (List.range M.length).any (bR M i j) = false) : dirR M i j = true := by
  rw [lsI_len, lsI_len] at h1 h2
  unfold dirR
  rw [h3, decide_eq_true (show pop 64 (M.getD i 0) < pop 64 (M.getD j 0) by omega), decide_eq_false (show ¬ pop 64 (M.getD i 0 &&& M.getD j 0) < pop 64 (M.getD i 0) by omega)]; rfl
end br
end Go.Proofs.YtahdbbgkgokkhaaDoor
