/- What these functions of the program compute, at every world: glosswright/glosswrightref3.Sub. -/
import Derived.Test.YtahdbbgkgokkhaaDoorTypesFault
namespace Go.Proofs.YtahdbbgkgokkhaaDoor
open Go.RowKit
/-! ## subtypes -/
def parN (l : List Ty) (i : Nat) : List Nat := match l[i]? with
  | none => []
  | some t => t.par.map Int.toNat
def subF (l : List Ty) : Nat → Nat → Nat → Bool
  | 0, a, b => decide (a = b)
  | f + 1, a, b => decide (a = b) || (parN l a).any (fun p => subF l f p b)
def sub (l : List Ty) (a b : Nat) : Bool := subF l a a b
/-- parents are smaller -/
def VT (l : List Ty) : Prop := ∀ i (h : i < l.length), ∀ p ∈ (l[i]).par, 0 ≤ p ∧ p < (i : Int)
theorem VT.par {l : List Ty} (h : VT l) {a p : Nat} (hp : p ∈ parN l a) : p < a := by
  unfold parN at hp
  by_cases ha : a < l.length
  · rw [List.getElem?_eq_getElem ha] at hp
    simp only [List.mem_map] at hp
    obtain ⟨q, hq, rfl⟩ := hp
    have := h a ha q hq
    omega
  · rw [List.getElem?_eq_none (by omega)] at hp; cases hp
theorem any_congr' {α : Type} {l : List α} {p q : α → Bool} (h : ∀ x ∈ l, p x = q x) : l.any p = l.any q := by
  induction l with
  | nil => rfl
  | cons a r ih =>
    simp only [List.any_cons]
    rw [h a (by simp), ih (fun x hx => h x (by simp [hx]))]
theorem subF_fuel {l : List Ty} (hv : VT l) (b : Nat) : ∀ (n a : Nat), a ≤ n → ∀ f, a ≤ f → subF l f a b = subF l a a b := by
  intro n
  induction n with
  | zero =>
    intro a ha f hf
    have : a = 0 := by omega
    subst this
    have hp : parN l 0 = [] := by
      cases h : parN l 0 with
      | nil => rfl
      | cons p r => exact absurd (hv.par (a := 0) (p := p) (by rw [h]; simp)) (by omega)
    cases f <;> simp [subF, hp]
  | succ n ih =>
    intro a ha f hf
    cases a with
    | zero => exact ih 0 (by omega) f (by omega)
    | succ a =>
      cases f with
      | zero => omega
      | succ f =>
        simp only [subF]
        congr 1
        apply any_congr'
        intro p hp
        have := hv.par hp
        rw [ih p (by omega) f (by omega), ih p (by omega) a (by omega)]
theorem sub_eq {l : List Ty} (hv : VT l) (a b : Nat) : sub l a b = (decide (a = b) || (parN l a).any (fun p => sub l p b)) := by
  unfold sub
  cases a with
  | zero =>
    have hp : parN l 0 = [] := by
      cases h : parN l 0 with
      | nil => rfl
      | cons p r => exact absurd (hv.par (a := 0) (p := p) (by rw [h]; simp)) (by omega)
    simp [subF, hp]
  | succ a =>
    conv => lhs; unfold subF
    congr 1
    apply any_congr'
    intro p hp
    have := hv.par hp
    rw [subF_fuel hv b (a + 1) p (by omega) a (by omega)]
theorem sub_refl {l : List Ty} (hv : VT l) (a : Nat) : sub l a a = true := by rw [sub_eq hv]; simp
theorem sub_iff {l : List Ty} (hv : VT l) (a b : Nat) : sub l a b = true ↔ a = b ∨ ∃ p ∈ parN l a, sub l p b = true := by
  rw [sub_eq hv]; simp
theorem sub_le {l : List Ty} (hv : VT l) : ∀ (n a b : Nat), a ≤ n → sub l a b = true → b ≤ a := by
  intro n
  induction n with
  | zero =>
    intro a b ha h
    rcases (sub_iff hv a b).1 h with rfl | ⟨p, hp, _⟩
    · omega
    · have := hv.par hp; omega
  | succ n ih =>
    intro a b ha h
    rcases (sub_iff hv a b).1 h with rfl | ⟨p, hp, hs⟩
    · omega
    · have := hv.par hp
      have := ih p b (by omega) hs
      omega
theorem sub_le' {l : List Ty} (hv : VT l) {a b : Nat} (h : sub l a b = true) : b ≤ a := sub_le hv a a b (Nat.le_refl _) h
theorem sub_trans {l : List Ty} (hv : VT l) (c : Nat) : ∀ (n a b : Nat), a ≤ n → sub l a b = true → sub l b c = true → sub l a c = true := by
  intro n
  induction n with
  | zero =>
    intro a b ha h h2
    rcases (sub_iff hv a b).1 h with rfl | ⟨p, hp, _⟩
    · exact h2
    · have := hv.par hp; omega
  | succ n ih =>
    intro a b ha h h2
    rcases (sub_iff hv a b).1 h with rfl | ⟨p, hp, hs⟩
    · exact h2
    · have := hv.par hp
      exact (sub_iff hv a c).2 (.inr ⟨p, hp, ih p b (by omega) hs h2⟩)
theorem sub_tr {l : List Ty} (hv : VT l) {a b c : Nat} (h : sub l a b = true) (h2 : sub l b c = true) : sub l a c = true := sub_trans hv c a a b (Nat.le_refl _) h h2
theorem sub_par {l : List Ty} (hv : VT l) {i : Nat} (hi : i < l.length) {p : Int} (hp : p ∈ (l[i]).par) : sub l i p.toNat = true := by
  refine (sub_iff hv i _).2 (.inr ⟨p.toNat, ?_, sub_refl hv _⟩)
  simp only [parN, List.getElem?_eq_getElem hi, List.mem_map]
  exact ⟨p, hp, rfl⟩
/-- the marks of one node's parents -/
def parB (ps : List Int) (x : Nat) : Bool := ps.any (fun p => decide (p = (x : Int)))
theorem parB_iff (ps : List Int) (x : Nat) : parB ps x = true ↔ (x : Int) ∈ ps := by simp [parB]
theorem parB_snoc (ps : List Int) {j : Nat} (hj : j < ps.length) (x : Nat) : parB (ps.take (j + 1)) x = (parB (ps.take j) x || decide (ps[j] = (x : Int))) := by
  simp only [parB]
  rw [List.take_succ_eq_append_getElem hj, List.any_append]
  simp
/-- what the reference's marks say at number i, and the step to i - 1 -/
structure Marks (l : List Ty) (a i : Nat) (mk : Nat → Bool) : Prop where
  ok : ∀ j, mk j = true → sub l a j = true
  all : ∀ c, c ≤ i → sub l a c = true → ∃ j, j ≤ i ∧ mk j = true ∧ sub l j c = true
theorem Marks.start {l : List Ty} (hv : VT l) (a : Nat) : Marks l a a (fun j => if j = a then true else false) :=
  ⟨fun j h => by
    by_cases e : j = a
    · subst e; exact sub_refl hv _
    · simp [e] at h, fun c _ h => ⟨a, Nat.le_refl _, by simp, h⟩⟩
theorem Marks.yes {l : List Ty} (hv : VT l) {a i : Nat} {mk : Nat → Bool} (h : Marks l a i mk) (hi : i < l.length) (hm : mk i = true) : Marks l a (i - 1) (fun x => mk x || parB (l[i]).par x) :=
  ⟨fun j hj => by
    simp only [Bool.or_eq_true] at hj
    rcases hj with hj | hj
    · exact h.ok j hj
    · have := sub_par hv hi ((parB_iff _ _).1 hj)
      simp only [Int.toNat_natCast] at this
      exact sub_tr hv (h.ok i hm) this, fun c hc hs => by
    by_cases hi0 : i = 0
    · subst hi0
      obtain ⟨j, hj, h1, h2⟩ := h.all c (by omega) hs
      exact ⟨j, by omega, by simp [h1], h2⟩
    obtain ⟨j, hj, h1, h2⟩ := h.all c (by omega) hs
    by_cases e : j = i
    · subst e
      rcases (sub_iff hv j c).1 h2 with rfl | ⟨p, hp, hps⟩
      · omega
      · have hlt := hv.par hp
        refine ⟨p, by omega, ?_, hps⟩
        simp only [parN, List.getElem?_eq_getElem hi, List.mem_map] at hp
        obtain ⟨q, hq, rfl⟩ := hp
        have := hv j hi q hq
        have hq' : ((q.toNat : Nat) : Int) ∈ (l[j]).par := by rw [Int.toNat_of_nonneg this.1]; exact hq
        simp only [Bool.or_eq_true]
        exact .inr ((parB_iff _ _).2 hq')
    · exact ⟨j, by omega, by simp [h1], h2⟩⟩
theorem Marks.no {l : List Ty} {a i : Nat} {mk : Nat → Bool} (h : Marks l a i mk) (hm : mk i = false) : Marks l a (i - 1) mk :=
  ⟨h.ok, fun c hc hs => by
    obtain ⟨j, hj, h1, h2⟩ := h.all c (by omega) hs
    by_cases e : j = i
    · subst e; rw [hm] at h1; cases h1
    · exact ⟨j, by omega, h1, h2⟩⟩
theorem Marks.end_ {l : List Ty} (hv : VT l) {a b i : Nat} {mk : Nat → Bool} (h : Marks l a i mk) (hi : i ≤ b) (hb : b ≤ a → b ≤ i) : mk b = sub l a b := by
  cases hs : sub l a b
  · cases hm : mk b
    · rfl
    · rw [h.ok b hm] at hs; cases hs
  · have hle := sub_le' hv hs
    have hib : i = b := Nat.le_antisymm hi (hb hle)
    subst hib
    obtain ⟨j, hj, h1, h2⟩ := h.all i (Nat.le_refl _) hs
    have := sub_le' hv h2
    have : j = i := by omega
    subst this; exact h1

theorem in4 : (Tryd.prog.info? 4).map (fun i => (i.zero, i.size, i.bytes)) = some (some (.bool false), 1, 1) := by kernel_rfl
theorem sz4 : (Tryd.prog.info? 4).map (·.size) = some 1 := by kernel_rfl
theorem sub_any (A : Option Addr) (c : Nat) (l : List Ty) (a b : Nat) (w : World) (hT : TypesIn w A l) (hv : VT l) (h60 : l.length ≤ 60) (ha : a < l.length) (hb : b < l.length) : Calls Tryd.prog 9 #[.slice A l.length c, .int .i64 a, .int .i64 b] w fun e w' => e = .returned (.bool (sub l a b)) ∧ Bel w w' := by
 have hmx := hT.1
 unfold maxI at hmx
 refine enter Tryd.func9 Tryd.ntmps9 rfl (Nat.le_of_ble_eq_true rfl) ?_
 have hB : Bel w w := Below.refl _ _
 refine c_seq ?_
 refine c_region ?_
 refine wl (r_as (v := .bool _) rfl) ?_
 refine x_nil ?_
 refine e_S ?_
 refine c_seq ?_
 refine c_region ?_
 refine wl (r_mv (v := .slice _ _ _) rfl) ?_
 refine wl (r_len Tryd.underlying22 rfl) ?_
 refine wl_mkR (m := l.length) Tryd.underlying37 in4 rfl rfl rfl (by omega) hmx (fun b13 w1 hb13 hs hr => ?_)
 have lo13 := Nat.le_trans (Bel.size hB) hr
 replace hB := hB.tr0 hs
 clear hs
 clear hr
 refine wl (r_as (v := .slice _ _ _) rfl) ?_
 refine x_nil ?_
 refine e_S ?_
 refine c_seq ?_
 refine c_region ?_
 refine wl (r_mv (v := .slice _ _ _) rfl) ?_
 refine wl (r_mv (v := .int _ _) rfl) ?_
 refine wl (r_ia (i := a) Tryd.underlying37 sz4 rfl rfl (by omega) rfl) ?_
 refine wl_st1 (v := .bool _) hb13 rfl rfl sz4 (by rw [row_size]; omega) rfl row_set (fun w2 hq hs => ?_)
 replace hB := hB.tr1 hs lo13
 clear hs
 replace hb13 := hq
 refine x_nil ?_
 refine e_S ?_
 refine c_seq ?_
 refine c_seq ?_
 have hb13' : Blk w2 b13 4 (row l.length (fun j => .bool (if j = a then true else false))) := by
   rw [show (row l.length (fun j => Value.bool (if j = a then true else false))) = row l.length (fun j => if j = a then Value.bool true else Value.bool false) from row_congr (fun j _ => by split <;> rfl)]
   exact hb13
 refine c_region ?_
 refine wl (r_mv (v := .int _ _) rfl) ?_
 refine wl (r_as (v := .int _ _) rfl) ?_
 refine x_nil ?_
 refine e_S ?_
 refine c_block ?_
 refine c_loopS [8, 10, 18, 19, 20, 21, 22, 23, 24, 25, 26, 27, 28, 29, 30, 31, 32, 33, 34, 35, 36, 37, 38, 39, 40] (fun m g w' => ∃ (i : Nat) (mk : Nat → Bool), i ≤ a ∧ m = i ∧ g 8 = .int .i64 i ∧ (b ≤ a → b ≤ i) ∧ Bel w w' ∧ Blk w' b13 4 (row l.length (fun j => .bool (mk j))) ∧ Marks l a i mk) (a) ?_ (fun m g4 w3 hI => ?_)
 ·
  exact ⟨a, _, Nat.le_refl _, rfl, rfl, fun h => h, hB, hb13', Marks.start hv a⟩
 obtain ⟨i, mk, hi, hm, h8, hbi, hB, hb13, hM⟩ := hI
 refine c_know 8 (.int .i64 i) h8 (by simp [undef]) ?_
 refine c_seq ?_
 refine c_seq ?_
 refine c_region ?_
 refine wl (r_mv (v := .int _ _) rfl) ?_
 refine wl (r_mv (v := .int _ _) rfl) ?_
 refine wl (r_gtr rfl rfl) ?_
 refine x_nil ?_
 refine e_S ?_
 refine c_ifd rfl (fun c20 => ?_) (fun c20 => ?_)
 ·
  refine c_skip ?_
  refine e_S ?_
  refine c_seq ?_
  refine c_block ?_
  refine c_seq ?_
  refine c_region ?_
  refine wl (r_mv (v := .slice _ _ _) rfl) ?_
  refine wl (r_mv (v := .int _ _) rfl) ?_
  refine wl (r_ia (i := i) Tryd.underlying37 sz4 rfl rfl (by omega) rfl) ?_
  refine wl (r_ld1 (v := .bool _) Tryd.underlying4 rfl rfl (hb13.cell (row_get (by omega)))) ?_
  refine x_nil ?_
  refine e_S ?_
  refine c_if rfl (fun c26 => ?_) (fun c26 => ?_)
  ·
   have hil : i < l.length := by omega
   obtain ⟨tb, to, A', cp, rfl, htb, htr, hpar⟩ := hT.at_ hB hil
   have hpx := hpar.1
   unfold maxI at hpx
   refine c_seq ?_
   refine c_region ?_
   refine wl (r_mv (v := .slice _ _ _) rfl) ?_
   refine wl (r_mv (v := .int _ _) rfl) ?_
   refine wl (r_ia (i := i) Tryd.underlying22 sz35 rfl rfl (by omega) rfl) ?_
   refine wl (r_fa Tryd.underlying35 sz33 (by decide) rfl rfl rfl) ?_
   refine wl (r_ld1 (v := .slice _ _ _) Tryd.underlying33 rfl rfl (htr 1 _ rfl)) ?_
   refine wl (r_len Tryd.underlying33 rfl) ?_
   refine wl (r_mv (v := .int _ _) rfl) ?_
   refine x_nil ?_
   refine e_S ?_
   refine c_block ?_
   refine c_loopS [10, 33, 34, 35, 36, 37, 38, 39, 40] (fun m g w' => ∃ (j : Nat), j ≤ (l[i]'hil).par.length ∧ m = (l[i]'hil).par.length - j ∧ g 33 = .int .i64 j ∧ Bel w w' ∧ Blk w' b13 4 (row l.length (fun x => .bool (mk x || parB ((l[i]'hil).par.take j) x)))) ((l[i]'hil).par.length) ?_ (fun m g8 w4 hI => ?_)
   ·
    refine ⟨0, Nat.zero_le _, rfl, rfl, hB, ?_⟩
    rw [show (row l.length (fun x => Value.bool (mk x || parB ((l[i]'hil).par.take 0) x))) = row l.length (fun j => .bool (mk j)) from row_congr (fun x _ => by simp [parB])]
    exact hb13
   obtain ⟨j, hj, hmj, h33, hB, hb13⟩ := hI
   refine c_know 33 (.int .i64 j) h33 (by simp [undef]) ?_
   refine c_seq ?_
   refine c_region ?_
   refine wl (r_lss rfl rfl) ?_
   refine x_nil ?_
   refine e_S ?_
   refine c_seq ?_
   refine c_ifd rfl (fun c34 => ?_) (fun c34 => ?_)
   ·
    have hlj : j < (l[i]'hil).par.length := by omega
    obtain ⟨pb, po, rfl, hpb, hpc⟩ := hpar.at_ hlj
    replace hpc := hB.cell hpb hpc
    have hpr := hv i hil _ (List.getElem_mem hlj)
    refine c_skip ?_
    refine e_S ?_
    refine c_seq ?_
    refine c_block ?_
    refine c_seq ?_
    refine c_region ?_
    refine wl (r_ia (i := j) Tryd.underlying33 sz3 rfl rfl (by omega) rfl) ?_
    refine wl (r_ld1 (v := .int _ _) Tryd.underlying3 rfl rfl hpc) ?_
    refine wl (r_as (v := .int _ _) rfl) ?_
    refine x_nil ?_
    refine e_S ?_
    refine c_region ?_
    refine wl (r_mv (v := .slice _ _ _) rfl) ?_
    refine wl (r_mv (v := .int _ _) rfl) ?_
    refine wl (r_ia (i := ((l[i]'hil).par[j]).toNat) Tryd.underlying37 sz4 rfl (show ev _ _ _ = _ from congrArg (Value.int .i64) (Int.toNat_of_nonneg hpr.1).symm) (by omega) rfl) ?_
    refine wl_st1 (v := .bool _) hb13 rfl rfl sz4 (by rw [row_size]; omega) rfl row_set (fun w5 hq hs => ?_)
    replace hB := hB.tr1 hs lo13
    clear hs
    replace hb13 := hq
    refine x_nil ?_
    refine e_B ?_
    refine e_S ?_
    refine c_region ?_
    refine wl (r_add rfl rfl rfl (by omega)) ?_
    refine wl (r_mv (v := .int _ _) rfl) ?_
    refine x_nil ?_
    refine e_LS ((l[i]'hil).par.length - (j + 1)) (by omega) (by repeat (first | exact ag_refl | exact ag_ovr' | refine ag_upd rfl ?_ | refine ag_sub rfl ?_ | refine ag_kn (by assumption) ?_)) ?_
    refine ⟨j + 1, by omega, rfl, rfl, hB, ?_⟩
    rw [show (row l.length (fun x => Value.bool (mk x || parB ((l[i]'hil).par.take (j + 1)) x))) = row l.length (fun x => if x = ((l[i]'hil).par[j]).toNat then Value.bool true else .bool (mk x || parB ((l[i]'hil).par.take j) x)) from row_congr (fun x _ => by
      rw [parB_snoc _ hlj]
      by_cases e : x = ((l[i]'hil).par[j]).toNat
      · rw [if_pos e]; have : (l[i]'hil).par[j] = (x : Int) := by omega
        simp [this]
      · rw [if_neg e]; have : ¬ (l[i]'hil).par[j] = (x : Int) := by omega
        simp [this])]
    exact hb13
   ·
    have hM' := hM.yes hv hil c26
    have hjl : j = (l[i]'hil).par.length := by omega
    rw [hjl, List.take_length] at hb13
    obtain ⟨mk', hmk'⟩ : ∃ mk' : Nat → Bool, mk' = fun x => mk x || parB (l[i]'hil).par x := ⟨_, rfl⟩
    rw [show (row l.length (fun x => Value.bool (mk x || parB (l[i]'hil).par x))) = row l.length (fun x => .bool (mk' x)) from row_congr (fun x _ => by rw [hmk'])] at hb13
    rw [← hmk'] at hM'
    refine c_exit ?_
    refine e_Sx ?_
    refine e_LSx ?_
    refine e_Bx ?_
    refine e_B ?_
    refine e_S ?_
    refine c_region ?_
    refine wl (r_mv (v := .int _ _) rfl) ?_
    refine wl (r_sub (c := ((i - 1 : Nat) : Int)) rfl rfl (by omega) (by omega)) ?_
    refine wl (r_as (v := .int _ _) rfl) ?_
    refine x_nil ?_
    refine e_LS (i - 1) (by omega) (by repeat (first | exact ag_refl | exact ag_ovr' | refine ag_upd rfl ?_ | refine ag_sub rfl ?_ | refine ag_kn (by assumption) ?_)) ?_
    exact ⟨i - 1, mk', by omega, rfl, rfl, fun h => by omega, hB, hb13, hM'⟩
  ·
   have hM' := hM.no c26
   obtain ⟨mk', hmk'⟩ : ∃ mk', mk' = mk := ⟨_, rfl⟩
   rw [← hmk'] at hM' hb13
   clear hmk'
   refine c_skip ?_
   refine e_B ?_
   refine e_S ?_
   refine c_region ?_
   refine wl (r_mv (v := .int _ _) rfl) ?_
   refine wl (r_sub (c := ((i - 1 : Nat) : Int)) rfl rfl (by omega) (by omega)) ?_
   refine wl (r_as (v := .int _ _) rfl) ?_
   refine x_nil ?_
   refine e_LS (i - 1) (by omega) (by repeat (first | exact ag_refl | exact ag_ovr' | refine ag_upd rfl ?_ | refine ag_sub rfl ?_ | refine ag_kn (by assumption) ?_)) ?_
   exact ⟨i - 1, mk', by omega, rfl, rfl, fun h => by omega, hB, hb13, hM'⟩
 ·
  refine c_exit ?_
  refine e_Sx ?_
  refine e_LSx ?_
  refine e_Bx ?_
  refine e_S ?_
  refine c_seq ?_
  refine c_region ?_
  refine wl (r_mv (v := .slice _ _ _) rfl) ?_
  refine wl (r_mv (v := .int _ _) rfl) ?_
  refine wl (r_ia (i := b) Tryd.underlying37 sz4 rfl rfl (by omega) rfl) ?_
  refine wl (r_ld1 (v := .bool _) Tryd.underlying4 rfl rfl (hb13.cell (row_get (by omega)))) ?_
  refine wl (r_as (v := .bool _) rfl) ?_
  refine x_nil ?_
  refine e_S ?_
  refine c_ret ?_
  refine fin1 (.inl rfl) rfl rfl ?_
  exact ⟨ret_bool (hM.end_ hv (by omega) hbi).symm, hB⟩
end Go.Proofs.YtahdbbgkgokkhaaDoor
