/- What the data of hierarchies are as plain values, and how a world holds them. Arguments opened: slices of ints and of structs, as the readings of data give them. Nothing here speaks of one program. The engine: a region that draws its order, in which some operations store into blocks of a list X; every operation leaves what the others have told. The engine's third part: cap, append of nothing, append of zeros to the nil slice. The engine's fourth part: a check of a pointer, a slice that owns its cells opened and closed again, rows of cells told by a list. -/
import Derived.Test.YteoncmfiiknfbaaDoorEng2
import Derived.ChangeSame
import Derived.ChangeArms
import Derived.Clock
import Derived.Carry
import Derived.OpenShut
import Derived.Deep.Slices
import Derived.Deep.Strs
import Derived.Lib.SmallJoins
import Derived.Lib.AppendZerosOnto
namespace Go.Proofs.YteoncmfiiknfbaaDoor
open Go.RowKit
structure Ty where
  name : ByteArray
  par : List Int
structure Ft where
  name : ByteArray
  of : Int
  val : Int
abbrev Fl := Int × Int
def flV (p : Fl) : Value := .agg #[.int .i64 p.1, .int .i64 p.2]
theorem ret_fl {c i : Int} {p : Fl} (h : p = (c, i)) : Ending.returned (.agg [.int .i64 c, .int .i64 i].toArray) = .returned (flV p) := by rw [h]; rfl
def maxI : Nat := 9223372036854775807
def IntsIn (w : World) (A : Option Addr) (xs : List Int) : Prop :=
  xs.length ≤ maxI ∧ (xs ≠ [] → ∃ b o, A = some ⟨b, o, none⟩ ∧ b < w.heap.size ∧ ∀ k (h : k < xs.length), w.cell? ⟨b, o + k * 1, none⟩ = some (.int .i64 xs[k]))
theorem IntsIn.mono {w w' : World} {A : Option Addr} {xs : List Int} (h : IntsIn w A xs) (hb : Bel w w') : IntsIn w' A xs :=
  ⟨h.1, fun hn => by
    obtain ⟨b, o, e, hl, hc⟩ := h.2 hn
    exact ⟨b, o, e, lL hl hb.size, fun k hk => hb.cell hl (hc k hk)⟩⟩
theorem IntsIn.at_ {w : World} {A : Option Addr} {xs : List Int} (h : IntsIn w A xs) {k : Nat} (hk : k < xs.length) :
    ∃ b o, A = some ⟨b, o, none⟩ ∧ b < w.heap.size ∧ w.cell? ⟨b, o + k * 1, none⟩ = some (.int .i64 xs[k]) := by
  obtain ⟨b, o, e, hl, hc⟩ := h.2 (by rintro rfl; simp at hk)
  exact ⟨b, o, e, hl, hc k hk⟩
def TyIn (w : World) (b o : Nat) (t : Ty) : Prop := ∃ A c, w.rangeAt b o [.string t.name, .slice A t.par.length c] ∧ IntsIn w A t.par
def TypesIn (w : World) (A : Option Addr) (l : List Ty) : Prop :=
  l.length ≤ maxI ∧ (l ≠ [] → ∃ b o, A = some ⟨b, o, none⟩ ∧ b < w.heap.size ∧ ∀ k (h : k < l.length), TyIn w b (o + k * 2) l[k])
theorem TyIn.mono {w w' : World} {b o : Nat} {t : Ty} (h : TyIn w b o t) (hb : Bel w w') (hl : b < w.heap.size) : TyIn w' b o t := by
  obtain ⟨A, c, h1, h2⟩ := h
  exact ⟨A, c, hb.range hl h1, h2.mono hb⟩
theorem TypesIn.mono {w w' : World} {A : Option Addr} {l : List Ty} (h : TypesIn w A l) (hb : Bel w w') : TypesIn w' A l :=
  ⟨h.1, fun hn => by
    obtain ⟨b, o, e, hl, hc⟩ := h.2 hn
    exact ⟨b, o, e, lL hl hb.size, fun k hk => (hc k hk).mono hb hl⟩⟩
theorem TypesIn.at_ {w w' : World} {A : Option Addr} {l : List Ty} (h : TypesIn w A l) (hb : Bel w w') {k : Nat} (hk : k < l.length) :
    ∃ b o A' c, A = some ⟨b, o, none⟩ ∧ b < w.heap.size ∧ w'.rangeAt b (o + k * 2) [.string (l[k]).name, .slice A' (l[k]).par.length c] ∧ IntsIn w A' (l[k]).par := by
  obtain ⟨b, o, e, hl, hc⟩ := h.2 (by rintro rfl; simp at hk)
  obtain ⟨A', c, h1, h2⟩ := hc k hk
  exact ⟨b, o, A', c, e, hl, hb.range hl h1, h2⟩
def FtIn (w : World) (b o : Nat) (t : Ft) : Prop := w.rangeAt b o [.string t.name, .int .i64 t.of, .int .i64 t.val]
def FeatsIn (w : World) (A : Option Addr) (l : List Ft) : Prop :=
  l.length ≤ maxI ∧ (l ≠ [] → ∃ b o, A = some ⟨b, o, none⟩ ∧ b < w.heap.size ∧ ∀ k (h : k < l.length), FtIn w b (o + k * 3) l[k])
theorem FeatsIn.mono {w w' : World} {A : Option Addr} {l : List Ft} (h : FeatsIn w A l) (hb : Bel w w') : FeatsIn w' A l :=
  ⟨h.1, fun hn => by
    obtain ⟨b, o, e, hl, hc⟩ := h.2 hn
    exact ⟨b, o, e, lL hl hb.size, fun k hk => hb.range hl (hc k hk)⟩⟩
theorem FeatsIn.at_ {w w' : World} {A : Option Addr} {l : List Ft} (h : FeatsIn w A l) (hb : Bel w w') {k : Nat} (hk : k < l.length) :
    ∃ b o, A = some ⟨b, o, none⟩ ∧ b < w.heap.size ∧ w'.rangeAt b (o + k * 3) [.string (l[k]).name, .int .i64 (l[k]).of, .int .i64 (l[k]).val] := by
  obtain ⟨b, o, e, hl, hc⟩ := h.2 (by rintro rfl; simp at hk)
  exact ⟨b, o, e, hl, hb.range hl (hc k hk)⟩
def parFault (i : Int) : Int → List Int → Int
  | _, [] => 0
  | last, p :: ps => if p < 0 ∨ i ≤ p then 3 else if p ≤ last then 13 else parFault i p ps
def firstF (f : Nat → Int) : Nat → Nat → Fl
  | _, 0 => (0, 0)
  | i, m + 1 => if f i ≠ 0 then (f i, (i : Int)) else firstF f (i + 1) m
theorem firstF_hit {f : Nat → Int} {i m : Nat} {c : Int} (hm : 0 < m) (hc : f i = c) (h : c ≠ 0) : firstF f i m = (c, (i : Int)) := by
  subst hc
  cases m with
  | zero => omega
  | succ m => simp [firstF, h]
theorem firstF_miss {f : Nat → Int} {i n : Nat} (hm : i < n) (h : f i = 0) : firstF f i (n - i) = firstF f (i + 1) (n - (i + 1)) := by
  obtain ⟨m, hm'⟩ : ∃ m, n - i = m + 1 := ⟨n - i - 1, by omega⟩
  rw [hm', show n - (i + 1) = m from by omega]
  simp [firstF, h]
theorem firstF_end {f : Nat → Int} {i n : Nat} (h : n ≤ i) : firstF f i (n - i) = (0, 0) := by
  rw [show n - i = 0 from by omega]; rfl
def seen (l : List ByteArray) (s : ByteArray) : Bool := l.any (fun u => decide (u = s))
theorem seen_snoc (l : List ByteArray) (u s : ByteArray) : seen (l ++ [u]) s = (seen l s || decide (u = s)) := by simp [seen]
theorem take_snoc {α : Type} (l : List α) {k : Nat} (hk : k < l.length) : l.take (k + 1) = l.take k ++ [l[k]] := by
  rw [List.take_succ_eq_append_getElem hk]
end Go.Proofs.YteoncmfiiknfbaaDoor
namespace Go.Proofs.YteoncmfiiknfbaaDoor
open Go.RowKit Go.ChangeShapes Go.WideShapes Go.Deep Go.Joins
theorem choose_list {α : Type} {n : Nat} {p : Nat → α → Prop} (h : ∀ i, i < n → ∃ x, p i x) : ∃ l : List α, l.length = n ∧ ∀ k (hk : k < l.length), p k l[k] := by
  induction n with
  | zero => exact ⟨[], rfl, fun k hk => by simp at hk⟩
  | succ n ih =>
    obtain ⟨l, hl, hp⟩ := ih (fun i hi => h i om)
    obtain ⟨x, hx⟩ := h n om
    refine ⟨l ++ [x], by simp [hl], fun k hk => ?_⟩
    by_cases e : k < l.length
    · rw [List.getElem_append_left e]; exact hp k e
    · have e2 : k = l.length := by simp at hk; omega
      subst e2
      have e3 : (l ++ [x])[l.length]'hk = x := by simp
      rw [e3, hl]; exact hx
section
variable {H : Type} {enc : TypeId × Value → H} {P : Program} {w : World} {base : Nat} {spare : Nat → Bool} {held : Bool}
theorem one_val {v v' : Value} (h : [v] = [v']) : v = v' := by cases h; rfl
theorem sl_open {t e : TypeId} {sz fuel : Nat} {v : Value} {x : DataW H × List MemPlace} (ht : P.underlying t = some (.slice e)) (hsz : P.cellsOf e = sz) (hpos : 0 < sz) (h : DataW.trod enc P w base spare held fuel t [v] = some x) :
    ∃ A len c, v = .slice A len c ∧ len ≤ c ∧ c ≤ maxI ∧ (len ≠ 0 → ∃ b o, A = some ⟨b, o, none⟩ ∧ b < w.heap.size ∧ ∀ i, i < len → ∃ cs k y, cs.length = sz ∧ w.rangeAt b (o + i * sz) cs ∧ DataW.trod enc P w base spare held k e cs = some y) := by
  rcases open_slice ht h with ⟨hc, _⟩ | ⟨a, len, cap, m, n, D, Pl, hc, hb, hl, hm, hmm, _, hi⟩
  · rw [one_val hc]
    exact ⟨none, 0, 0, rfl, Nat.le_refl _, Nat.zero_le _, fun h => absurd rfl h⟩
  · rw [one_val hc]
    rw [hsz] at hi
    refine ⟨some a, len, cap, rfl, hl, hm, fun h0 => ?_⟩
    have hlm : len ≤ m := by rw [hmm]; split <;> omega
    obtain ⟨b, o, s⟩ := a
    have hsp : s = none ∧ b < w.heap.size := by
      obtain ⟨cs, h1, _⟩ := hi 0 om
      obtain ⟨_, h3, h4⟩ := World.cells?_some h1
      have h5 := h4 0 hpos
      have h6 : cs[0]? = some (cs[0]'om) := List.getElem?_eq_getElem om
      have h7 : (Addr.add (Addr.add ⟨b, o, s⟩ (0 * sz)) 0) = ⟨b, o, s⟩ := by simp [Addr.add]
      rw [h7, h6] at h5
      exact ⟨World.cell?_spot h5, Go.Clock.block_lt h5⟩
    obtain ⟨rfl, hlt⟩ := hsp
    refine ⟨b, o, rfl, hlt, fun i hil => ?_⟩
    obtain ⟨cs, h1, h2⟩ := hi i om
    obtain ⟨_, h3, h4⟩ := World.cells?_some h1
    refine ⟨cs, n, _, h3, fun j v hj => ?_, h2⟩
    have hjl := (List.getElem?_eq_some_iff.1 hj).1
    have h5 := h4 j om
    rw [Addr.add_mid, Addr.add_mid] at h5
    rw [h5]; exact hj
theorem ints_open {t e : TypeId} {fuel : Nat} {v : Value} {x : DataW H × List MemPlace} (ht : P.underlying t = some (.slice e)) (he : P.underlying e = some (.int .i64)) (hsz : P.cellsOf e = 1) (h : DataW.trod enc P w base spare held fuel t [v] = some x) :
    ∃ A xs c, v = .slice A (List.length xs) c ∧ xs.length ≤ c ∧ IntsIn w A xs := by
  obtain ⟨A, len, c, rfl, hl, hm, hx⟩ := sl_open ht hsz dE h
  by_cases h0 : len = 0
  · subst h0
    exact ⟨A, [], c, rfl, Nat.zero_le _, Nat.zero_le _, fun h => absurd rfl h⟩
  · obtain ⟨b, o, rfl, hlt, hc⟩ := hx h0
    obtain ⟨xs, hxl, hxs⟩ := choose_list (p := fun i (z : Int) => w.cell? ⟨b, o + i * 1, none⟩ = some (.int .i64 z)) (n := len) (fun i hi => by
      obtain ⟨cs, k, y, h1, h2, h3⟩ := hc i hi
      obtain ⟨z, rfl, _, _⟩ := DataW.trod_int he h3
      exact ⟨z, h2 0 _ rfl⟩)
    subst hxl
    exact ⟨_, xs, c, rfl, hl, lT hl hm, fun _ => ⟨b, o, rfl, hlt, hxs⟩⟩
theorem two_cells {e : TypeId} {f0 f1 : Field} {fuel : Nat} {cs : List Value} {x : DataW H × List MemPlace} (he : P.underlying e = some (.struct #[f0, f1])) (hl : cs.length = 2) (o0 : f0.offset = 0) (o1 : f1.offset = 1) (c0 : P.cellsOf f0.type = 1) (c1 : P.cellsOf f1.type = 1) (h : DataW.trod enc P w base spare held fuel e cs = some x) :
    ∃ v0 v1 n y0 y1, cs = [v0, v1] ∧ DataW.trod enc P w base spare held n f0.type [v0] = some y0 ∧ DataW.trod enc P w base spare held n f1.type [v1] = some y1 := by
  obtain ⟨y0, y1, n, _, _, h0, h1⟩ := trod_struct2 he h
  match cs, hl with
  | [v0, v1], _ =>
    simp [o0, o1, c0, c1] at h0 h1
    exact ⟨v0, v1, n, y0, y1, rfl, h0, h1⟩
theorem three_cells {e : TypeId} {f0 f1 f2 : Field} {fuel : Nat} {cs : List Value} {x : DataW H × List MemPlace} (he : P.underlying e = some (.struct #[f0, f1, f2])) (hl : cs.length = 3) (o0 : f0.offset = 0) (o1 : f1.offset = 1) (o2 : f2.offset = 2) (c0 : P.cellsOf f0.type = 1) (c1 : P.cellsOf f1.type = 1) (c2 : P.cellsOf f2.type = 1) (h : DataW.trod enc P w base spare held fuel e cs = some x) :
    ∃ v0 v1 v2 n y0 y1 y2, cs = [v0, v1, v2] ∧ DataW.trod enc P w base spare held n f0.type [v0] = some y0 ∧ DataW.trod enc P w base spare held n f1.type [v1] = some y1 ∧ DataW.trod enc P w base spare held n f2.type [v2] = some y2 := by
  obtain ⟨y0, y1, y2, n, _, _, h0, h1, h2⟩ := trod_struct3 he h
  match cs, hl with
  | [v0, v1, v2], _ =>
    simp [o0, o1, o2, c0, c1, c2] at h0 h1 h2
    exact ⟨v0, v1, v2, n, y0, y1, y2, rfl, h0, h1, h2⟩
theorem types_open {t e ts ti tis : TypeId} {f0 f1 : Field} {fuel : Nat} {v : Value} {x : DataW H × List MemPlace} (ht : P.underlying t = some (.slice e)) (he : P.underlying e = some (.struct #[f0, f1])) (hsz : P.cellsOf e = 2) (o0 : f0.offset = 0) (o1 : f1.offset = 1) (e0 : f0.type = ts) (e1 : f1.type = tis) (hs : P.underlying ts = some .string) (hcs : P.cellsOf ts = 1) (hci : P.cellsOf tis = 1)
    (hti : P.underlying tis = some (.slice ti)) (hi : P.underlying ti = some (.int .i64)) (hc1 : P.cellsOf ti = 1) (h : DataW.trod enc P w base spare held fuel t [v] = some x) :
    ∃ A l c, v = .slice A (List.length l) c ∧ l.length ≤ c ∧ TypesIn w A l := by
  subst e0 e1
  obtain ⟨A, len, c, rfl, hl, hm, hx⟩ := sl_open ht hsz dE h
  by_cases h0 : len = 0
  · subst h0
    exact ⟨A, [], c, rfl, Nat.zero_le _, Nat.zero_le _, fun h => absurd rfl h⟩
  · obtain ⟨b, o, rfl, hlt, hc⟩ := hx h0
    obtain ⟨l, hxl, hxs⟩ := choose_list (p := fun i (z : Ty) => TyIn w b (o + i * 2) z) (n := len) (fun i hi' => by
      obtain ⟨cs, k, y, h1, h2, h3⟩ := hc i hi'
      obtain ⟨v0, v1, n, y0, y1, rfl, g0, g1⟩ := two_cells he h1 o0 o1 hcs hci h3
      obtain ⟨s, h4, _, _⟩ := DataW.trod_string hs g0
      obtain ⟨A', xs, c', rfl, _, hin⟩ := ints_open hti hi hc1 g1
      rw [one_val h4] at h2
      exact ⟨⟨s, xs⟩, A', c', h2, hin⟩)
    subst hxl
    exact ⟨_, l, c, rfl, hl, lT hl hm, fun _ => ⟨b, o, rfl, hlt, hxs⟩⟩
theorem feats_open {t e ts ti : TypeId} {f0 f1 f2 : Field} {fuel : Nat} {v : Value} {x : DataW H × List MemPlace} (ht : P.underlying t = some (.slice e)) (he : P.underlying e = some (.struct #[f0, f1, f2])) (hsz : P.cellsOf e = 3) (o0 : f0.offset = 0) (o1 : f1.offset = 1) (o2 : f2.offset = 2) (e0 : f0.type = ts) (e1 : f1.type = ti) (e2 : f2.type = ti) (hs : P.underlying ts = some .string) (hcs : P.cellsOf ts = 1)
    (hi : P.underlying ti = some (.int .i64)) (hc1 : P.cellsOf ti = 1) (h : DataW.trod enc P w base spare held fuel t [v] = some x) :
    ∃ A l c, v = .slice A (List.length l) c ∧ l.length ≤ c ∧ FeatsIn w A l := by
  subst e0
  obtain ⟨A, len, c, rfl, hl, hm, hx⟩ := sl_open ht hsz dE h
  by_cases h0 : len = 0
  · subst h0
    exact ⟨A, [], c, rfl, Nat.zero_le _, Nat.zero_le _, fun h => absurd rfl h⟩
  · obtain ⟨b, o, rfl, hlt, hc⟩ := hx h0
    obtain ⟨l, hxl, hxs⟩ := choose_list (p := fun i (z : Ft) => FtIn w b (o + i * 3) z) (n := len) (fun i hi' => by
      obtain ⟨cs, k, y, h1, h2, h3⟩ := hc i hi'
      obtain ⟨v0, v1, v2, n, y0, y1, y2, rfl, g0, g1, g2⟩ := three_cells he h1 o0 o1 o2 hcs (by rw [e1]; exact hc1) (by rw [e2]; exact hc1) h3
      rw [e1] at g1
      rw [e2] at g2
      obtain ⟨s, h4, _, _⟩ := DataW.trod_string hs g0
      obtain ⟨z1, h5, _, _⟩ := DataW.trod_int hi g1
      obtain ⟨z2, h6, _, _⟩ := DataW.trod_int hi g2
      rw [one_val h4, one_val h5, one_val h6] at h2
      exact ⟨⟨s, z1, z2⟩, h2⟩)
    subst hxl
    exact ⟨_, l, c, rfl, hl, lT hl hm, fun _ => ⟨b, o, rfl, hlt, hxs⟩⟩
theorem post_bel {f : Func} {s : ChangeSpec} {apart fresh handsOn again : Bool} {W W' : World} {args : Array Value} {v : Value} {ds gs : List (DataW H)} {before pa pv : List MemPlace} (hW : DataW.Whole enc P f.params.toList s.vars apart W args.toList ds gs before)
    (hres : ∀ (b : Nat) (sp : Nat → Bool) (hd : Bool), DataW.TrodAll enc P W' b sp hd f.resultTypes.toList (v.resultList f.resultTypes.size) (s.fn H (ds ++ gs)).results [])
    (hargs : ∀ sp : Nat → Bool, (∀ p ∈ before, sp p.block = true) → DataW.TrodAll enc P W' 0 sp true f.params.toList args.toList (s.fn H (ds ++ gs)).args pa)
    (hvars : ∀ sp : Nat → Bool, (∀ p ∈ before, sp p.block = true) → DataW.TrodVars enc P W' sp s.vars (s.fn H (ds ++ gs)).vars pv)
    (hps : before = pa ++ pv) (hb : Bel W W')
    (hok : ∀ (j : Nat) (t : TypeId) (r : Value), f.resultTypes[j]? = some t → (v.resultList f.resultTypes.size)[j]? = some r → Value.okWide P W' .any 0 t r) :
    s.post enc P f apart fresh handsOn again W args v W' := by
  have hlt := fun p hp => hW.lt p hp
  have hold : ∀ p ∈ before, (fun b => decide (b < W.heap.size)) p.block = true := fun p hp => by simpa using hlt p hp
  refine ⟨ds, gs, before, [], pa, pv, hW, hres _ _ _, hargs _ hold, hvars _ hold, World.keptBut_mono (fun p hp => ⟨hp, ?_⟩) (hb.frame (· ∈ before)), fun _ => ?_⟩
  · rw [hps, List.mem_append] at hp; exact .inr hp
  obtain ⟨_, _, _, _, _, hz, hn⟩ := hW
  refine ⟨hok, _, _, ([] ++ pa) ++ pv, ⟨[] ++ pa, pv, trodAll_append (hargs _ (fun _ _ => rfl)) (hres _ _ _), hvars _ (fun _ _ => rfl), rfl, fun b off hp => ?_, fun ha => ?_⟩, fun p hp _ => ?_⟩
  · have hin : MemPlace.cell b off ∈ before := by rw [hps]; simpa using hp
    rw [hb.frozen (hlt _ hin)]; exact hz b off hin
  · have := hn ha
    rw [hps] at this; simpa using this
  · rw [hps]; simpa using hp
end
end Go.Proofs.YteoncmfiiknfbaaDoor
namespace Go.Proofs.YteoncmfiiknfbaaDoor
open Go.RowKit
section monok
variable {P : Program} {Q : Exit → Act → World → Prop} {n : Nat} {f : Fr} {w : World}
def vO (f : Fr) (o : Oper) : Value := match o.dst with
  | some d => f d
  | none => undef
def rO (R : Nat → Value → World → Prop) (i : Nat) (o : Oper) (v : Value) (w : World) : Prop := match o.dst with
  | some _ => R i v w
  | none => R i undef w
def monoK (l : List Oper) (m : Nat) (S : List Nat) : Bool :=
  decide (l.length = m) && (List.range l.length).all (fun i => match l[i]? with
    | some o => o.guard.isNone && (deps o).all (fun j => decide (j < i)) && (match o.dst with
      | some d => mem S d && (List.range l.length).all (fun j => decide (i = j) || (match l[j]? with | some o' => !(o'.dst == some d) | none => true))
      | none => true)
    | none => false)
theorem os_wl0 {Post : Value → World → Prop} {op : Op} {ty : TypeId} {pos : String} {af : Array Edge} (h : ∀ (ops : Array Oper) (Q : Exit → Act → World → Prop), (∀ w', Post undef w' → WL P ops Q [] n f w') → WL P ops Q [⟨none, op, ty, pos, af, none⟩] n f w) : OS P n f w ⟨none, op, ty, pos, af, none⟩ Post := by
  unfold OS
  intro K Q hK
  have h1 := h #[] (onlyN K Q) (fun w' hp => by
    unfold WL
    refine wpList_nil ?_
    have := hK undef w' hp
    exact this)
  unfold WL wpList at h1
  rw [if_pos (by simp [Region.wanted])] at h1
  have ho : ¬ LetsOut (onlyN K Q) := fun ⟨_, _, h⟩ => h
  rcases h1 with h1 | ⟨_, h1⟩
  · exact oper_wp_mono2 (Q := onlyN K Q) (fun a w h => h) (fun c a w h => h) ho h1
  · exact absurd h1 ho
theorem c_monoK {id : Nat} {l : List Oper} (m : Nat) (S X : List Nat) (R : Nat → Value → World → Prop) (J : World → Prop) (hm : P.follows .mixedOrders = true) (hB : monoK l m S = true) (hJ0 : ∀ w', Same [] w w' → J w')
    (step : ∀ i o, i < m → l[i]? = some o → ∀ f' w', Same X w w' → J w' → Ag S f' f → (∀ j o', j ∈ deps o → l[j]? = some o' → R j (vO f' o') w') → OS P n f' w' o (fun v w'' => Same X w' w'' ∧ J w'' ∧ rO R i o v w'' ∧ ∀ k v, k ≠ i → R k v w' → R k v w''))
    (fin : ∀ f' w', Same X w w' → J w' → Ag S f' f → (∀ i o, l[i]? = some o → R i (vO f' o) w') → WL P l.toArray Q [] n f' w') : WC P (.region id l.toArray true) Q n f w := by
  unfold WC
  refine wp_region_any hm ?_
  simp only [monoK, Bool.and_eq_true, List.all_eq_true, List.mem_range, decide_eq_true_eq] at hB
  obtain ⟨hlm, hB⟩ := hB
  have hget : ∀ i o, l[i]? = some o → o.guard = none ∧ (∀ j ∈ deps o, j < i) ∧ ∀ d, o.dst = some d → mem S d = true ∧ ∀ j o', l[j]? = some o' → i ≠ j → o'.dst ≠ some d := fun i o ho => by
    have hil : i < l.length := (List.getElem?_eq_some_iff.1 ho).1
    have h := hB i hil
    simp only [ho, Bool.and_eq_true] at h
    obtain ⟨⟨h1, h2⟩, h3⟩ := h
    refine ⟨Option.isNone_iff_eq_none.1 h1, fun j hj => by simpa using List.all_eq_true.1 h2 j hj, fun d hd => ?_⟩
    simp only [hd, Bool.and_eq_true] at h3
    refine ⟨h3.1, fun j o' ho' hne hd' => ?_⟩
    have h4 := List.all_eq_true.1 h3.2 j (List.mem_range.2 (List.getElem?_eq_some_iff.1 ho').1)
    simp [ho', hd', hne] at h4
  have key : ∀ (fuel : Nat) (listed : Array Bool) (f' : Fr) (w' : World), listed.size = l.length → Dn l listed → Same X w w' → J w' → Ag S f' f → (∀ i o, l[i]? = some o → listed.getD i false = true → R i (vO f' o) w') →
      (List.range l.length).countP (fun i => !listed.getD i false) ≤ fuel → wpAny P .any l.toArray Q fuel listed (AF n f') w' := by
    have fin' : ∀ (listed : Array Bool) (f' : Fr) (w' : World), Same X w w' → J w' → Ag S f' f → (∀ i o, l[i]? = some o → listed.getD i false = true → R i (vO f' o) w') → (∀ i, i < l.length → listed.getD i false = true) → Q .normal (AF n f') w' := fun listed f' w' hs hj hag hR hall => by
      have := fin f' w' hs hj hag (fun i o ho => hR i o ho (hall i (List.getElem?_eq_some_iff.1 ho).1))
      unfold WL at this; exact this
    intro fuel
    induction fuel with
    | zero =>
      intro listed f' w' hs hD hsm hj hag hR hc
      have hall : ∀ i, i < l.length → listed.getD i false = true := by
        intro i hi
        have h0 : (List.range l.length).countP (fun i => !listed.getD i false) = 0 := by omega
        rw [List.countP_eq_zero] at h0
        have := h0 i (List.mem_range.2 hi)
        simpa using this
      refine ⟨?_, fin' listed f' w' hsm hj hag hR hall⟩
      cases hr : Region.ready .any l.toArray listed with
      | nil => rfl
      | cons i r =>
        obtain ⟨o, ho, hn, _⟩ := ready_inv' listed i (by rw [hr]; simp)
        have : i < l.length := (List.getElem?_eq_some_iff.1 ho).1
        rw [hall i om] at hn; cases hn
    | succ fuel ih =>
      intro listed f' w' hs hD hsm hj hag hR hc
      refine ⟨fun hr => ?_, fun i hi => ?_⟩
      · have hall : ∀ k, k ≤ l.length → ∀ i, i < k → listed.getD i false = true := by
          intro k
          induction k with
          | zero => intro _ i hi; omega
          | succ k ihk =>
            intro hk i hi
            have ihk' := ihk om
            by_cases hik : i < k
            · exact ihk' i hik
            · have : i = k := by omega
              subst this
              cases hb : listed.getD i false with
              | true => rfl
              | false =>
                have ho : l[i]? = some l[i] := List.getElem?_eq_getElem om
                have := ready_of' listed i _ hs ho hb (fun j hj => ihk' j ((hget i _ ho).2.1 j hj))
                rw [hr] at this; cases this
        exact fin' listed f' w' hsm hj hag hR (hall l.length (Nat.le_refl _))
      · obtain ⟨o, ho, hn, hd⟩ := ready_inv' listed i hi
        have hil : i < l.length := (List.getElem?_eq_some_iff.1 ho).1
        obtain ⟨hg, hdl, hdd⟩ := hget i o ho
        unfold wpOp
        simp only [List.getElem?_toArray, ho]
        rw [if_pos (by simp [Region.wanted, hg])]
        left
        have hst1 := step i o om ho f' w' hsm hj hag (fun j o' hjd ho' => hR j o' ho' (hd j hjd))
        unfold OS at hst1
        refine hst1 _ _ ?_
        rintro v w'' ⟨hs1, hj1, hr1, hk1⟩
        have hli : ∀ j, i ≠ j → (listed.setIfInBounds i true).getD j false = listed.getD j false := fun j hij => by
          simp only [Array.getD_eq_getD_getElem?, Array.getElem?_setIfInBounds_ne hij]
        have hlt := countP_lt (p := fun i => !listed.getD i false) (q := fun k => !(listed.setIfInBounds i true).getD k false) (fun x hx => by
          by_cases hix : i = x
          · subst hix; simp [hn]
          · simpa only [Array.getD_eq_getD_getElem?, Array.getElem?_setIfInBounds_ne hix] using hx) (List.range l.length) i (List.mem_range.2 hil) (by simp [hn]) (by
            have : i < listed.size := by omega
            simp [this])
        cases hdst : o.dst with
        | none =>
          have hri : R i undef w'' := by simpa only [rO, hdst] using hr1
          show wpAny P .any l.toArray Q fuel (listed.setIfInBounds i true) (AF n f') w''
          refine ih _ _ _ (by simpa using hs) (hD.set om ho hd) (hsm.trans hs1) hj1 hag (fun j o' ho' hl' => ?_) om
          by_cases hij : i = j
          · subst hij
            rw [ho] at ho'; cases ho'
            simpa only [vO, hdst] using hri
          · rw [hli j hij] at hl'
            exact hk1 j _ (fun e => hij e.symm) (hR j o' ho' hl')
        | some d =>
          have hri : R i v w'' := by simpa only [rO, hdst] using hr1
          obtain ⟨hSd, hne⟩ := hdd d hdst
          rw [put_AF]
          refine ih _ _ _ (by simpa using hs) (hD.set om ho hd) (hsm.trans hs1) hj1 (ag_upd hSd hag) (fun j o' ho' hl' => ?_) om
          by_cases hij : i = j
          · subst hij
            rw [ho] at ho'; cases ho'
            have : vO (upd f' d v) o = v := by simp [vO, hdst, upd]
            rw [this]; exact hri
          · rw [hli j hij] at hl'
            have : vO (upd f' d v) o' = vO f' o' := by
              unfold vO
              cases hd' : o'.dst with
              | none => rfl
              | some d' =>
                have h1 := hne j o' ho' hij
                rw [hd'] at h1
                simp only [upd]
                have : Nat.beq d' d = false := by
                  cases hb : Nat.beq d' d
                  · rfl
                  · exact absurd (congrArg some (Nat.eq_of_beq_eq_true hb)) h1
                simp [this]
            rw [this]
            exact hk1 j _ (fun e => hij e.symm) (hR j o' ho' hl')
  have h0 := key l.length (Array.replicate l.length false) f { w with drawn := w.drawn + 1 } (by simp) (fun j o _ h => by
    simp only [Array.getD_eq_getD_getElem?, Array.getElem?_replicate] at h
    split at h <;> cases h) ((Same.drew w 1).weak (fun x hx => by cases hx)) (hJ0 _ (Same.drew w 1)) ag_refl (fun i o _ h => by
    simp only [Array.getD_eq_getD_getElem?, Array.getElem?_replicate] at h
    split at h <;> cases h) (by
      have := List.countP_le_length (p := fun i => !(Array.replicate l.length false).getD i false) (l := List.range l.length)
      simp only [List.length_range] at this
      omega)
  simpa using h0
theorem c_monoKO {id : Nat} {l : List Oper} (m : Nat) (S X : List Nat) (R : Nat → Value → World → Prop) (J : World → Prop) (hm : P.follows .mixedOrders = true) (hB : monoK l m S = true)
    (hst : ∀ i v w1 w2, R i v w1 → Same [] w1 w2 → R i v w2) (hJ : ∀ w1 w2, J w1 → Same [] w1 w2 → J w2) (hJ0 : J w)
    (step : ∀ i o, i < m → l[i]? = some o → ∀ g w', Same X w w' → J w' → (∀ j o', j ∈ deps o → l[j]? = some o' → R j (vO g o') w') → match o.dst with
      | some _ => OS P n (ovr S g f) w' o (fun v w'' => Same [] w' w'' ∧ R i v w'' ∧ Frsh false w' w'' v)
      | none => OS P n (ovr S g f) w' o (fun _ w'' => Same X w' w'' ∧ J w'' ∧ R i undef w'' ∧ ∀ k v, k ≠ i → R k v w' → R k v w''))
    (fin : ∀ g w', Same X w w' → J w' → (∀ i o, l[i]? = some o → R i (vO g o) w') → WL P l.toArray Q [] n (ovr S g f) w') : WC P (.region id l.toArray true) Q n f w := by
  refine c_monoK m S X R J hm hB (fun w' hs => hJ _ _ hJ0 hs) (fun i o hi ho f' w' hs hj hag hd => ?_) (fun f' w' hs hj hag hR => ?_)
  · have h := step i o hi ho f' w' hs hj hd
    rw [← ag_ovr hag] at h
    unfold rO
    cases hdst : o.dst with
    | some d =>
      simp only [hdst] at h
      unfold OS at h ⊢
      exact fun K Q hK => h K Q (fun v w'' ⟨h1, h2, _⟩ => hK v w'' ⟨h1.weak (fun x hx => by cases hx), hJ _ _ hj h1, h2, fun k v _ hr => hst k v _ _ hr h1⟩)
    | none =>
      simp only [hdst] at h
      unfold OS at h ⊢
      exact fun K Q hK => h K Q (fun v w'' h1 => hK v w'' h1)
  · have := fin f' w' hs hj hR
    rwa [← ag_ovr hag] at this
end monok
end Go.Proofs.YteoncmfiiknfbaaDoor
namespace Go.Proofs.YteoncmfiiknfbaaDoor
open Go.RowKit
section eng3
variable {P : Program} {Q : Exit → Act → World → Prop} {n : Nat} {f : Fr} {w : World} {ops : Array Oper} {rest : List Oper} {d : Tmp} {ty t e : TypeId} {pos : String} {af : Array Edge} {x y : Operand}
theorem r_cap {dst : Option Tmp} {gd : Option (Nat × Bool)} {A : Option Addr} {m c : Nat} (hu : P.underlying t = some (.slice e)) (hx : ev n f x = .slice A m c) :
    RV P n f w ⟨dst, .call { callee := .builtin .cap, args := #[x], argTypes := #[t] }, ty, pos, af, gd⟩ (.int .i64 (c : Int)) w := by
  simp [RV, execOp, resolve, invoke, builtin, hx, Builtin.cap_, run_underlying hu, goInt]
theorem r_eqlBr {dst : Option Tmp} {gd : Option (Nat × Bool)} {p q r : Bool} {t' : TypeId} (hu : P.underlying t = some .bool) (hx : ev n f x = .bool p) (hy : ev n f y = .bool q) (h : (p == q) = r) : RV P n f w ⟨dst, .binOp .eql t x y t', ty, pos, af, gd⟩ (.bool r) w := by
  rw [← h]; exact r_eqlB hu hx hy
theorem run_app0 {A B : Option Addr} {k cap c sz : Nat} (hu : P.underlying t = some (.slice e)) (hs : (P.info? e).map (·.size) = some sz) (hk : k ≤ cap) :
    (Builtin.append_ #[t, t] ty #[.slice A k cap, .slice B 0 c]).run P w = .ok (.slice A k cap) w := by
  cases hq : P.info? e with
  | none => simp [hq] at hs
  | some i =>
    simp only [hq, Option.map_some, Option.some.injEq] at hs
    have hz : (Go.sizeOf e).run P w = .ok sz w := by simp [Go.sizeOf, typeInfo, hq, hs]
    have h0 : (Builtin.firstCells sz 0 (.slice B 0 c)).run P w = .ok #[] w := by
      cases B with
      | none => simp [Builtin.firstCells]
      | some b => simp [Builtin.firstCells, loadCells, loadCellsFrom]
    cases A with
    | none => simp [Builtin.append_, run_underlying hu, hz, Builtin.lenOf, hk, h0]
    | some a => simp [Builtin.append_, run_underlying hu, hz, Builtin.lenOf, hk, h0, storeCells]
theorem r_app0 {dst : Option Tmp} {gd : Option (Nat × Bool)} {A B : Option Addr} {k cap c sz : Nat} (hu : P.underlying t = some (.slice e)) (hs : (P.info? e).map (·.size) = some sz) (hk : k ≤ cap) (hx : ev n f x = .slice A k cap) (hy : ev n f y = .slice B 0 c) :
    RV P n f w ⟨dst, .call { callee := .builtin .append, args := #[x, y], argTypes := #[t, t] }, ty, pos, af, gd⟩ (.slice A k cap) w := by
  have hr := run_app0 (P := P) (w := w) (ty := ty) (A := A) (B := B) (c := c) hu hs hk
  simp only [RV, execOp, resolve, invoke, builtin, Sem.run_bind, Sem.run_pure, Result.andThen_ok, List.map_toArray, List.map_cons, List.map_nil, hx, hy, hr]
theorem wl_appZ {tn : TypeId} {zv : Value} {sz by' k : Nat} (hu : P.underlying t = some (.slice e)) (hn : P.underlying tn = some (.int .i64)) (hi : (P.info? e).map (fun i => (i.zero, i.size, i.bytes)) = some (some zv, sz, by')) (hz : zv.cells.size = sz) (h0 : 0 < k) (hs : 0 < sz) (hb : k * by' ≤ 140737488355328) (h63 : k ≤ 4611686018427387904)
    (hx : ev n f x = .slice none 0 0) (hy : ev n f y = .int .i64 (k : Int))
    (K : ∀ b cap w1, Own w1 w.heap.size e sz (some ⟨b, 0, none⟩) 0 cap [] → Same [] w w1 → w.heap.size ≤ b → k ≤ cap → cap ≤ 9223372036854775807 → WL P ops Q rest n (upd f d (.slice (some ⟨b, 0, none⟩) k cap)) w1) :
    WL P ops Q (⟨some d, .call { callee := .builtin .append, args := #[x, y], argTypes := #[t, tn] }, ty, pos, af, none⟩ :: rest) n f w := by
  obtain ⟨i, hq, hzz⟩ := Option.map_eq_some_iff.1 hi
  simp only [Prod.mk.injEq] at hzz
  obtain ⟨z1, z2, z3⟩ := hzz
  have hold : (Builtin.firstCells i.size 0 (.slice none 0 0)).run P w.drew = .ok ([] : List Value).toArray w.drew := by simp [Builtin.firstCells]
  have hfit := growslice_fits (need := 0 + k) (old := 0) (bytes := i.bytes) om (by rw [Nat.zero_add, z3]; exact hb)
  have hr := Lib.run_append_grow_zeros w t tn ty e i zv .i64 .i64 hu hn hq z1 none 0 0 [] hold k h0 om om om (by rw [z3]; omega) hfit
  rw [Nat.zero_add] at hr
  have hge := grownCap_ge w k 0 e
  have hle := grownCap_le_maxLen w k 0 e (by unfold maxLen; omega)
  generalize grownCap w k 0 e = C at hr hge hle
  refine wl (v := .slice (some ⟨w.heap.size, 0, none⟩) k C) (w' := w.drew.alloc (.cells (#[] ++ Builtin.zeroCells zv.cells k ++ Builtin.zeroCells zv.cells (C - k)) e)) ?_ (K _ _ _ ?_ ?_ (Nat.le_refl _) hge (by unfold maxLen at hle; omega))
  · simp only [RV, execOp, resolve, invoke, builtin, Sem.run_bind, Sem.run_pure, Result.andThen_ok, List.map_toArray, List.map_cons, List.map_nil, hx, hy, hr]
  · refine ⟨by simp, .inr ⟨w.heap.size, C, _, rfl, Nat.le_refl _, heap_alloc_new w.drew _, Nat.zero_le _, hle, ?_, by simp⟩⟩
    simp only [Array.size_append, Builtin.zeroCells, Array.size_map, Array.size_range, hz]
    simp only [List.size_toArray, List.length_nil, Nat.zero_add, ← Nat.add_mul]
    rw [show k + (C - k) = C by omega]
  · have hd : Same [] w w.drew := ⟨rfl, rfl, rfl, Nat.le_refl _, fun _ _ _ => rfl⟩
    exact hd.trans (same_alloc w.drew _)
theorem wl_appL {zv : Value} {base sz by' k cap m c : Nat} {A B : Option Addr} {xs news : List Value} (hu : P.underlying t = some (.slice e)) (hi : (P.info? e).map (fun i => (i.zero, i.size, i.bytes)) = some (some zv, sz, by')) (hzs : zv.cells.size = sz) (hsz : 0 < sz)
    (hown : Own w base e sz A k cap xs) (hx : ev n f x = .slice A k cap) (hy : ev n f y = .slice B m c) (hn : 0 < m → ∃ b o', B = some ⟨b, o', none⟩ ∧ ∀ j u, news[j]? = some u → w.cell? ⟨b, o' + j, none⟩ = some u) (hl : news.length = m * sz) (h1 : news.all (·.oneCell') = true) (h63 : k + m ≤ 9223372036854775807) (hbytes : (k + m) * by' ≤ 140737488355328) (hbase : base ≤ w.heap.size)
    (K : ∀ A' cap' w1, Own w1 base e sz A' (k + m) cap' (xs ++ news) → Same (aL A) w w1 → (∀ g ∈ aL A', g ∈ aL A ∨ w.heap.size ≤ g) → WL P ops Q rest n (upd f d (.slice A' (k + m) cap')) w1) :
    WL P ops Q (⟨some d, .call { callee := .builtin .append, args := #[x, y], argTypes := #[t, t] }, ty, pos, af, none⟩ :: rest) n f w := by
  by_cases hm : 0 < m
  · obtain ⟨b, o', rfl, hc⟩ := hn hm
    refine wl_appC hu hi hzs hsz hown hx hy hc hl h1 hm h63 hbytes hbase (fun g cap' w1 ho hs hg => K _ _ _ ho hs (fun g' hg' => ?_))
    have e1 : g' = g := List.mem_singleton.1 hg'
    subst e1
    rcases hg with hg | hg
    · exact .inl (by rw [hg]; simp)
    · exact .inr hg
  · obtain rfl : m = 0 := by omega
    obtain rfl : news = [] := List.length_eq_zero_iff.1 (by simpa using hl)
    have hs : (P.info? e).map (·.size) = some sz := by
      obtain ⟨i, hq, hzz⟩ := Option.map_eq_some_iff.1 hi
      simp only [Prod.mk.injEq] at hzz
      simp [hq, hzz.2.1]
    refine wl (r_app0 hu hs hown.cap_le hx hy) ?_
    exact K A cap w (by simpa using hown) (Same.refl _ _) (fun g hg => .inl hg)
end eng3
end Go.Proofs.YteoncmfiiknfbaaDoor
namespace Go.Proofs.YteoncmfiiknfbaaDoor
open Go.RowKit
section eng4
variable {P : Program} {Q : Exit → Act → World → Prop} {n : Nat} {f : Fr} {w w' : World} {ops : Array Oper} {rest : List Oper} {d : Tmp} {ty t e : TypeId} {pos : String} {af : Array Edge} {x y : Operand}
theorem r_nc {dst : Option Tmp} {gd : Option (Nat × Bool)} {a : Addr} (hx : ev n f x = .pointer (some a)) :
    RV P n f w ⟨dst, .nilCheck x, ty, pos, af, gd⟩ (.pointer (some a)) w := by simp [RV, execOp, hx]
variable {base sz k cap : Nat} {A : Option Addr} {xs : List Value}
theorem Own.open_ (h : Own w base e sz A k cap xs) (hk : 0 < k) : ∃ (g : Nat) (cur : Array Value), A = some ⟨g, 0, none⟩ ∧ base ≤ g ∧ Blk w g e cur ∧ k * sz ≤ cur.size ∧ (∀ j, j < k * sz → cur[j]? = xs[j]?) ∧ ∀ w1 o v, Blk w1 g e (cur.setIfInBounds o v) → Own w1 base e sz (some ⟨g, 0, none⟩) k cap (xs.set o v) := by
  rcases h.2 with ⟨_, hn⟩ | ⟨g, c, cur, hv, hb, hg, hkc, hm, hs, ht⟩
  · omega
  · cases hv
    have hle : k * sz ≤ cap * sz := Nat.mul_le_mul_right sz hkc
    refine ⟨g, cur, rfl, hb, hg, by omega, fun j hj => ?_, fun w1 o v hw => ⟨by rw [List.length_set]; exact h.1, .inr ⟨g, cap, _, rfl, hb, hw, hkc, hm, by rw [Array.size_setIfInBounds]; exact hs, ?_⟩⟩⟩
    · rw [← ht, List.getElem?_take_of_lt hj]; simp
    · rw [Array.toList_setIfInBounds, List.take_set, ht]
theorem own_ne {b1 b2 s1 s2 k1 k2 c1 c2 : Nat} {e1 e2 : TypeId} {A1 A2 : Option Addr} {x1 x2 : List Value} (h : Own w b1 e1 s1 A1 k1 c1 x1) (k : Own w b2 e2 s2 A2 k2 c2 x2) (hne : e1 ≠ e2) : ∀ g ∈ aL A1, ¬ g ∈ aL A2 := fun g h1 h2 => by
  have ht : ∀ {b s k c : Nat} {e : TypeId} {A : Option Addr} {x : List Value}, Own w b e s A k c x → g ∈ aL A → ∃ cs, Blk w g e cs := fun h hg => by
    rcases h.2 with ⟨hv, _⟩ | ⟨g', c', cur, hv, _, hb, _⟩
    · cases hv; cases hg
    · cases hv
      simp only [aL, List.mem_singleton] at hg
      subst hg; exact ⟨cur, hb⟩
  obtain ⟨c1, q1⟩ := ht h h1
  obtain ⟨c2, q2⟩ := ht k h2
  exact hne (blk_type q1 q2)
def rowL (n : Nat) (g : Nat → Value) : List Value := (List.range n).map g
theorem rowL_len (n : Nat) (g : Nat → Value) : (rowL n g).length = n := by simp [rowL]
theorem rowL_get {n j : Nat} {g : Nat → Value} (h : j < n) : (rowL n g)[j]? = some (g j) := by simp [rowL, h]
theorem rowL_congr {n : Nat} {g g' : Nat → Value} (h : ∀ j, j < n → g j = g' j) : rowL n g = rowL n g' := List.map_congr_left (fun j hj => h j (List.mem_range.1 hj))
theorem rowL_set {n i : Nat} {g : Nat → Value} {v : Value} : (rowL n g).set i v = rowL n (fun x => if x = i then v else g x) := by
  refine List.ext_getElem (by simp [rowL]) (fun j h1 h2 => ?_)
  simp only [rowL, List.getElem_set, List.getElem_map, List.getElem_range]
  by_cases e : i = j
  · subst e; simp
  · rw [if_neg e, if_neg (fun h => e h.symm)]
theorem rowL_snoc {n : Nat} {g : Nat → Value} {v : Value} : rowL n g ++ [v] = rowL (n + 1) (fun x => if x < n then g x else v) := by
  unfold rowL
  rw [List.range_succ, List.map_append, List.map_cons, List.map_nil, if_neg (Nat.lt_irrefl n)]
  refine congrArg (· ++ [v]) (List.map_congr_left (fun j hj => ?_))
  rw [if_pos (List.mem_range.1 hj)]
theorem Own.rowc {g : Nat → Value} {m : Nat} (h : Own w base e 1 A m cap (rowL m g)) {j : Nat} (hj : j < m) : ∃ q, A = some ⟨q, 0, none⟩ ∧ base ≤ q ∧ q < w.heap.size ∧ w.cell? ⟨q, 0 + j * 1, none⟩ = some (g j) := by
  have hne : rowL m g ≠ [] := fun e => by have := congrArg List.length e; rw [rowL_len] at this; simp at this; omega
  obtain ⟨q, h1, h2, h3, h4⟩ := h.cell hne
  have e0 : 0 + j * 1 = j := by omega
  exact ⟨q, h1, h2, h3, by rw [e0]; exact h4 j _ (rowL_get hj)⟩
end eng4
end Go.Proofs.YteoncmfiiknfbaaDoor
