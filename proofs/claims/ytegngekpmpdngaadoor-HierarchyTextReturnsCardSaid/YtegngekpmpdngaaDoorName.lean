/- What the data of hierarchies are as plain values, and how a world holds them. Arguments opened: slices of ints and of structs, as the readings of data give them. Nothing here speaks of one program. Structs of a string and two ints, compared. No program in sight. What these functions of the program compute, at every world: glosswright/term.Name, glosswright/hierarchy.fault. -/
import Derived.Test.YtegngekpmpdngaaDoorEng2
import Derived.ChangeSame
import Derived.ChangeArms
import Derived.Clock
import Derived.Carry
import Derived.OpenShut
import Derived.Deep.Slices
import Derived.Deep.Strs
import Derived.Lib.SmallJoins
import Derived.Test.YtegngekpmpdngaaDoorU
import Derived.Test.YtegngekpmpdngaaDoorProg
namespace Go.Proofs.YtegngekpmpdngaaDoor
open Go.RowKit
structure Ty where
  name : ByteArray
  par : List Int
structure Ft where
  name : ByteArray
  of : Int
  val : Int
abbrev Fl := Int × Int
def flV (p : Fl) : Value := .agg #[.int .i64 p.1, .int .i64 p.2]
theorem ret_fl {c i : Int} {p : Fl} (h : p = (c, i)) : Ending.returned (.agg [.int .i64 c, .int .i64 i].toArray) = .returned (flV p) := by rw [h]; rfl
def maxI : Nat := 9223372036854775807
def IntsIn (w : World) (A : Option Addr) (xs : List Int) : Prop :=
  xs.length ≤ maxI ∧ (xs ≠ [] → ∃ b o, A = some ⟨b, o, none⟩ ∧ b < w.heap.size ∧ ∀ k (h : k < xs.length), w.cell? ⟨b, o + k * 1, none⟩ = some (.int .i64 xs[k]))
theorem IntsIn.mono {w w' : World} {A : Option Addr} {xs : List Int} (h : IntsIn w A xs) (hb : Bel w w') : IntsIn w' A xs :=
  ⟨h.1, fun hn => by
    obtain ⟨b, o, e, hl, hc⟩ := h.2 hn
    exact ⟨b, o, e, nLL hl hb.size, fun k hk => hb.cell hl (hc k hk)⟩⟩
theorem IntsIn.at_ {w : World} {A : Option Addr} {xs : List Int} (h : IntsIn w A xs) {k : Nat} (hk : k < xs.length) :
    ∃ b o, A = some ⟨b, o, none⟩ ∧ b < w.heap.size ∧ w.cell? ⟨b, o + k * 1, none⟩ = some (.int .i64 xs[k]) := by
  obtain ⟨b, o, e, hl, hc⟩ := h.2 (by rintro rfl; simp at hk)
  exact ⟨b, o, e, hl, hc k hk⟩
def TyIn (w : World) (b o : Nat) (t : Ty) : Prop := ∃ A c, w.rangeAt b o [.string t.name, .slice A t.par.length c] ∧ IntsIn w A t.par
def TypesIn (w : World) (A : Option Addr) (l : List Ty) : Prop :=
  l.length ≤ maxI ∧ (l ≠ [] → ∃ b o, A = some ⟨b, o, none⟩ ∧ b < w.heap.size ∧ ∀ k (h : k < l.length), TyIn w b (o + k * 2) l[k])
theorem TyIn.mono {w w' : World} {b o : Nat} {t : Ty} (h : TyIn w b o t) (hb : Bel w w') (hl : b < w.heap.size) : TyIn w' b o t := by
  obtain ⟨A, c, h1, h2⟩ := h
  exact ⟨A, c, hb.range hl h1, h2.mono hb⟩
theorem TypesIn.mono {w w' : World} {A : Option Addr} {l : List Ty} (h : TypesIn w A l) (hb : Bel w w') : TypesIn w' A l :=
  ⟨h.1, fun hn => by
    obtain ⟨b, o, e, hl, hc⟩ := h.2 hn
    exact ⟨b, o, e, nLL hl hb.size, fun k hk => (hc k hk).mono hb hl⟩⟩
theorem TypesIn.at_ {w w' : World} {A : Option Addr} {l : List Ty} (h : TypesIn w A l) (hb : Bel w w') {k : Nat} (hk : k < l.length) :
    ∃ b o A' c, A = some ⟨b, o, none⟩ ∧ b < w.heap.size ∧ w'.rangeAt b (o + k * 2) [.string (l[k]).name, .slice A' (l[k]).par.length c] ∧ IntsIn w A' (l[k]).par := by
  obtain ⟨b, o, e, hl, hc⟩ := h.2 (by rintro rfl; simp at hk)
  obtain ⟨A', c, h1, h2⟩ := hc k hk
  exact ⟨b, o, A', c, e, hl, hb.range hl h1, h2⟩
def FtIn (w : World) (b o : Nat) (t : Ft) : Prop := w.rangeAt b o [.string t.name, .int .i64 t.of, .int .i64 t.val]
def FeatsIn (w : World) (A : Option Addr) (l : List Ft) : Prop :=
  l.length ≤ maxI ∧ (l ≠ [] → ∃ b o, A = some ⟨b, o, none⟩ ∧ b < w.heap.size ∧ ∀ k (h : k < l.length), FtIn w b (o + k * 3) l[k])
theorem FeatsIn.mono {w w' : World} {A : Option Addr} {l : List Ft} (h : FeatsIn w A l) (hb : Bel w w') : FeatsIn w' A l :=
  ⟨h.1, fun hn => by
    obtain ⟨b, o, e, hl, hc⟩ := h.2 hn
    exact ⟨b, o, e, nLL hl hb.size, fun k hk => hb.range hl (hc k hk)⟩⟩
theorem FeatsIn.at_ {w w' : World} {A : Option Addr} {l : List Ft} (h : FeatsIn w A l) (hb : Bel w w') {k : Nat} (hk : k < l.length) :
    ∃ b o, A = some ⟨b, o, none⟩ ∧ b < w.heap.size ∧ w'.rangeAt b (o + k * 3) [.string (l[k]).name, .int .i64 (l[k]).of, .int .i64 (l[k]).val] := by
  obtain ⟨b, o, e, hl, hc⟩ := h.2 (by rintro rfl; simp at hk)
  exact ⟨b, o, e, hl, hb.range hl (hc k hk)⟩
def parFault (i : Int) : Int → List Int → Int
  | _, [] => 0
  | last, p :: ps => if p < 0 ∨ i ≤ p then 3 else if p ≤ last then 13 else parFault i p ps
def firstF (f : Nat → Int) : Nat → Nat → Fl
  | _, 0 => (0, 0)
  | i, m + 1 => if f i ≠ 0 then (f i, (i : Int)) else firstF f (i + 1) m
theorem firstF_hit {f : Nat → Int} {i m : Nat} {c : Int} (hm : 0 < m) (hc : f i = c) (h : c ≠ 0) : firstF f i m = (c, (i : Int)) := by
  subst hc
  cases m with
  | zero => omega
  | succ m => simp [firstF, h]
theorem firstF_miss {f : Nat → Int} {i n : Nat} (hm : i < n) (h : f i = 0) : firstF f i (n - i) = firstF f (i + 1) (n - (i + 1)) := by
  obtain ⟨m, hm'⟩ : ∃ m, n - i = m + 1 := ⟨n - i - 1, by omega⟩
  rw [hm', show n - (i + 1) = m from by omega]
  simp [firstF, h]
theorem firstF_end {f : Nat → Int} {i n : Nat} (h : n ≤ i) : firstF f i (n - i) = (0, 0) := by
  rw [show n - i = 0 from by omega]; rfl
def seen (l : List ByteArray) (s : ByteArray) : Bool := l.any (fun u => decide (u = s))
theorem seen_snoc (l : List ByteArray) (u s : ByteArray) : seen (l ++ [u]) s = (seen l s || decide (u = s)) := by simp [seen]
theorem take_snoc {α : Type} (l : List α) {k : Nat} (hk : k < l.length) : l.take (k + 1) = l.take k ++ [l[k]] := by
  rw [List.take_succ_eq_append_getElem hk]
end Go.Proofs.YtegngekpmpdngaaDoor
namespace Go.Proofs.YtegngekpmpdngaaDoor
open Go.RowKit Go.ChangeShapes Go.WideShapes Go.Deep Go.Joins
theorem choose_list {α : Type} {n : Nat} {p : Nat → α → Prop} (h : ∀ i, i < n → ∃ x, p i x) : ∃ l : List α, l.length = n ∧ ∀ k (hk : k < l.length), p k l[k] := by
  induction n with
  | zero => exact ⟨[], rfl, fun k hk => by simp at hk⟩
  | succ n ih =>
    obtain ⟨l, hl, hp⟩ := ih (fun i hi => h i om)
    obtain ⟨x, hx⟩ := h n om
    refine ⟨l ++ [x], by simp [hl], fun k hk => ?_⟩
    by_cases e : k < l.length
    · rw [List.getElem_append_left e]; exact hp k e
    · have e2 : k = l.length := by simp at hk; omega
      subst e2
      have e3 : (l ++ [x])[l.length]'hk = x := by simp
      rw [e3, hl]; exact hx
section
variable {H : Type} {enc : TypeId × Value → H} {P : Program} {w : World} {base : Nat} {spare : Nat → Bool} {held : Bool}
theorem one_val {v v' : Value} (h : [v] = [v']) : v = v' := by cases h; rfl
theorem sl_open {t e : TypeId} {sz fuel : Nat} {v : Value} {x : DataW H × List MemPlace} (ht : P.underlying t = some (.slice e)) (hsz : P.cellsOf e = sz) (hpos : 0 < sz) (h : DataW.trod enc P w base spare held fuel t [v] = some x) :
    ∃ A len c, v = .slice A len c ∧ len ≤ c ∧ c ≤ maxI ∧ (len ≠ 0 → ∃ b o, A = some ⟨b, o, none⟩ ∧ b < w.heap.size ∧ ∀ i, i < len → ∃ cs k y, cs.length = sz ∧ w.rangeAt b (o + i * sz) cs ∧ DataW.trod enc P w base spare held k e cs = some y) := by
  rcases open_slice ht h with ⟨hc, _⟩ | ⟨a, len, cap, m, n, D, Pl, hc, hb, hl, hm, hmm, _, hi⟩
  · rw [one_val hc]
    exact ⟨none, 0, 0, rfl, Nat.le_refl _, Nat.zero_le _, fun h => absurd rfl h⟩
  · rw [one_val hc]
    rw [hsz] at hi
    refine ⟨some a, len, cap, rfl, hl, hm, fun h0 => ?_⟩
    have hlm : len ≤ m := by rw [hmm]; split <;> omega
    obtain ⟨b, o, s⟩ := a
    have hsp : s = none ∧ b < w.heap.size := by
      obtain ⟨cs, h1, _⟩ := hi 0 om
      obtain ⟨_, h3, h4⟩ := World.cells?_some h1
      have h5 := h4 0 hpos
      have h6 : cs[0]? = some (cs[0]'om) := List.getElem?_eq_getElem om
      have h7 : (Addr.add (Addr.add ⟨b, o, s⟩ (0 * sz)) 0) = ⟨b, o, s⟩ := by simp [Addr.add]
      rw [h7, h6] at h5
      exact ⟨World.cell?_spot h5, Go.Clock.block_lt h5⟩
    obtain ⟨rfl, hlt⟩ := hsp
    refine ⟨b, o, rfl, hlt, fun i hil => ?_⟩
    obtain ⟨cs, h1, h2⟩ := hi i om
    obtain ⟨_, h3, h4⟩ := World.cells?_some h1
    refine ⟨cs, n, _, h3, fun j v hj => ?_, h2⟩
    have hjl := (List.getElem?_eq_some_iff.1 hj).1
    have h5 := h4 j om
    rw [Addr.add_mid, Addr.add_mid] at h5
    rw [h5]; exact hj
theorem ints_open {t e : TypeId} {fuel : Nat} {v : Value} {x : DataW H × List MemPlace} (ht : P.underlying t = some (.slice e)) (he : P.underlying e = some (.int .i64)) (hsz : P.cellsOf e = 1) (h : DataW.trod enc P w base spare held fuel t [v] = some x) :
    ∃ A xs c, v = .slice A (List.length xs) c ∧ xs.length ≤ c ∧ IntsIn w A xs := by
  obtain ⟨A, len, c, rfl, hl, hm, hx⟩ := sl_open ht hsz dE h
  by_cases h0 : len = 0
  · subst h0
    exact ⟨A, [], c, rfl, Nat.zero_le _, Nat.zero_le _, fun h => absurd rfl h⟩
  · obtain ⟨b, o, rfl, hlt, hc⟩ := hx h0
    obtain ⟨xs, hxl, hxs⟩ := choose_list (p := fun i (z : Int) => w.cell? ⟨b, o + i * 1, none⟩ = some (.int .i64 z)) (n := len) (fun i hi => by
      obtain ⟨cs, k, y, h1, h2, h3⟩ := hc i hi
      obtain ⟨z, rfl, _, _⟩ := DataW.trod_int he h3
      exact ⟨z, h2 0 _ rfl⟩)
    subst hxl
    exact ⟨_, xs, c, rfl, hl, nLT hl hm, fun _ => ⟨b, o, rfl, hlt, hxs⟩⟩
theorem two_cells {e : TypeId} {f0 f1 : Field} {fuel : Nat} {cs : List Value} {x : DataW H × List MemPlace} (he : P.underlying e = some (.struct #[f0, f1])) (hl : cs.length = 2) (o0 : f0.offset = 0) (o1 : f1.offset = 1) (c0 : P.cellsOf f0.type = 1) (c1 : P.cellsOf f1.type = 1) (h : DataW.trod enc P w base spare held fuel e cs = some x) :
    ∃ v0 v1 n y0 y1, cs = [v0, v1] ∧ DataW.trod enc P w base spare held n f0.type [v0] = some y0 ∧ DataW.trod enc P w base spare held n f1.type [v1] = some y1 := by
  obtain ⟨y0, y1, n, _, _, h0, h1⟩ := trod_struct2 he h
  match cs, hl with
  | [v0, v1], _ =>
    simp [o0, o1, c0, c1] at h0 h1
    exact ⟨v0, v1, n, y0, y1, rfl, h0, h1⟩
theorem three_cells {e : TypeId} {f0 f1 f2 : Field} {fuel : Nat} {cs : List Value} {x : DataW H × List MemPlace} (he : P.underlying e = some (.struct #[f0, f1, f2])) (hl : cs.length = 3) (o0 : f0.offset = 0) (o1 : f1.offset = 1) (o2 : f2.offset = 2) (c0 : P.cellsOf f0.type = 1) (c1 : P.cellsOf f1.type = 1) (c2 : P.cellsOf f2.type = 1) (h : DataW.trod enc P w base spare held fuel e cs = some x) :
    ∃ v0 v1 v2 n y0 y1 y2, cs = [v0, v1, v2] ∧ DataW.trod enc P w base spare held n f0.type [v0] = some y0 ∧ DataW.trod enc P w base spare held n f1.type [v1] = some y1 ∧ DataW.trod enc P w base spare held n f2.type [v2] = some y2 := by
  obtain ⟨y0, y1, y2, n, _, _, h0, h1, h2⟩ := trod_struct3 he h
  match cs, hl with
  | [v0, v1, v2], _ =>
    simp [o0, o1, o2, c0, c1, c2] at h0 h1 h2
    exact ⟨v0, v1, v2, n, y0, y1, y2, rfl, h0, h1, h2⟩
theorem types_open {t e ts ti tis : TypeId} {f0 f1 : Field} {fuel : Nat} {v : Value} {x : DataW H × List MemPlace} (ht : P.underlying t = some (.slice e)) (he : P.underlying e = some (.struct #[f0, f1])) (hsz : P.cellsOf e = 2) (o0 : f0.offset = 0) (o1 : f1.offset = 1) (e0 : f0.type = ts) (e1 : f1.type = tis) (hs : P.underlying ts = some .string) (hcs : P.cellsOf ts = 1) (hci : P.cellsOf tis = 1)
    (hti : P.underlying tis = some (.slice ti)) (hi : P.underlying ti = some (.int .i64)) (hc1 : P.cellsOf ti = 1) (h : DataW.trod enc P w base spare held fuel t [v] = some x) :
    ∃ A l c, v = .slice A (List.length l) c ∧ l.length ≤ c ∧ TypesIn w A l := by
  subst e0 e1
  obtain ⟨A, len, c, rfl, hl, hm, hx⟩ := sl_open ht hsz dE h
  by_cases h0 : len = 0
  · subst h0
    exact ⟨A, [], c, rfl, Nat.zero_le _, Nat.zero_le _, fun h => absurd rfl h⟩
  · obtain ⟨b, o, rfl, hlt, hc⟩ := hx h0
    obtain ⟨l, hxl, hxs⟩ := choose_list (p := fun i (z : Ty) => TyIn w b (o + i * 2) z) (n := len) (fun i hi' => by
      obtain ⟨cs, k, y, h1, h2, h3⟩ := hc i hi'
      obtain ⟨v0, v1, n, y0, y1, rfl, g0, g1⟩ := two_cells he h1 o0 o1 hcs hci h3
      obtain ⟨s, h4, _, _⟩ := DataW.trod_string hs g0
      obtain ⟨A', xs, c', rfl, _, hin⟩ := ints_open hti hi hc1 g1
      rw [one_val h4] at h2
      exact ⟨⟨s, xs⟩, A', c', h2, hin⟩)
    subst hxl
    exact ⟨_, l, c, rfl, hl, nLT hl hm, fun _ => ⟨b, o, rfl, hlt, hxs⟩⟩
theorem feats_open {t e ts ti : TypeId} {f0 f1 f2 : Field} {fuel : Nat} {v : Value} {x : DataW H × List MemPlace} (ht : P.underlying t = some (.slice e)) (he : P.underlying e = some (.struct #[f0, f1, f2])) (hsz : P.cellsOf e = 3) (o0 : f0.offset = 0) (o1 : f1.offset = 1) (o2 : f2.offset = 2) (e0 : f0.type = ts) (e1 : f1.type = ti) (e2 : f2.type = ti) (hs : P.underlying ts = some .string) (hcs : P.cellsOf ts = 1)
    (hi : P.underlying ti = some (.int .i64)) (hc1 : P.cellsOf ti = 1) (h : DataW.trod enc P w base spare held fuel t [v] = some x) :
    ∃ A l c, v = .slice A (List.length l) c ∧ l.length ≤ c ∧ FeatsIn w A l := by
  subst e0
  obtain ⟨A, len, c, rfl, hl, hm, hx⟩ := sl_open ht hsz dE h
  by_cases h0 : len = 0
  · subst h0
    exact ⟨A, [], c, rfl, Nat.zero_le _, Nat.zero_le _, fun h => absurd rfl h⟩
  · obtain ⟨b, o, rfl, hlt, hc⟩ := hx h0
    obtain ⟨l, hxl, hxs⟩ := choose_list (p := fun i (z : Ft) => FtIn w b (o + i * 3) z) (n := len) (fun i hi' => by
      obtain ⟨cs, k, y, h1, h2, h3⟩ := hc i hi'
      obtain ⟨v0, v1, v2, n, y0, y1, y2, rfl, g0, g1, g2⟩ := three_cells he h1 o0 o1 o2 hcs (by rw [e1]; exact hc1) (by rw [e2]; exact hc1) h3
      rw [e1] at g1
      rw [e2] at g2
      obtain ⟨s, h4, _, _⟩ := DataW.trod_string hs g0
      obtain ⟨z1, h5, _, _⟩ := DataW.trod_int hi g1
      obtain ⟨z2, h6, _, _⟩ := DataW.trod_int hi g2
      rw [one_val h4, one_val h5, one_val h6] at h2
      exact ⟨⟨s, z1, z2⟩, h2⟩)
    subst hxl
    exact ⟨_, l, c, rfl, hl, nLT hl hm, fun _ => ⟨b, o, rfl, hlt, hxs⟩⟩
theorem post_bel {f : Func} {s : ChangeSpec} {apart fresh handsOn again : Bool} {W W' : World} {args : Array Value} {v : Value} {ds gs : List (DataW H)} {before pa pv : List MemPlace} (hW : DataW.Whole enc P f.params.toList s.vars apart W args.toList ds gs before)
    (hres : ∀ (b : Nat) (sp : Nat → Bool) (hd : Bool), DataW.TrodAll enc P W' b sp hd f.resultTypes.toList (v.resultList f.resultTypes.size) (s.fn H (ds ++ gs)).results [])
    (hargs : ∀ sp : Nat → Bool, (∀ p ∈ before, sp p.block = true) → DataW.TrodAll enc P W' 0 sp true f.params.toList args.toList (s.fn H (ds ++ gs)).args pa)
    (hvars : ∀ sp : Nat → Bool, (∀ p ∈ before, sp p.block = true) → DataW.TrodVars enc P W' sp s.vars (s.fn H (ds ++ gs)).vars pv)
    (hps : before = pa ++ pv) (hb : Bel W W')
    (hok : ∀ (j : Nat) (t : TypeId) (r : Value), f.resultTypes[j]? = some t → (v.resultList f.resultTypes.size)[j]? = some r → Value.okWide P W' .any 0 t r) :
    s.post enc P f apart fresh handsOn again W args v W' := by
  have hlt := fun p hp => hW.lt p hp
  have hold : ∀ p ∈ before, (fun b => decide (b < W.heap.size)) p.block = true := fun p hp => by simpa using hlt p hp
  refine ⟨ds, gs, before, [], pa, pv, hW, hres _ _ _, hargs _ hold, hvars _ hold, World.keptBut_mono (fun p hp => ⟨hp, ?_⟩) (hb.frame (· ∈ before)), fun _ => ?_⟩
  · rw [hps, List.mem_append] at hp; exact .inr hp
  obtain ⟨_, _, _, _, _, hz, hn⟩ := hW
  refine ⟨hok, _, _, ([] ++ pa) ++ pv, ⟨[] ++ pa, pv, trodAll_append (hargs _ (fun _ _ => rfl)) (hres _ _ _), hvars _ (fun _ _ => rfl), rfl, fun b off hp => ?_, fun ha => ?_⟩, fun p hp _ => ?_⟩
  · have hin : MemPlace.cell b off ∈ before := by rw [hps]; simpa using hp
    rw [hb.frozen (hlt _ hin)]; exact hz b off hin
  · have := hn ha
    rw [hps] at this; simpa using this
  · rw [hps]; simpa using hp
end
end Go.Proofs.YtegngekpmpdngaaDoor
namespace Go.Proofs.YtegngekpmpdngaaDoor
open Go.RowKit
theorem ft_ext {a b : Ft} (h : a.name = b.name ∧ a.of = b.of ∧ a.val = b.val) : a = b := by
  cases a; cases b
  obtain ⟨h1, h2, h3⟩ := h
  simp only at h1 h2 h3
  rw [h1, h2, h3]
theorem ty_ext {a b : Ty} (h1 : a.name = b.name) (h2 : a.par = b.par) : a = b := by
  cases a; cases b
  simp only at h1 h2
  rw [h1, h2]
section eqs
variable {P : Program} {Q : Exit → Act → World → Prop} {n : Nat} {f : Fr} {w w' : World} {ty t' : TypeId} {pos : String} {af : Array Edge} {dst : Option Tmp} {gd : Option (Nat × Bool)} {x y : Operand} {t ts ti : TypeId} {s s' : ByteArray} {a b a' b' : Int}
theorem run_eq3 (ht : P.underlying t = some (.struct (P.fieldsOf t))) (hs : P.stoodInHeld t = false) (hf : (P.fieldsOf t).toList.map (fun f => (f.name == "_", f.type, f.offset)) = [(false, ts, 0), (false, ti, 1), (false, ti, 2)]) (hst : P.underlying ts = some .string) (hi : P.underlying ti = some (.int .i64)) :
    (Op.equalIn 10000 t (.agg #[.string s, .int .i64 a, .int .i64 b]) (.agg #[.string s', .int .i64 a', .int .i64 b'])).run P w = .ok (decide (s = s' ∧ a = a' ∧ b = b')) w := by
  rw [run_equalIn_agg w 9999 t _ _ ht hs]
  generalize (P.fieldsOf t).toList = fs at hf
  obtain ⟨f0, f1, f2, rfl⟩ : ∃ f0 f1 f2, fs = [f0, f1, f2] := by
    have hl := congrArg List.length hf
    simp only [List.length_map, List.length_cons, List.length_nil] at hl
    match fs, hl with
    | [f0, f1, f2], _ => exact ⟨f0, f1, f2, rfl⟩
  simp only [List.map_cons, List.map_nil, List.cons.injEq, Prod.mk.injEq, and_true, beq_eq_false_iff_ne] at hf
  obtain ⟨⟨h1, h2, h3⟩, ⟨h4, h5, h6⟩, h7, h8, h9⟩ := hf
  have p1 : (part f0.type #[.string s, .int .i64 a, .int .i64 b] f0.offset).run P w = .ok (.string s) w := by rw [h2, h3]; exact run_part1 hst rfl rfl
  have p2 : (part f0.type #[.string s', .int .i64 a', .int .i64 b'] f0.offset).run P w = .ok (.string s') w := by rw [h2, h3]; exact run_part1 hst rfl rfl
  have p3 : (part f1.type #[.string s, .int .i64 a, .int .i64 b] f1.offset).run P w = .ok (.int .i64 a) w := by rw [h5, h6]; exact run_part1 hi rfl rfl
  have p4 : (part f1.type #[.string s', .int .i64 a', .int .i64 b'] f1.offset).run P w = .ok (.int .i64 a') w := by rw [h5, h6]; exact run_part1 hi rfl rfl
  have p5 : (part f2.type #[.string s, .int .i64 a, .int .i64 b] f2.offset).run P w = .ok (.int .i64 b) w := by rw [h8, h9]; exact run_part1 hi rfl rfl
  have p6 : (part f2.type #[.string s', .int .i64 a', .int .i64 b'] f2.offset).run P w = .ok (.int .i64 b') w := by rw [h8, h9]; exact run_part1 hi rfl rfl
  have e0 := run_equalIn_string (P := P) w 9998 f0.type s s' (by rw [h2]; exact hst)
  have es : (s.toList == s'.toList) = decide (s = s') := by rw [Bool.eq_iff_iff]; simp [toList_eq_iff]
  rw [es] at e0
  have e1 := run_equalIn_int (P := P) w 9998 f1.type .i64 .i64 a a' (by rw [h5]; exact hi)
  have e2 := run_equalIn_int (P := P) w 9998 f2.type .i64 .i64 b b' (by rw [h8]; exact hi)
  simp only [Op.eqFields, h1, h4, h7, ne_eq, not_false_eq_true, if_true, Sem.run_bind, p1, p2, Result.andThen_ok, e0]
  by_cases hs1 : s = s'
  · subst hs1
    simp only [decide_true, Bool.not_true, Bool.false_eq_true, if_false, Sem.run_bind, p3, p4, Result.andThen_ok, e1]
    by_cases hac : a = a'
    · subst hac
      simp only [beq_self_eq_true, Bool.not_true, Bool.false_eq_true, if_false, Sem.run_bind, p5, p6, Result.andThen_ok, e2]
      by_cases hbd : b = b'
      · simp [hbd, Sem.run_pure]
      · simp [hbd, Sem.run_pure]
    · simp [hac, Sem.run_pure]
  · simp [hs1, Sem.run_pure]
theorem r_ne3 (hm : P.eqGuardType P.depth t = false) (ht : P.underlying t = some (.struct (P.fieldsOf t))) (hs : P.stoodInHeld t = false) (hf : (P.fieldsOf t).toList.map (fun f => (f.name == "_", f.type, f.offset)) = [(false, ts, 0), (false, ti, 1), (false, ti, 2)]) (hst : P.underlying ts = some .string) (hi : P.underlying ti = some (.int .i64))
    (hx : ev n f x = .agg #[.string s, .int .i64 a, .int .i64 b]) (hy : ev n f y = .agg #[.string s', .int .i64 a', .int .i64 b']) : RV P n f w ⟨dst, .binOp .neq t x y t', ty, pos, af, gd⟩ (.bool (decide (¬ (s = s' ∧ a = a' ∧ b = b')))) w := by
  have h1 := run_eq3 (P := P) (w := w) (s := s) (s' := s') (a := a) (b := b) (a' := a') (b' := b') ht hs hf hst hi
  have h2 := run_eqGuard_agg (P := P) w .neq t x y #[.string s, .int .i64 a, .int .i64 b] #[.string s', .int .i64 a', .int .i64 b'] hm
  simp only [RV, execOp, hx, hy, Sem.run_bind, h2, Result.andThen_ok, run_neq_struct, h1, Sem.run_pure, decide_not]
end eqs
end Go.Proofs.YtegngekpmpdngaaDoor
namespace Go.Proofs.YtegngekpmpdngaaDoor
open Go.RowKit
def nameCh (c : UInt8) : Bool := decide (97 ≤ c.toNat ∧ c.toNat ≤ 122) || decide (48 ≤ c.toNat ∧ c.toNat ≤ 57) || decide (c.toNat = 95) || decide (c.toNat = 45)
theorem nameCh_iff (c : UInt8) : nameCh c = true ↔ ((97 ≤ c.toNat ∧ c.toNat ≤ 122) ∨ (48 ≤ c.toNat ∧ c.toNat ≤ 57) ∨ c.toNat = 95 ∨ c.toNat = 45) := by simp [nameCh, or_assoc]
def nameHd : List UInt8 → Bool
  | [] => false
  | c :: _ => decide (97 ≤ c.toNat ∧ c.toNat ≤ 122)
def isName (s : ByteArray) : Bool := decide (s.size ≤ 30) && nameHd s.data.toList && s.data.toList.all nameCh
theorem ret_bool {a b : Bool} (h : a = b) : Ending.returned (.bool b) = .returned (.bool a) := by rw [h]
theorem hd_num (s : ByteArray) : ∃ c0 : Nat, ∀ h : 0 < s.size, (s[0]'h).toNat = c0 := by
  by_cases h : 0 < s.size
  · exact ⟨(s[0]'h).toNat, fun _ => rfl⟩
  · exact ⟨0, fun h' => absurd h' h⟩
theorem isName_eq (s : ByteArray) (c0 : Nat) (e0 : ∀ h : 0 < s.size, (s[0]'h).toNat = c0) :
    isName s = decide ((s.size ≠ 0 ∧ s.size ≤ 30) ∧ (97 ≤ c0 ∧ c0 ≤ 122) ∧ (∀ k (hk : k < s.size), nameCh (s[k]'hk) = true)) := by
  have ha : (s.data.toList.all nameCh = true) ↔ (∀ k (hk : k < s.size), nameCh (s[k]'hk) = true) := by
    rw [List.all_eq_true]
    constructor
    · intro h k hk
      exact h _ (List.getElem_mem (l := s.data.toList) (n := k) (by simpa using hk))
    · intro h x hx
      obtain ⟨k, hk, rfl⟩ := List.mem_iff_getElem.1 hx
      exact h k (by simpa using hk)
  have hh : ∀ h : 0 < s.size, nameHd s.data.toList = decide (97 ≤ c0 ∧ c0 ≤ 122) := by
    intro h
    rw [← e0 h]
    obtain ⟨⟨l⟩⟩ := s
    cases l with
    | nil => exact absurd h dE
    | cons c l => rfl
  by_cases h0 : s.size = 0
  · have : s.data.toList = [] := by
      apply List.eq_nil_of_length_eq_zero; simpa using h0
    simp [isName, this, nameHd, h0]
  · have h := hh om
    rw [Bool.eq_iff_iff]
    simp only [isName, h, Bool.and_eq_true, decide_eq_true_eq, ha]
    constructor
    · rintro ⟨⟨a, b⟩, c⟩; exact ⟨⟨h0, a⟩, b, c⟩
    · rintro ⟨⟨_, a⟩, b, c⟩; exact ⟨⟨a, b⟩, c⟩
theorem sz35 : (Tryd.prog.info? 35).map (·.size) = some 2 := by kernel_rfl
theorem ze35 : (Tryd.prog.info? 35).map (·.zero) = some (some (.agg #[.int .i64 0, .int .i64 0])) := by kernel_rfl
theorem name_any (s : ByteArray) (w : World) : Calls Tryd.prog 81 #[.string s] w fun e w' => e = .returned (.bool (isName s)) ∧ w = w' := by
 obtain ⟨c0, e0⟩ := hd_num s
 have hN := Lib.hid (isName_eq s c0 e0)
 refine enter Tryd.func81 Tryd.ntmps81 rfl (Nat.le_of_ble_eq_true rfl) (c_seq (c_region (waB rfl (x_nil (e_S ?_)))))
 refine c_seq (c_seq ?_)
 refine c_cut1 [5, 6, 7, 8, 9, 10, 11, 12, 13, 14, 15, 16, 17, 18, 19, 20, 21, 22] 22 (.bool (decide (s.size = 0 ∨ 30 < s.size ∨ c0 < 97 ∨ 122 < c0))) nu ?_ (fun gq => ?_)
 ·
  refine c_region (wl (r_mv (v := .string _) rfl) (wl (r_lenS U9 rfl) (wl (r_eql rfl rfl) (wmB rfl ?_))))
  refine wl_casesd 8 rfl (fun g8 => ?_) (fun g8 => ?_)
  ·
   refine wlgn 8 rfl rfl rfl (wlgn 8 rfl rfl rfl (wlgn 8 rfl rfl rfl (wl (r_pt (v := .bool _) rfl rfl) (wmB rfl (wlgn 13 rfl rfl rfl ?_)))))
   refine wlgn 13 rfl rfl rfl (wlgn 13 rfl rfl rfl (wl (r_pt (v := .bool _) rfl rfl) (wmB rfl (wlgn 18 rfl rfl rfl (wlgn 18 rfl rfl rfl ?_)))))
   refine wlgn 18 rfl rfl rfl (wl (r_pt (v := .bool _) rfl rfl) ?_)
   refine x_nil (e_R ⟨rfl, agA, ?_⟩)
   show Value.bool _ = Value.bool _
   try have e0' := e0 om
   first | exact congrArg Value.bool (decide_eq_true om).symm | exact congrArg Value.bool (decide_eq_false om).symm | exact congrArg Value.bool (decide_eq_decide.2 om) | exact congrArg Value.bool ((decide_not).symm.trans (decide_eq_decide.2 om))
  refine wl_gd 8 rfl rfl (wl (r_mv (v := .string _) rfl) (wl_gd 8 rfl rfl (wl (r_lenS U9 rfl) (wl_gd 8 rfl rfl (wl (r_gtr rfl rfl) ?_)))))
  refine wl (r_pf (v := .bool _) rfl rfl) (wmB rfl ?_)
  refine wl_casesd 13 rfl (fun g13 => ?_) (fun g13 => ?_)
  ·
   refine wlgn 13 rfl rfl rfl (wlgn 13 rfl rfl rfl (wlgn 13 rfl rfl rfl (wl (r_pt (v := .bool _) rfl rfl) (wmB rfl (wlgn 18 rfl rfl rfl ?_)))))
   refine wlgn 18 rfl rfl rfl (wlgn 18 rfl rfl rfl (wl (r_pt (v := .bool _) rfl rfl) ?_))
   refine x_nil (e_R ⟨rfl, agA, ?_⟩)
   show Value.bool _ = Value.bool _
   try have e0' := e0 om
   first | exact congrArg Value.bool (decide_eq_true om).symm | exact congrArg Value.bool (decide_eq_false om).symm | exact congrArg Value.bool (decide_eq_decide.2 om) | exact congrArg Value.bool ((decide_not).symm.trans (decide_eq_decide.2 om))
  refine wl_gd 13 rfl rfl (wl (r_mv (v := .string _) rfl) (wl_gd 13 rfl rfl (wl (r_ixS (i := 0) U9 rfl rfl om) (wl_gd 13 rfl rfl (wl (r_lss rfl rfl) ?_)))))
  refine wl (r_pf (v := .bool _) rfl rfl) (wmB rfl ?_)
  refine wl_casesd 18 rfl (fun g18 => ?_) (fun g18 => ?_)
  ·
   refine wlgn 18 rfl rfl rfl (wlgn 18 rfl rfl rfl (wlgn 18 rfl rfl rfl (wl (r_pt (v := .bool _) rfl rfl) ?_)))
   refine x_nil (e_R ⟨rfl, agA, ?_⟩)
   show Value.bool _ = Value.bool _
   try have e0' := e0 om
   first | exact congrArg Value.bool (decide_eq_true om).symm | exact congrArg Value.bool (decide_eq_false om).symm | exact congrArg Value.bool (decide_eq_decide.2 om) | exact congrArg Value.bool ((decide_not).symm.trans (decide_eq_decide.2 om))
  refine wl_gd 18 rfl rfl (wl (r_mv (v := .string _) rfl) (wl_gd 18 rfl rfl (wl (r_ixS (i := 0) U9 rfl rfl om) (wl_gd 18 rfl rfl (wl (r_gtr rfl rfl) ?_)))))
  refine wl (r_pf (v := .bool _) rfl rfl) ?_
  refine x_nil (e_R ⟨rfl, agA, ?_⟩)
  show Value.bool _ = Value.bool _
  try have e0' := e0 om
  first | exact congrArg Value.bool (decide_eq_true om).symm | exact congrArg Value.bool (decide_eq_false om).symm | exact congrArg Value.bool (decide_eq_decide.2 om) | exact congrArg Value.bool ((decide_not).symm.trans (decide_eq_decide.2 om))
 refine e_S ?_
 refine c_ifd rfl (fun c22 => ?_) (fun c22 => ?_)
 ·
  refine c_seq (c_region (waB rfl (x_nil (e_S (c_ret ?_)))))
  refine e_Sr (fin1 (.inl rfl) rfl rfl ?_)
  exact ⟨ret_bool (by rw [hN.out]; exact decide_eq_false (fun h => by omega)), rfl⟩
 refine c_skip (e_S (c_seq (c_seq (c_region (wl (r_mv (v := .string _) rfl) ?_)))))
 refine wl (r_lenS U9 rfl) (wmI rfl (x_nil (e_S (c_block ?_))))
 refine c_loopS [2, 3, 4, 25, 26, 27, 28, 29, 30, 31, 32, 33, 34, 35, 36, 37, 38, 39, 40, 41, 42, 43, 44, 45, 46, 47, 48, 49, 50, 51, 52, 53, 54] (fun m g w' => ∃ k : Nat, k ≤ s.size ∧ m = s.size - k ∧ g 25 = .int .i64 k ∧ w = w' ∧ (∀ j (hj : j < s.size), j < k → nameCh (s[j]'hj) = true)) (s.size) ?_ (fun m g4 w1 hI => ?_)
 ·
  exact ⟨0, Nat.zero_le _, rfl, rfl, rfl, fun j hj h => by omega⟩
 obtain ⟨k, hk, hm, h25, rfl, hall⟩ := hI
 refine c_know 25 (.int .i64 k) h25 nu (c_seq (c_region (wl (r_lss rfl rfl) (x_nil (e_S ?_)))))
 refine c_seq ?_
 refine c_ifd rfl (fun c26 => ?_) (fun c26 => ?_)
 ·
  refine c_skip (e_S (c_seq (c_block (c_seq (c_region ?_)))))
  refine wmI rfl (waI rfl (x_nil (e_S (c_seq (c_region ?_)))))
  refine wl (r_mv (v := .string _) rfl) (wmI rfl (wl (r_ixS (i := k) U9 rfl rfl om) (waI rfl (x_nil (e_S ?_)))))
  refine c_seq ?_
  refine c_cut1 [31, 32, 33, 34, 35, 36, 37, 38, 39, 40, 41, 42, 43, 44, 45, 46, 47, 48, 49, 50, 51, 52, 53] 53 (.bool (decide (¬ ((97 ≤ (s[k]'om).toNat ∧ (s[k]'om).toNat ≤ 122) ∨ (48 ≤ (s[k]'om).toNat ∧ (s[k]'om).toNat ≤ 57) ∨ (s[k]'om).toNat = 95 ∨ (s[k]'om).toNat = 45)))) nu ?_ (fun gq => ?_)
  ·
   refine c_region (wmI rfl (wl (r_geq rfl rfl) (wmB rfl ?_)))
   refine wl_casesd 33 rfl (fun g33 => ?_) (fun g33 => ?_)
   ·
    refine wl_gd 33 rfl rfl (wmI rfl (wl_gd 33 rfl rfl (wl (r_leq rfl rfl) (wl (r_pt (v := .bool _) rfl rfl) (wmB rfl ?_)))))
    refine wl_casesd 37 rfl (fun g37 => ?_) (fun g37 => ?_)
    ·
     refine wlgn 37 rfl rfl rfl (wlgn 37 rfl rfl rfl (wlgn 37 rfl rfl rfl (wlgu 40 rfl rfl (wlgu 40 rfl rfl (wlgn 37 rfl rfl rfl ?_)))))
     refine wl (r_pt (v := .bool _) rfl rfl) (wmB rfl (wlgn 45 rfl rfl rfl (wlgn 45 rfl rfl rfl (wl (r_pt (v := .bool _) rfl rfl) (wmB rfl ?_)))))
     refine wlgn 49 rfl rfl rfl (wlgn 49 rfl rfl rfl (wl (r_pt (v := .bool _) rfl rfl) (wl (r_not rfl) ?_)))
     refine x_nil (e_R ⟨rfl, agA, ?_⟩)
     exact clA
    refine wl_gd 37 rfl rfl (wmI rfl (wl_gd 37 rfl rfl (wl (r_geq rfl rfl) (wl_gd 37 rfl rfl (wmB rfl ?_)))))
    refine wl_casesd 40 rfl (fun g40 => ?_) (fun g40 => ?_)
    ·
     refine wl_gd 40 rfl rfl (wmI rfl (wl_gd 40 rfl rfl (wl (r_leq rfl rfl) (wl_gd 37 rfl rfl (wl (r_pt (v := .bool _) rfl rfl) ?_)))))
     refine wl (r_pf (v := .bool _) rfl rfl) (wmB rfl ?_)
     refine wl_casesd 45 rfl (fun g45 => ?_) (fun g45 => ?_)
     ·
      refine wlgn 45 rfl rfl rfl (wlgn 45 rfl rfl rfl (wl (r_pt (v := .bool _) rfl rfl) (wmB rfl (wlgn 49 rfl rfl rfl (wlgn 49 rfl rfl rfl ?_)))))
      refine wl (r_pt (v := .bool _) rfl rfl) (wl (r_not rfl) ?_)
      refine x_nil (e_R ⟨rfl, agA, ?_⟩)
      exact clA
     refine wl_gd 45 rfl rfl (wmI rfl (wl_gd 45 rfl rfl (wl (r_eql rfl rfl) (wl (r_pf (v := .bool _) rfl rfl) (wmB rfl ?_)))))
     refine wl_casesd 49 rfl (fun g49 => ?_) (fun g49 => ?_)
     ·
      refine wlgn 49 rfl rfl rfl (wlgn 49 rfl rfl rfl (wl (r_pt (v := .bool _) rfl rfl) (wl (r_not rfl) ?_)))
      refine x_nil (e_R ⟨rfl, agA, ?_⟩)
      exact clA
     refine wl_gd 49 rfl rfl (wmI rfl (wl_gd 49 rfl rfl (wl (r_eql rfl rfl) (wl (r_pf (v := .bool _) rfl rfl) (wl (r_notd rfl) ?_)))))
     refine x_nil (e_R ⟨rfl, agA, ?_⟩)
     exact clA
    refine wlgn 40 rfl rfl rfl (wlgn 40 rfl rfl rfl (wl_gd 37 rfl rfl (wl (r_pf (v := .bool _) rfl rfl) (wl (r_pf (v := .bool _) rfl rfl) (wmB rfl ?_)))))
    refine wl_gd 45 rfl rfl (wmI rfl (wl_gd 45 rfl rfl (wl (r_eql rfl rfl) (wl (r_pf (v := .bool _) rfl rfl) (wmB rfl ?_)))))
    refine wl_casesd 49 rfl (fun g49 => ?_) (fun g49 => ?_)
    ·
     refine wlgn 49 rfl rfl rfl (wlgn 49 rfl rfl rfl (wl (r_pt (v := .bool _) rfl rfl) (wl (r_not rfl) ?_)))
     refine x_nil (e_R ⟨rfl, agA, ?_⟩)
     exact clA
    refine wl_gd 49 rfl rfl (wmI rfl (wl_gd 49 rfl rfl (wl (r_eql rfl rfl) (wl (r_pf (v := .bool _) rfl rfl) (wl (r_notd rfl) ?_)))))
    refine x_nil (e_R ⟨rfl, agA, ?_⟩)
    exact clA
   refine wlgn 33 rfl rfl rfl (wlgn 33 rfl rfl rfl (wl (r_pf (v := .bool _) rfl rfl) (wmB rfl (wl_gd 37 rfl rfl (wmI rfl ?_)))))
   refine wl_gd 37 rfl rfl (wl (r_geq rfl rfl) (wl_gd 37 rfl rfl (wmB rfl ?_)))
   refine wl_casesd 40 rfl (fun g40 => ?_) (fun g40 => ?_)
   ·
    refine wl_gd 40 rfl rfl (wmI rfl (wl_gd 40 rfl rfl (wl (r_leq rfl rfl) (wl_gd 37 rfl rfl (wl (r_pt (v := .bool _) rfl rfl) ?_)))))
    refine wl (r_pf (v := .bool _) rfl rfl) (wmB rfl ?_)
    refine wl_casesd 45 rfl (fun g45 => ?_) (fun g45 => ?_)
    ·
     refine wlgn 45 rfl rfl rfl (wlgn 45 rfl rfl rfl (wl (r_pt (v := .bool _) rfl rfl) (wmB rfl (wlgn 49 rfl rfl rfl (wlgn 49 rfl rfl rfl ?_)))))
     refine wl (r_pt (v := .bool _) rfl rfl) (wl (r_not rfl) ?_)
     refine x_nil (e_R ⟨rfl, agA, ?_⟩)
     exact clA
    refine wl_gd 45 rfl rfl (wmI rfl (wl_gd 45 rfl rfl (wl (r_eql rfl rfl) (wl (r_pf (v := .bool _) rfl rfl) (wmB rfl ?_)))))
    refine wl_casesd 49 rfl (fun g49 => ?_) (fun g49 => ?_)
    ·
     refine wlgn 49 rfl rfl rfl (wlgn 49 rfl rfl rfl (wl (r_pt (v := .bool _) rfl rfl) (wl (r_not rfl) ?_)))
     refine x_nil (e_R ⟨rfl, agA, ?_⟩)
     exact clA
    refine wl_gd 49 rfl rfl (wmI rfl (wl_gd 49 rfl rfl (wl (r_eql rfl rfl) (wl (r_pf (v := .bool _) rfl rfl) (wl (r_notd rfl) ?_)))))
    refine x_nil (e_R ⟨rfl, agA, ?_⟩)
    exact clA
   refine wlgn 40 rfl rfl rfl (wlgn 40 rfl rfl rfl (wl_gd 37 rfl rfl (wl (r_pf (v := .bool _) rfl rfl) (wl (r_pf (v := .bool _) rfl rfl) (wmB rfl ?_)))))
   refine wl_gd 45 rfl rfl (wmI rfl (wl_gd 45 rfl rfl (wl (r_eql rfl rfl) (wl (r_pf (v := .bool _) rfl rfl) (wmB rfl ?_)))))
   refine wl_casesd 49 rfl (fun g49 => ?_) (fun g49 => ?_)
   ·
    refine wlgn 49 rfl rfl rfl (wlgn 49 rfl rfl rfl (wl (r_pt (v := .bool _) rfl rfl) (wl (r_not rfl) ?_)))
    refine x_nil (e_R ⟨rfl, agA, ?_⟩)
    exact clA
   refine wl_gd 49 rfl rfl (wmI rfl (wl_gd 49 rfl rfl (wl (r_eql rfl rfl) (wl (r_pf (v := .bool _) rfl rfl) (wl (r_notd rfl) ?_)))))
   refine x_nil (e_R ⟨rfl, agA, ?_⟩)
   exact clA
  refine e_S ?_
  refine c_ifd rfl (fun c53 => ?_) (fun c53 => ?_)
  ·
   refine c_seq (c_region (waB rfl (x_nil (e_S (c_ret ?_)))))
   refine e_Br (e_Sr (e_LSr (e_Br (e_Sr (fin1 (.inl rfl) rfl rfl ?_)))))
   exact ⟨ret_bool (by rw [hN.out]; exact decide_eq_false (fun h => c53 ((nameCh_iff _).1 (h.2.2 k om)))), rfl⟩
  have hall' : ∀ j (hj : j < s.size), j < k + 1 → nameCh (s[j]'hj) = true := fun j hj h => by
    by_cases e : j = k
    · subst e; exact (nameCh_iff _).2 om
    · exact hall j hj om
  refine c_skip (e_B (e_S (c_region (wl (r_add rfl rfl rfl om) (wmI rfl ?_)))))
  refine x_nil (e_LS (s.size - (k + 1)) om agA ?_)
  exact ⟨k + 1, by omega, rfl, rfl, rfl, fun j hj h => hall' j hj h⟩
 refine c_exit (e_Sx (e_LSx (e_Bx (e_S (c_seq ?_)))))
 refine c_region (waB rfl (x_nil (e_S (c_ret (fin1 (.inl rfl) rfl rfl ?_)))))
 exact ⟨ret_bool (by rw [hN.out]; exact decide_eq_true ⟨by omega, by omega, fun j hj => hall j hj om⟩), rfl⟩
theorem fault_any (a b : Int) (w : World) : Calls Tryd.prog 41 #[.int .i64 a, .int .i64 b] w fun e w' => e = .returned (flV (a, b)) ∧ Bel w w' := by
 refine enter Tryd.func41 Tryd.ntmps41 rfl (Nat.le_of_ble_eq_true rfl) ?_
 have hB : Bel w w := Below.refl _ _
 refine c_seq (c_region ?_)
 refine wl_al (cs := #[.int .i64 0, .int .i64 0]) ze35 rfl (fun b4 w1 hb4 hs hr => ?_)
 have lo4 := nLT (Bel.size hB) hr
 replace hB := hB.tr0 hs
 clear hs
 clear hr
 refine x_nil (e_S (c_seq (c_region (wmI rfl (wmI rfl ?_)))))
 refine wl (r_bd2 (v0 := .int _ _) (v1 := .int _ _) (fun v0 v1 => #[v0, v1]) rfl rfl kR) ?_
 refine wl_stW hb4 rfl rfl sz35 rfl oneA (fun w2 hq hs => ?_)
 replace hB := hB.tr1 hs lo4
 clear hs
 replace hb4 := hq
 refine x_nil (e_S (c_ret (fin1 (.inl rfl) rfl (rr_cell U35 rfl rfl hb4.range0 sz35) ?_)))
 exact ⟨rfl, hB⟩
end Go.Proofs.YtegngekpmpdngaaDoor
