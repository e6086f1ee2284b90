/- What the data of hierarchies are as plain values, and how a world holds them. Arguments opened: slices of ints and of structs, as the readings of data give them. Nothing here speaks of one program. What these functions of the program compute, at every world: glosswright/term.Name, glosswright/hierarchy.fault. What these functions of the program compute, at every world: glosswright/hierarchy.Types. -/
import Derived.Test.YtegngekpmpdngaaDoorEng2
import Derived.ChangeSame
import Derived.ChangeArms
import Derived.Clock
import Derived.Carry
import Derived.OpenShut
import Derived.Deep.Slices
import Derived.Deep.Strs
import Derived.Lib.SmallJoins
import Derived.Test.YtegngekpmpdngaaDoorU
import Derived.Test.YtegngekpmpdngaaDoorProg
namespace Go.Proofs.YtegngekpmpdngaaDoor
open Go.RowKit
structure Ty where
  name : ByteArray
  par : List Int
structure Ft where
  name : ByteArray
  of : Int
  val : Int
abbrev Fl := Int × Int
def flV (p : Fl) : Value := .agg #[.int .i64 p.1, .int .i64 p.2]
theorem ret_fl {c i : Int} {p : Fl} (h : p = (c, i)) : Ending.returned (.agg [.int .i64 c, .int .i64 i].toArray) = .returned (flV p) := by rw [h]; rfl
def maxI : Nat := 9223372036854775807
def IntsIn (w : World) (A : Option Addr) (xs : List Int) : Prop :=
  xs.length ≤ maxI ∧ (xs ≠ [] → ∃ b o, A = some ⟨b, o, none⟩ ∧ b < w.heap.size ∧ ∀ k (h : k < xs.length), w.cell? ⟨b, o + k * 1, none⟩ = some (.int .i64 xs[k]))
theorem IntsIn.mono {w w' : World} {A : Option Addr} {xs : List Int} (h : IntsIn w A xs) (hb : Bel w w') : IntsIn w' A xs :=
  ⟨h.1, fun hn => by
    obtain ⟨b, o, e, hl, hc⟩ := h.2 hn
    exact ⟨b, o, e, nLL hl hb.size, fun k hk => hb.cell hl (hc k hk)⟩⟩
theorem IntsIn.at_ {w : World} {A : Option Addr} {xs : List Int} (h : IntsIn w A xs) {k : Nat} (hk : k < xs.length) :
    ∃ b o, A = some ⟨b, o, none⟩ ∧ b < w.heap.size ∧ w.cell? ⟨b, o + k * 1, none⟩ = some (.int .i64 xs[k]) := by
  obtain ⟨b, o, e, hl, hc⟩ := h.2 (by rintro rfl; simp at hk)
  exact ⟨b, o, e, hl, hc k hk⟩
def TyIn (w : World) (b o : Nat) (t : Ty) : Prop := ∃ A c, w.rangeAt b o [.string t.name, .slice A t.par.length c] ∧ IntsIn w A t.par
def TypesIn (w : World) (A : Option Addr) (l : List Ty) : Prop :=
  l.length ≤ maxI ∧ (l ≠ [] → ∃ b o, A = some ⟨b, o, none⟩ ∧ b < w.heap.size ∧ ∀ k (h : k < l.length), TyIn w b (o + k * 2) l[k])
theorem TyIn.mono {w w' : World} {b o : Nat} {t : Ty} (h : TyIn w b o t) (hb : Bel w w') (hl : b < w.heap.size) : TyIn w' b o t := by
  obtain ⟨A, c, h1, h2⟩ := h
  exact ⟨A, c, hb.range hl h1, h2.mono hb⟩
theorem TypesIn.mono {w w' : World} {A : Option Addr} {l : List Ty} (h : TypesIn w A l) (hb : Bel w w') : TypesIn w' A l :=
  ⟨h.1, fun hn => by
    obtain ⟨b, o, e, hl, hc⟩ := h.2 hn
    exact ⟨b, o, e, nLL hl hb.size, fun k hk => (hc k hk).mono hb hl⟩⟩
theorem TypesIn.at_ {w w' : World} {A : Option Addr} {l : List Ty} (h : TypesIn w A l) (hb : Bel w w') {k : Nat} (hk : k < l.length) :
    ∃ b o A' c, A = some ⟨b, o, none⟩ ∧ b < w.heap.size ∧ w'.rangeAt b (o + k * 2) [.string (l[k]).name, .slice A' (l[k]).par.length c] ∧ IntsIn w A' (l[k]).par := by
  obtain ⟨b, o, e, hl, hc⟩ := h.2 (by rintro rfl; simp at hk)
  obtain ⟨A', c, h1, h2⟩ := hc k hk
  exact ⟨b, o, A', c, e, hl, hb.range hl h1, h2⟩
def FtIn (w : World) (b o : Nat) (t : Ft) : Prop := w.rangeAt b o [.string t.name, .int .i64 t.of, .int .i64 t.val]
def FeatsIn (w : World) (A : Option Addr) (l : List Ft) : Prop :=
  l.length ≤ maxI ∧ (l ≠ [] → ∃ b o, A = some ⟨b, o, none⟩ ∧ b < w.heap.size ∧ ∀ k (h : k < l.length), FtIn w b (o + k * 3) l[k])
theorem FeatsIn.mono {w w' : World} {A : Option Addr} {l : List Ft} (h : FeatsIn w A l) (hb : Bel w w') : FeatsIn w' A l :=
  ⟨h.1, fun hn => by
    obtain ⟨b, o, e, hl, hc⟩ := h.2 hn
    exact ⟨b, o, e, nLL hl hb.size, fun k hk => hb.range hl (hc k hk)⟩⟩
theorem FeatsIn.at_ {w w' : World} {A : Option Addr} {l : List Ft} (h : FeatsIn w A l) (hb : Bel w w') {k : Nat} (hk : k < l.length) :
    ∃ b o, A = some ⟨b, o, none⟩ ∧ b < w.heap.size ∧ w'.rangeAt b (o + k * 3) [.string (l[k]).name, .int .i64 (l[k]).of, .int .i64 (l[k]).val] := by
  obtain ⟨b, o, e, hl, hc⟩ := h.2 (by rintro rfl; simp at hk)
  exact ⟨b, o, e, hl, hb.range hl (hc k hk)⟩
def parFault (i : Int) : Int → List Int → Int
  | _, [] => 0
  | last, p :: ps => if p < 0 ∨ i ≤ p then 3 else if p ≤ last then 13 else parFault i p ps
def firstF (f : Nat → Int) : Nat → Nat → Fl
  | _, 0 => (0, 0)
  | i, m + 1 => if f i ≠ 0 then (f i, (i : Int)) else firstF f (i + 1) m
theorem firstF_hit {f : Nat → Int} {i m : Nat} {c : Int} (hm : 0 < m) (hc : f i = c) (h : c ≠ 0) : firstF f i m = (c, (i : Int)) := by
  subst hc
  cases m with
  | zero => omega
  | succ m => simp [firstF, h]
theorem firstF_miss {f : Nat → Int} {i n : Nat} (hm : i < n) (h : f i = 0) : firstF f i (n - i) = firstF f (i + 1) (n - (i + 1)) := by
  obtain ⟨m, hm'⟩ : ∃ m, n - i = m + 1 := ⟨n - i - 1, by omega⟩
  rw [hm', show n - (i + 1) = m from by omega]
  simp [firstF, h]
theorem firstF_end {f : Nat → Int} {i n : Nat} (h : n ≤ i) : firstF f i (n - i) = (0, 0) := by
  rw [show n - i = 0 from by omega]; rfl
def seen (l : List ByteArray) (s : ByteArray) : Bool := l.any (fun u => decide (u = s))
theorem seen_snoc (l : List ByteArray) (u s : ByteArray) : seen (l ++ [u]) s = (seen l s || decide (u = s)) := by simp [seen]
theorem take_snoc {α : Type} (l : List α) {k : Nat} (hk : k < l.length) : l.take (k + 1) = l.take k ++ [l[k]] := by
  rw [List.take_succ_eq_append_getElem hk]
end Go.Proofs.YtegngekpmpdngaaDoor
namespace Go.Proofs.YtegngekpmpdngaaDoor
open Go.RowKit Go.ChangeShapes Go.WideShapes Go.Deep Go.Joins
theorem choose_list {α : Type} {n : Nat} {p : Nat → α → Prop} (h : ∀ i, i < n → ∃ x, p i x) : ∃ l : List α, l.length = n ∧ ∀ k (hk : k < l.length), p k l[k] := by
  induction n with
  | zero => exact ⟨[], rfl, fun k hk => by simp at hk⟩
  | succ n ih =>
    obtain ⟨l, hl, hp⟩ := ih (fun i hi => h i om)
    obtain ⟨x, hx⟩ := h n om
    refine ⟨l ++ [x], by simp [hl], fun k hk => ?_⟩
    by_cases e : k < l.length
    · rw [List.getElem_append_left e]; exact hp k e
    · have e2 : k = l.length := by simp at hk; omega
      subst e2
      have e3 : (l ++ [x])[l.length]'hk = x := by simp
      rw [e3, hl]; exact hx
section
variable {H : Type} {enc : TypeId × Value → H} {P : Program} {w : World} {base : Nat} {spare : Nat → Bool} {held : Bool}
theorem one_val {v v' : Value} (h : [v] = [v']) : v = v' := by cases h; rfl
theorem sl_open {t e : TypeId} {sz fuel : Nat} {v : Value} {x : DataW H × List MemPlace} (ht : P.underlying t = some (.slice e)) (hsz : P.cellsOf e = sz) (hpos : 0 < sz) (h : DataW.trod enc P w base spare held fuel t [v] = some x) :
    ∃ A len c, v = .slice A len c ∧ len ≤ c ∧ c ≤ maxI ∧ (len ≠ 0 → ∃ b o, A = some ⟨b, o, none⟩ ∧ b < w.heap.size ∧ ∀ i, i < len → ∃ cs k y, cs.length = sz ∧ w.rangeAt b (o + i * sz) cs ∧ DataW.trod enc P w base spare held k e cs = some y) := by
  rcases open_slice ht h with ⟨hc, _⟩ | ⟨a, len, cap, m, n, D, Pl, hc, hb, hl, hm, hmm, _, hi⟩
  · rw [one_val hc]
    exact ⟨none, 0, 0, rfl, Nat.le_refl _, Nat.zero_le _, fun h => absurd rfl h⟩
  · rw [one_val hc]
    rw [hsz] at hi
    refine ⟨some a, len, cap, rfl, hl, hm, fun h0 => ?_⟩
    have hlm : len ≤ m := by rw [hmm]; split <;> omega
    obtain ⟨b, o, s⟩ := a
    have hsp : s = none ∧ b < w.heap.size := by
      obtain ⟨cs, h1, _⟩ := hi 0 om
      obtain ⟨_, h3, h4⟩ := World.cells?_some h1
      have h5 := h4 0 hpos
      have h6 : cs[0]? = some (cs[0]'om) := List.getElem?_eq_getElem om
      have h7 : (Addr.add (Addr.add ⟨b, o, s⟩ (0 * sz)) 0) = ⟨b, o, s⟩ := by simp [Addr.add]
      rw [h7, h6] at h5
      exact ⟨World.cell?_spot h5, Go.Clock.block_lt h5⟩
    obtain ⟨rfl, hlt⟩ := hsp
    refine ⟨b, o, rfl, hlt, fun i hil => ?_⟩
    obtain ⟨cs, h1, h2⟩ := hi i om
    obtain ⟨_, h3, h4⟩ := World.cells?_some h1
    refine ⟨cs, n, _, h3, fun j v hj => ?_, h2⟩
    have hjl := (List.getElem?_eq_some_iff.1 hj).1
    have h5 := h4 j om
    rw [Addr.add_mid, Addr.add_mid] at h5
    rw [h5]; exact hj
theorem ints_open {t e : TypeId} {fuel : Nat} {v : Value} {x : DataW H × List MemPlace} (ht : P.underlying t = some (.slice e)) (he : P.underlying e = some (.int .i64)) (hsz : P.cellsOf e = 1) (h : DataW.trod enc P w base spare held fuel t [v] = some x) :
    ∃ A xs c, v = .slice A (List.length xs) c ∧ xs.length ≤ c ∧ IntsIn w A xs := by
  obtain ⟨A, len, c, rfl, hl, hm, hx⟩ := sl_open ht hsz dE h
  by_cases h0 : len = 0
  · subst h0
    exact ⟨A, [], c, rfl, Nat.zero_le _, Nat.zero_le _, fun h => absurd rfl h⟩
  · obtain ⟨b, o, rfl, hlt, hc⟩ := hx h0
    obtain ⟨xs, hxl, hxs⟩ := choose_list (p := fun i (z : Int) => w.cell? ⟨b, o + i * 1, none⟩ = some (.int .i64 z)) (n := len) (fun i hi => by
      obtain ⟨cs, k, y, h1, h2, h3⟩ := hc i hi
      obtain ⟨z, rfl, _, _⟩ := DataW.trod_int he h3
      exact ⟨z, h2 0 _ rfl⟩)
    subst hxl
    exact ⟨_, xs, c, rfl, hl, nLT hl hm, fun _ => ⟨b, o, rfl, hlt, hxs⟩⟩
theorem two_cells {e : TypeId} {f0 f1 : Field} {fuel : Nat} {cs : List Value} {x : DataW H × List MemPlace} (he : P.underlying e = some (.struct #[f0, f1])) (hl : cs.length = 2) (o0 : f0.offset = 0) (o1 : f1.offset = 1) (c0 : P.cellsOf f0.type = 1) (c1 : P.cellsOf f1.type = 1) (h : DataW.trod enc P w base spare held fuel e cs = some x) :
    ∃ v0 v1 n y0 y1, cs = [v0, v1] ∧ DataW.trod enc P w base spare held n f0.type [v0] = some y0 ∧ DataW.trod enc P w base spare held n f1.type [v1] = some y1 := by
  obtain ⟨y0, y1, n, _, _, h0, h1⟩ := trod_struct2 he h
  match cs, hl with
  | [v0, v1], _ =>
    simp [o0, o1, c0, c1] at h0 h1
    exact ⟨v0, v1, n, y0, y1, rfl, h0, h1⟩
theorem three_cells {e : TypeId} {f0 f1 f2 : Field} {fuel : Nat} {cs : List Value} {x : DataW H × List MemPlace} (he : P.underlying e = some (.struct #[f0, f1, f2])) (hl : cs.length = 3) (o0 : f0.offset = 0) (o1 : f1.offset = 1) (o2 : f2.offset = 2) (c0 : P.cellsOf f0.type = 1) (c1 : P.cellsOf f1.type = 1) (c2 : P.cellsOf f2.type = 1) (h : DataW.trod enc P w base spare held fuel e cs = some x) :
    ∃ v0 v1 v2 n y0 y1 y2, cs = [v0, v1, v2] ∧ DataW.trod enc P w base spare held n f0.type [v0] = some y0 ∧ DataW.trod enc P w base spare held n f1.type [v1] = some y1 ∧ DataW.trod enc P w base spare held n f2.type [v2] = some y2 := by
  obtain ⟨y0, y1, y2, n, _, _, h0, h1, h2⟩ := trod_struct3 he h
  match cs, hl with
  | [v0, v1, v2], _ =>
    simp [o0, o1, o2, c0, c1, c2] at h0 h1 h2
    exact ⟨v0, v1, v2, n, y0, y1, y2, rfl, h0, h1, h2⟩
theorem types_open {t e ts ti tis : TypeId} {f0 f1 : Field} {fuel : Nat} {v : Value} {x : DataW H × List MemPlace} (ht : P.underlying t = some (.slice e)) (he : P.underlying e = some (.struct #[f0, f1])) (hsz : P.cellsOf e = 2) (o0 : f0.offset = 0) (o1 : f1.offset = 1) (e0 : f0.type = ts) (e1 : f1.type = tis) (hs : P.underlying ts = some .string) (hcs : P.cellsOf ts = 1) (hci : P.cellsOf tis = 1)
    (hti : P.underlying tis = some (.slice ti)) (hi : P.underlying ti = some (.int .i64)) (hc1 : P.cellsOf ti = 1) (h : DataW.trod enc P w base spare held fuel t [v] = some x) :
    ∃ A l c, v = .slice A (List.length l) c ∧ l.length ≤ c ∧ TypesIn w A l := by
  subst e0 e1
  obtain ⟨A, len, c, rfl, hl, hm, hx⟩ := sl_open ht hsz dE h
  by_cases h0 : len = 0
  · subst h0
    exact ⟨A, [], c, rfl, Nat.zero_le _, Nat.zero_le _, fun h => absurd rfl h⟩
  · obtain ⟨b, o, rfl, hlt, hc⟩ := hx h0
    obtain ⟨l, hxl, hxs⟩ := choose_list (p := fun i (z : Ty) => TyIn w b (o + i * 2) z) (n := len) (fun i hi' => by
      obtain ⟨cs, k, y, h1, h2, h3⟩ := hc i hi'
      obtain ⟨v0, v1, n, y0, y1, rfl, g0, g1⟩ := two_cells he h1 o0 o1 hcs hci h3
      obtain ⟨s, h4, _, _⟩ := DataW.trod_string hs g0
      obtain ⟨A', xs, c', rfl, _, hin⟩ := ints_open hti hi hc1 g1
      rw [one_val h4] at h2
      exact ⟨⟨s, xs⟩, A', c', h2, hin⟩)
    subst hxl
    exact ⟨_, l, c, rfl, hl, nLT hl hm, fun _ => ⟨b, o, rfl, hlt, hxs⟩⟩
theorem feats_open {t e ts ti : TypeId} {f0 f1 f2 : Field} {fuel : Nat} {v : Value} {x : DataW H × List MemPlace} (ht : P.underlying t = some (.slice e)) (he : P.underlying e = some (.struct #[f0, f1, f2])) (hsz : P.cellsOf e = 3) (o0 : f0.offset = 0) (o1 : f1.offset = 1) (o2 : f2.offset = 2) (e0 : f0.type = ts) (e1 : f1.type = ti) (e2 : f2.type = ti) (hs : P.underlying ts = some .string) (hcs : P.cellsOf ts = 1)
    (hi : P.underlying ti = some (.int .i64)) (hc1 : P.cellsOf ti = 1) (h : DataW.trod enc P w base spare held fuel t [v] = some x) :
    ∃ A l c, v = .slice A (List.length l) c ∧ l.length ≤ c ∧ FeatsIn w A l := by
  subst e0
  obtain ⟨A, len, c, rfl, hl, hm, hx⟩ := sl_open ht hsz dE h
  by_cases h0 : len = 0
  · subst h0
    exact ⟨A, [], c, rfl, Nat.zero_le _, Nat.zero_le _, fun h => absurd rfl h⟩
  · obtain ⟨b, o, rfl, hlt, hc⟩ := hx h0
    obtain ⟨l, hxl, hxs⟩ := choose_list (p := fun i (z : Ft) => FtIn w b (o + i * 3) z) (n := len) (fun i hi' => by
      obtain ⟨cs, k, y, h1, h2, h3⟩ := hc i hi'
      obtain ⟨v0, v1, v2, n, y0, y1, y2, rfl, g0, g1, g2⟩ := three_cells he h1 o0 o1 o2 hcs (by rw [e1]; exact hc1) (by rw [e2]; exact hc1) h3
      rw [e1] at g1
      rw [e2] at g2
      obtain ⟨s, h4, _, _⟩ := DataW.trod_string hs g0
      obtain ⟨z1, h5, _, _⟩ := DataW.trod_int hi g1
      obtain ⟨z2, h6, _, _⟩ := DataW.trod_int hi g2
      rw [one_val h4, one_val h5, one_val h6] at h2
      exact ⟨⟨s, z1, z2⟩, h2⟩)
    subst hxl
    exact ⟨_, l, c, rfl, hl, nLT hl hm, fun _ => ⟨b, o, rfl, hlt, hxs⟩⟩
theorem post_bel {f : Func} {s : ChangeSpec} {apart fresh handsOn again : Bool} {W W' : World} {args : Array Value} {v : Value} {ds gs : List (DataW H)} {before pa pv : List MemPlace} (hW : DataW.Whole enc P f.params.toList s.vars apart W args.toList ds gs before)
    (hres : ∀ (b : Nat) (sp : Nat → Bool) (hd : Bool), DataW.TrodAll enc P W' b sp hd f.resultTypes.toList (v.resultList f.resultTypes.size) (s.fn H (ds ++ gs)).results [])
    (hargs : ∀ sp : Nat → Bool, (∀ p ∈ before, sp p.block = true) → DataW.TrodAll enc P W' 0 sp true f.params.toList args.toList (s.fn H (ds ++ gs)).args pa)
    (hvars : ∀ sp : Nat → Bool, (∀ p ∈ before, sp p.block = true) → DataW.TrodVars enc P W' sp s.vars (s.fn H (ds ++ gs)).vars pv)
    (hps : before = pa ++ pv) (hb : Bel W W')
    (hok : ∀ (j : Nat) (t : TypeId) (r : Value), f.resultTypes[j]? = some t → (v.resultList f.resultTypes.size)[j]? = some r → Value.okWide P W' .any 0 t r) :
    s.post enc P f apart fresh handsOn again W args v W' := by
  have hlt := fun p hp => hW.lt p hp
  have hold : ∀ p ∈ before, (fun b => decide (b < W.heap.size)) p.block = true := fun p hp => by simpa using hlt p hp
  refine ⟨ds, gs, before, [], pa, pv, hW, hres _ _ _, hargs _ hold, hvars _ hold, World.keptBut_mono (fun p hp => ⟨hp, ?_⟩) (hb.frame (· ∈ before)), fun _ => ?_⟩
  · rw [hps, List.mem_append] at hp; exact .inr hp
  obtain ⟨_, _, _, _, _, hz, hn⟩ := hW
  refine ⟨hok, _, _, ([] ++ pa) ++ pv, ⟨[] ++ pa, pv, trodAll_append (hargs _ (fun _ _ => rfl)) (hres _ _ _), hvars _ (fun _ _ => rfl), rfl, fun b off hp => ?_, fun ha => ?_⟩, fun p hp _ => ?_⟩
  · have hin : MemPlace.cell b off ∈ before := by rw [hps]; simpa using hp
    rw [hb.frozen (hlt _ hin)]; exact hz b off hin
  · have := hn ha
    rw [hps] at this; simpa using this
  · rw [hps]; simpa using hp
end
end Go.Proofs.YtegngekpmpdngaaDoor
namespace Go.Proofs.YtegngekpmpdngaaDoor
open Go.RowKit
def nameCh (c : UInt8) : Bool := decide (97 ≤ c.toNat ∧ c.toNat ≤ 122) || decide (48 ≤ c.toNat ∧ c.toNat ≤ 57) || decide (c.toNat = 95) || decide (c.toNat = 45)
theorem nameCh_iff (c : UInt8) : nameCh c = true ↔ ((97 ≤ c.toNat ∧ c.toNat ≤ 122) ∨ (48 ≤ c.toNat ∧ c.toNat ≤ 57) ∨ c.toNat = 95 ∨ c.toNat = 45) := by simp [nameCh, or_assoc]
def nameHd : List UInt8 → Bool
  | [] => false
  | c :: _ => decide (97 ≤ c.toNat ∧ c.toNat ≤ 122)
def isName (s : ByteArray) : Bool := decide (s.size ≤ 30) && nameHd s.data.toList && s.data.toList.all nameCh
theorem ret_bool {a b : Bool} (h : a = b) : Ending.returned (.bool b) = .returned (.bool a) := by rw [h]
theorem hd_num (s : ByteArray) : ∃ c0 : Nat, ∀ h : 0 < s.size, (s[0]'h).toNat = c0 := by
  by_cases h : 0 < s.size
  · exact ⟨(s[0]'h).toNat, fun _ => rfl⟩
  · exact ⟨0, fun h' => absurd h' h⟩
theorem isName_eq (s : ByteArray) (c0 : Nat) (e0 : ∀ h : 0 < s.size, (s[0]'h).toNat = c0) :
    isName s = decide ((s.size ≠ 0 ∧ s.size ≤ 30) ∧ (97 ≤ c0 ∧ c0 ≤ 122) ∧ (∀ k (hk : k < s.size), nameCh (s[k]'hk) = true)) := by
  have ha : (s.data.toList.all nameCh = true) ↔ (∀ k (hk : k < s.size), nameCh (s[k]'hk) = true) := by
    rw [List.all_eq_true]
    constructor
    · intro h k hk
      exact h _ (List.getElem_mem (l := s.data.toList) (n := k) (by simpa using hk))
    · intro h x hx
      obtain ⟨k, hk, rfl⟩ := List.mem_iff_getElem.1 hx
      exact h k (by simpa using hk)
  have hh : ∀ h : 0 < s.size, nameHd s.data.toList = decide (97 ≤ c0 ∧ c0 ≤ 122) := by
    intro h
    rw [← e0 h]
    obtain ⟨⟨l⟩⟩ := s
    cases l with
    | nil => exact absurd h dE
    | cons c l => rfl
  by_cases h0 : s.size = 0
  · have : s.data.toList = [] := by
      apply List.eq_nil_of_length_eq_zero; simpa using h0
    simp [isName, this, nameHd, h0]
  · have h := hh om
    rw [Bool.eq_iff_iff]
    simp only [isName, h, Bool.and_eq_true, decide_eq_true_eq, ha]
    constructor
    · rintro ⟨⟨a, b⟩, c⟩; exact ⟨⟨h0, a⟩, b, c⟩
    · rintro ⟨⟨_, a⟩, b, c⟩; exact ⟨⟨a, b⟩, c⟩
theorem sz35 : (Tryd.prog.info? 35).map (·.size) = some 2 := by kernel_rfl
theorem ze35 : (Tryd.prog.info? 35).map (·.zero) = some (some (.agg #[.int .i64 0, .int .i64 0])) := by kernel_rfl
theorem name_any (s : ByteArray) (w : World) : Calls Tryd.prog 81 #[.string s] w fun e w' => e = .returned (.bool (isName s)) ∧ w = w' := by
 obtain ⟨c0, e0⟩ := hd_num s
 have hN := Lib.hid (isName_eq s c0 e0)
 refine enter Tryd.func81 Tryd.ntmps81 rfl (Nat.le_of_ble_eq_true rfl) (c_seq (c_region (waB rfl (x_nil (e_S ?_)))))
 refine c_seq (c_seq ?_)
 refine c_cut1 [5, 6, 7, 8, 9, 10, 11, 12, 13, 14, 15, 16, 17, 18, 19, 20, 21, 22] 22 (.bool (decide (s.size = 0 ∨ 30 < s.size ∨ c0 < 97 ∨ 122 < c0))) nu ?_ (fun gq => ?_)
 ·
  refine c_region (wl (r_mv (v := .string _) rfl) (wl (r_lenS U9 rfl) (wl (r_eql rfl rfl) (wmB rfl ?_))))
  refine wl_casesd 8 rfl (fun g8 => ?_) (fun g8 => ?_)
  ·
   refine wlgn 8 rfl rfl rfl (wlgn 8 rfl rfl rfl (wlgn 8 rfl rfl rfl (wl (r_pt (v := .bool _) rfl rfl) (wmB rfl (wlgn 13 rfl rfl rfl ?_)))))
   refine wlgn 13 rfl rfl rfl (wlgn 13 rfl rfl rfl (wl (r_pt (v := .bool _) rfl rfl) (wmB rfl (wlgn 18 rfl rfl rfl (wlgn 18 rfl rfl rfl ?_)))))
   refine wlgn 18 rfl rfl rfl (wl (r_pt (v := .bool _) rfl rfl) ?_)
   refine x_nil (e_R ⟨rfl, agA, ?_⟩)
   show Value.bool _ = Value.bool _
   try have e0' := e0 om
   first | exact congrArg Value.bool (decide_eq_true om).symm | exact congrArg Value.bool (decide_eq_false om).symm | exact congrArg Value.bool (decide_eq_decide.2 om) | exact congrArg Value.bool ((decide_not).symm.trans (decide_eq_decide.2 om))
  refine wl_gd 8 rfl rfl (wl (r_mv (v := .string _) rfl) (wl_gd 8 rfl rfl (wl (r_lenS U9 rfl) (wl_gd 8 rfl rfl (wl (r_gtr rfl rfl) ?_)))))
  refine wl (r_pf (v := .bool _) rfl rfl) (wmB rfl ?_)
  refine wl_casesd 13 rfl (fun g13 => ?_) (fun g13 => ?_)
  ·
   refine wlgn 13 rfl rfl rfl (wlgn 13 rfl rfl rfl (wlgn 13 rfl rfl rfl (wl (r_pt (v := .bool _) rfl rfl) (wmB rfl (wlgn 18 rfl rfl rfl ?_)))))
   refine wlgn 18 rfl rfl rfl (wlgn 18 rfl rfl rfl (wl (r_pt (v := .bool _) rfl rfl) ?_))
   refine x_nil (e_R ⟨rfl, agA, ?_⟩)
   show Value.bool _ = Value.bool _
   try have e0' := e0 om
   first | exact congrArg Value.bool (decide_eq_true om).symm | exact congrArg Value.bool (decide_eq_false om).symm | exact congrArg Value.bool (decide_eq_decide.2 om) | exact congrArg Value.bool ((decide_not).symm.trans (decide_eq_decide.2 om))
  refine wl_gd 13 rfl rfl (wl (r_mv (v := .string _) rfl) (wl_gd 13 rfl rfl (wl (r_ixS (i := 0) U9 rfl rfl om) (wl_gd 13 rfl rfl (wl (r_lss rfl rfl) ?_)))))
  refine wl (r_pf (v := .bool _) rfl rfl) (wmB rfl ?_)
  refine wl_casesd 18 rfl (fun g18 => ?_) (fun g18 => ?_)
  ·
   refine wlgn 18 rfl rfl rfl (wlgn 18 rfl rfl rfl (wlgn 18 rfl rfl rfl (wl (r_pt (v := .bool _) rfl rfl) ?_)))
   refine x_nil (e_R ⟨rfl, agA, ?_⟩)
   show Value.bool _ = Value.bool _
   try have e0' := e0 om
   first | exact congrArg Value.bool (decide_eq_true om).symm | exact congrArg Value.bool (decide_eq_false om).symm | exact congrArg Value.bool (decide_eq_decide.2 om) | exact congrArg Value.bool ((decide_not).symm.trans (decide_eq_decide.2 om))
  refine wl_gd 18 rfl rfl (wl (r_mv (v := .string _) rfl) (wl_gd 18 rfl rfl (wl (r_ixS (i := 0) U9 rfl rfl om) (wl_gd 18 rfl rfl (wl (r_gtr rfl rfl) ?_)))))
  refine wl (r_pf (v := .bool _) rfl rfl) ?_
  refine x_nil (e_R ⟨rfl, agA, ?_⟩)
  show Value.bool _ = Value.bool _
  try have e0' := e0 om
  first | exact congrArg Value.bool (decide_eq_true om).symm | exact congrArg Value.bool (decide_eq_false om).symm | exact congrArg Value.bool (decide_eq_decide.2 om) | exact congrArg Value.bool ((decide_not).symm.trans (decide_eq_decide.2 om))
 refine e_S ?_
 refine c_ifd rfl (fun c22 => ?_) (fun c22 => ?_)
 ·
  refine c_seq (c_region (waB rfl (x_nil (e_S (c_ret ?_)))))
  refine e_Sr (fin1 (.inl rfl) rfl rfl ?_)
  exact ⟨ret_bool (by rw [hN.out]; exact decide_eq_false (fun h => by omega)), rfl⟩
 refine c_skip (e_S (c_seq (c_seq (c_region (wl (r_mv (v := .string _) rfl) ?_)))))
 refine wl (r_lenS U9 rfl) (wmI rfl (x_nil (e_S (c_block ?_))))
 refine c_loopS [2, 3, 4, 25, 26, 27, 28, 29, 30, 31, 32, 33, 34, 35, 36, 37, 38, 39, 40, 41, 42, 43, 44, 45, 46, 47, 48, 49, 50, 51, 52, 53, 54] (fun m g w' => ∃ k : Nat, k ≤ s.size ∧ m = s.size - k ∧ g 25 = .int .i64 k ∧ w = w' ∧ (∀ j (hj : j < s.size), j < k → nameCh (s[j]'hj) = true)) (s.size) ?_ (fun m g4 w1 hI => ?_)
 ·
  exact ⟨0, Nat.zero_le _, rfl, rfl, rfl, fun j hj h => by omega⟩
 obtain ⟨k, hk, hm, h25, rfl, hall⟩ := hI
 refine c_know 25 (.int .i64 k) h25 nu (c_seq (c_region (wl (r_lss rfl rfl) (x_nil (e_S ?_)))))
 refine c_seq ?_
 refine c_ifd rfl (fun c26 => ?_) (fun c26 => ?_)
 ·
  refine c_skip (e_S (c_seq (c_block (c_seq (c_region ?_)))))
  refine wmI rfl (waI rfl (x_nil (e_S (c_seq (c_region ?_)))))
  refine wl (r_mv (v := .string _) rfl) (wmI rfl (wl (r_ixS (i := k) U9 rfl rfl om) (waI rfl (x_nil (e_S ?_)))))
  refine c_seq ?_
  refine c_cut1 [31, 32, 33, 34, 35, 36, 37, 38, 39, 40, 41, 42, 43, 44, 45, 46, 47, 48, 49, 50, 51, 52, 53] 53 (.bool (decide (¬ ((97 ≤ (s[k]'om).toNat ∧ (s[k]'om).toNat ≤ 122) ∨ (48 ≤ (s[k]'om).toNat ∧ (s[k]'om).toNat ≤ 57) ∨ (s[k]'om).toNat = 95 ∨ (s[k]'om).toNat = 45)))) nu ?_ (fun gq => ?_)
  ·
   refine c_region (wmI rfl (wl (r_geq rfl rfl) (wmB rfl ?_)))
   refine wl_casesd 33 rfl (fun g33 => ?_) (fun g33 => ?_)
   ·
    refine wl_gd 33 rfl rfl (wmI rfl (wl_gd 33 rfl rfl (wl (r_leq rfl rfl) (wl (r_pt (v := .bool _) rfl rfl) (wmB rfl ?_)))))
    refine wl_casesd 37 rfl (fun g37 => ?_) (fun g37 => ?_)
    ·
     refine wlgn 37 rfl rfl rfl (wlgn 37 rfl rfl rfl (wlgn 37 rfl rfl rfl (wlgu 40 rfl rfl (wlgu 40 rfl rfl (wlgn 37 rfl rfl rfl ?_)))))
     refine wl (r_pt (v := .bool _) rfl rfl) (wmB rfl (wlgn 45 rfl rfl rfl (wlgn 45 rfl rfl rfl (wl (r_pt (v := .bool _) rfl rfl) (wmB rfl ?_)))))
     refine wlgn 49 rfl rfl rfl (wlgn 49 rfl rfl rfl (wl (r_pt (v := .bool _) rfl rfl) (wl (r_not rfl) ?_)))
     refine x_nil (e_R ⟨rfl, agA, ?_⟩)
     exact clA
    refine wl_gd 37 rfl rfl (wmI rfl (wl_gd 37 rfl rfl (wl (r_geq rfl rfl) (wl_gd 37 rfl rfl (wmB rfl ?_)))))
    refine wl_casesd 40 rfl (fun g40 => ?_) (fun g40 => ?_)
    ·
     refine wl_gd 40 rfl rfl (wmI rfl (wl_gd 40 rfl rfl (wl (r_leq rfl rfl) (wl_gd 37 rfl rfl (wl (r_pt (v := .bool _) rfl rfl) ?_)))))
     refine wl (r_pf (v := .bool _) rfl rfl) (wmB rfl ?_)
     refine wl_casesd 45 rfl (fun g45 => ?_) (fun g45 => ?_)
     ·
      refine wlgn 45 rfl rfl rfl (wlgn 45 rfl rfl rfl (wl (r_pt (v := .bool _) rfl rfl) (wmB rfl (wlgn 49 rfl rfl rfl (wlgn 49 rfl rfl rfl ?_)))))
      refine wl (r_pt (v := .bool _) rfl rfl) (wl (r_not rfl) ?_)
      refine x_nil (e_R ⟨rfl, agA, ?_⟩)
      exact clA
     refine wl_gd 45 rfl rfl (wmI rfl (wl_gd 45 rfl rfl (wl (r_eql rfl rfl) (wl (r_pf (v := .bool _) rfl rfl) (wmB rfl ?_)))))
     refine wl_casesd 49 rfl (fun g49 => ?_) (fun g49 => ?_)
     ·
      refine wlgn 49 rfl rfl rfl (wlgn 49 rfl rfl rfl (wl (r_pt (v := .bool _) rfl rfl) (wl (r_not rfl) ?_)))
      refine x_nil (e_R ⟨rfl, agA, ?_⟩)
      exact clA
     refine wl_gd 49 rfl rfl (wmI rfl (wl_gd 49 rfl rfl (wl (r_eql rfl rfl) (wl (r_pf (v := .bool _) rfl rfl) (wl (r_notd rfl) ?_)))))
     refine x_nil (e_R ⟨rfl, agA, ?_⟩)
     exact clA
    refine wlgn 40 rfl rfl rfl (wlgn 40 rfl rfl rfl (wl_gd 37 rfl rfl (wl (r_pf (v := .bool _) rfl rfl) (wl (r_pf (v := .bool _) rfl rfl) (wmB rfl ?_)))))
    refine wl_gd 45 rfl rfl (wmI rfl (wl_gd 45 rfl rfl (wl (r_eql rfl rfl) (wl (r_pf (v := .bool _) rfl rfl) (wmB rfl ?_)))))
    refine wl_casesd 49 rfl (fun g49 => ?_) (fun g49 => ?_)
    ·
     refine wlgn 49 rfl rfl rfl (wlgn 49 rfl rfl rfl (wl (r_pt (v := .bool _) rfl rfl) (wl (r_not rfl) ?_)))
     refine x_nil (e_R ⟨rfl, agA, ?_⟩)
     exact clA
    refine wl_gd 49 rfl rfl (wmI rfl (wl_gd 49 rfl rfl (wl (r_eql rfl rfl) (wl (r_pf (v := .bool _) rfl rfl) (wl (r_notd rfl) ?_)))))
    refine x_nil (e_R ⟨rfl, agA, ?_⟩)
    exact clA
   refine wlgn 33 rfl rfl rfl (wlgn 33 rfl rfl rfl (wl (r_pf (v := .bool _) rfl rfl) (wmB rfl (wl_gd 37 rfl rfl (wmI rfl ?_)))))
   refine wl_gd 37 rfl rfl (wl (r_geq rfl rfl) (wl_gd 37 rfl rfl (wmB rfl ?_)))
   refine wl_casesd 40 rfl (fun g40 => ?_) (fun g40 => ?_)
   ·
    refine wl_gd 40 rfl rfl (wmI rfl (wl_gd 40 rfl rfl (wl (r_leq rfl rfl) (wl_gd 37 rfl rfl (wl (r_pt (v := .bool _) rfl rfl) ?_)))))
    refine wl (r_pf (v := .bool _) rfl rfl) (wmB rfl ?_)
    refine wl_casesd 45 rfl (fun g45 => ?_) (fun g45 => ?_)
    ·
     refine wlgn 45 rfl rfl rfl (wlgn 45 rfl rfl rfl (wl (r_pt (v := .bool _) rfl rfl) (wmB rfl (wlgn 49 rfl rfl rfl (wlgn 49 rfl rfl rfl ?_)))))
     refine wl (r_pt (v := .bool _) rfl rfl) (wl (r_not rfl) ?_)
     refine x_nil (e_R ⟨rfl, agA, ?_⟩)
     exact clA
    refine wl_gd 45 rfl rfl (wmI rfl (wl_gd 45 rfl rfl (wl (r_eql rfl rfl) (wl (r_pf (v := .bool _) rfl rfl) (wmB rfl ?_)))))
    refine wl_casesd 49 rfl (fun g49 => ?_) (fun g49 => ?_)
    ·
     refine wlgn 49 rfl rfl rfl (wlgn 49 rfl rfl rfl (wl (r_pt (v := .bool _) rfl rfl) (wl (r_not rfl) ?_)))
     refine x_nil (e_R ⟨rfl, agA, ?_⟩)
     exact clA
    refine wl_gd 49 rfl rfl (wmI rfl (wl_gd 49 rfl rfl (wl (r_eql rfl rfl) (wl (r_pf (v := .bool _) rfl rfl) (wl (r_notd rfl) ?_)))))
    refine x_nil (e_R ⟨rfl, agA, ?_⟩)
    exact clA
   refine wlgn 40 rfl rfl rfl (wlgn 40 rfl rfl rfl (wl_gd 37 rfl rfl (wl (r_pf (v := .bool _) rfl rfl) (wl (r_pf (v := .bool _) rfl rfl) (wmB rfl ?_)))))
   refine wl_gd 45 rfl rfl (wmI rfl (wl_gd 45 rfl rfl (wl (r_eql rfl rfl) (wl (r_pf (v := .bool _) rfl rfl) (wmB rfl ?_)))))
   refine wl_casesd 49 rfl (fun g49 => ?_) (fun g49 => ?_)
   ·
    refine wlgn 49 rfl rfl rfl (wlgn 49 rfl rfl rfl (wl (r_pt (v := .bool _) rfl rfl) (wl (r_not rfl) ?_)))
    refine x_nil (e_R ⟨rfl, agA, ?_⟩)
    exact clA
   refine wl_gd 49 rfl rfl (wmI rfl (wl_gd 49 rfl rfl (wl (r_eql rfl rfl) (wl (r_pf (v := .bool _) rfl rfl) (wl (r_notd rfl) ?_)))))
   refine x_nil (e_R ⟨rfl, agA, ?_⟩)
   exact clA
  refine e_S ?_
  refine c_ifd rfl (fun c53 => ?_) (fun c53 => ?_)
  ·
   refine c_seq (c_region (waB rfl (x_nil (e_S (c_ret ?_)))))
   refine e_Br (e_Sr (e_LSr (e_Br (e_Sr (fin1 (.inl rfl) rfl rfl ?_)))))
   exact ⟨ret_bool (by rw [hN.out]; exact decide_eq_false (fun h => c53 ((nameCh_iff _).1 (h.2.2 k om)))), rfl⟩
  have hall' : ∀ j (hj : j < s.size), j < k + 1 → nameCh (s[j]'hj) = true := fun j hj h => by
    by_cases e : j = k
    · subst e; exact (nameCh_iff _).2 om
    · exact hall j hj om
  refine c_skip (e_B (e_S (c_region (wl (r_add rfl rfl rfl om) (wmI rfl ?_)))))
  refine x_nil (e_LS (s.size - (k + 1)) om agA ?_)
  exact ⟨k + 1, by omega, rfl, rfl, rfl, fun j hj h => hall' j hj h⟩
 refine c_exit (e_Sx (e_LSx (e_Bx (e_S (c_seq ?_)))))
 refine c_region (waB rfl (x_nil (e_S (c_ret (fin1 (.inl rfl) rfl rfl ?_)))))
 exact ⟨ret_bool (by rw [hN.out]; exact decide_eq_true ⟨by omega, by omega, fun j hj => hall j hj om⟩), rfl⟩
theorem fault_any (a b : Int) (w : World) : Calls Tryd.prog 41 #[.int .i64 a, .int .i64 b] w fun e w' => e = .returned (flV (a, b)) ∧ Bel w w' := by
 refine enter Tryd.func41 Tryd.ntmps41 rfl (Nat.le_of_ble_eq_true rfl) ?_
 have hB : Bel w w := Below.refl _ _
 refine c_seq (c_region ?_)
 refine wl_al (cs := #[.int .i64 0, .int .i64 0]) ze35 rfl (fun b4 w1 hb4 hs hr => ?_)
 have lo4 := nLT (Bel.size hB) hr
 replace hB := hB.tr0 hs
 clear hs
 clear hr
 refine x_nil (e_S (c_seq (c_region (wmI rfl (wmI rfl ?_)))))
 refine wl (r_bd2 (v0 := .int _ _) (v1 := .int _ _) (fun v0 v1 => #[v0, v1]) rfl rfl kR) ?_
 refine wl_stW hb4 rfl rfl sz35 rfl oneA (fun w2 hq hs => ?_)
 replace hB := hB.tr1 hs lo4
 clear hs
 replace hb4 := hq
 refine x_nil (e_S (c_ret (fin1 (.inl rfl) rfl (rr_cell U35 rfl rfl hb4.range0 sz35) ?_)))
 exact ⟨rfl, hB⟩
end Go.Proofs.YtegngekpmpdngaaDoor
namespace Go.Proofs.YtegngekpmpdngaaDoor
open Go.RowKit
def tyFault (l : List Ty) (i : Nat) : Int := match l[i]? with
  | none => 0
  | some t => if isName t.name = false then 10 else if seen ((l.take i).map (·.name)) t.name = true then 7 else if (decide (i = 0) == t.par.isEmpty) = false then 5 else parFault i (-1) t.par
def typesFault (l : List Ty) : Fl := if l.length = 0 ∨ 60 < l.length then (2, -1) else firstF (tyFault l) 0 l.length
theorem len_zero_dec (xs : List Int) : decide ((xs.length : Int) = 0) = xs.isEmpty := by cases xs <;> simp; omega
theorem mal_yes {k : Nat} {xs : List Int} (h : (!(decide ((k : Int) = 0) == decide ((xs.length : Int) = 0))) = true) : (decide (k = 0) == xs.isEmpty) = false := by
  rw [len_zero_dec] at h
  simpa using h
theorem mal_no {k : Nat} {xs : List Int} (h : (!(decide ((k : Int) = 0) == decide ((xs.length : Int) = 0))) = false) : (decide (k = 0) == xs.isEmpty) = true := by
  rw [len_zero_dec] at h
  simpa using h
theorem ty10 (l : List Ty) (k : Nat) (hlt : k < l.length) (h1 : isName l[k].name = false) : tyFault l k = 10 := by
  simp only [tyFault, List.getElem?_eq_getElem hlt, h1, if_true]
theorem ty7 (l : List Ty) (k : Nat) (hlt : k < l.length) (h1 : isName l[k].name = true) (h2 : seen ((l.take k).map (·.name)) l[k].name = true) : tyFault l k = 7 := by
  simp only [tyFault, List.getElem?_eq_getElem hlt, h1, h2, if_true]; rfl
theorem ty5 (l : List Ty) (k : Nat) (hlt : k < l.length) (h1 : isName l[k].name = true) (h2 : seen ((l.take k).map (·.name)) l[k].name = false) (h3 : (decide (k = 0) == l[k].par.isEmpty) = false) : tyFault l k = 5 := by
  simp only [tyFault, List.getElem?_eq_getElem hlt, h1, h2, h3, if_true]; rfl
theorem tyF_par (l : List Ty) (k : Nat) (hlt : k < l.length) (h1 : isName l[k].name = true) (h2 : seen ((l.take k).map (·.name)) l[k].name = false) (h3 : (decide (k = 0) == l[k].par.isEmpty) = true) : tyFault l k = parFault k (-1) (l[k].par.drop 0) := by
  simp only [tyFault, List.getElem?_eq_getElem hlt, h1, h2, h3, List.drop_zero]; rfl
theorem fn41 : callable Tryd.prog 41 = true := by kernel_rfl
theorem fn81 : callable Tryd.prog 81 = true := by kernel_rfl
theorem sz3 : (Tryd.prog.info? 3).map (·.size) = some 1 := by kernel_rfl
theorem sz43 : (Tryd.prog.info? 43).map (·.size) = some 1 := by kernel_rfl
theorem sz77 : (Tryd.prog.info? 77).map (·.size) = some 2 := by kernel_rfl
theorem sz9 : (Tryd.prog.info? 9).map (·.size) = some 1 := by kernel_rfl
theorem ze3 : (Tryd.prog.info? 3).map (·.zero) = some (some (.int .i64 0)) := by kernel_rfl
theorem ze77 : (Tryd.prog.info? 77).map (·.zero) = some (some (.agg #[.string ⟨#[]⟩, .slice none 0 0])) := by kernel_rfl
theorem types_any (A : Option Addr) (c : Nat) (l : List Ty) (w : World) (hT : TypesIn w A l) : Calls Tryd.prog 79 #[.slice A l.length c] w fun e w' => e = .returned (flV (typesFault l)) ∧ Bel w w' := by
 refine enter Tryd.func79 Tryd.ntmps79 rfl (Nat.le_of_ble_eq_true rfl) ?_
 have hB : Bel w w := Below.refl _ _
 refine c_seq (c_region ?_)
 refine wl_al (cs := #[.int .i64 0, .int .i64 0]) ze35 rfl (fun b2 w1 hb2 hs hr => ?_)
 have lo2 := nLT (Bel.size hB) hr
 replace hB := hB.tr0 hs
 clear hs
 clear hr
 refine x_nil (e_S (c_seq (c_seq ?_)))
 refine c_cut1 [11, 12, 13, 14, 15, 16, 17, 18] 18 (.bool (decide (l.length = 0 ∨ 60 < l.length))) nu ?_ (fun gq => ?_)
 ·
  refine c_region (wmS rfl (wl (r_len U22 rfl) (wl (r_eql rfl rfl) (wmB rfl ?_))))
  refine wl_casesd 14 rfl (fun g14 => ?_) (fun g14 => ?_)
  ·
   refine wlgn 14 rfl rfl rfl (wlgn 14 rfl rfl rfl (wlgn 14 rfl rfl rfl (wl (r_pt (v := .bool _) rfl rfl) ?_)))
   refine x_nil (e_R ⟨rfl, agA, ?_⟩)
   exact clA
  refine wl_gd 14 rfl rfl (wmS rfl (wl_gd 14 rfl rfl (wl (r_len U22 rfl) (wl_gd 14 rfl rfl (wl (r_gtr rfl rfl) ?_)))))
  refine wl (r_pf (v := .bool _) rfl rfl) ?_
  refine x_nil (e_R ⟨rfl, agA, ?_⟩)
  exact clA
 refine e_S ?_
 refine c_ifd rfl (fun c18 => ?_) (fun c18 => ?_)
 ·
  refine c_seq (c_region ?_)
  refine wl_cl fn41 (fault_any _ _ _) rfl (fun e' w2 hr => ?_)
  obtain ⟨rfl, hs⟩ := hr
  replace hs := Same.of_bel hs
  replace hB := hB.tr0 hs
  replace hb2 := hb2.tr0 hs
  clear hs
  refine ⟨_, rfl, ?_⟩
  refine wl_stW hb2 rfl rfl sz35 rfl oneA (fun w3 hq hs => ?_)
  replace hB := hB.tr1 hs lo2
  clear hs
  replace hb2 := hq
  refine x_nil (e_S (c_ret (e_Sr (fin1 (.inl rfl) rfl (rr_cell U35 rfl rfl hb2.range0 sz35) ?_))))
  exact ⟨ret_fl (by simp only [typesFault, if_pos c18]), hB⟩
 have hR := Lib.hid (show typesFault l = firstF (tyFault l) 0 (l.length - 0) by simp only [typesFault, if_neg c18, Nat.sub_zero])
 refine c_skip (e_S (c_seq (c_region ?_)))
 refine wl_mm (fun b20 w4 hb20 hs hr => ?_)
 have or_b2_b20 : b2 < b20 := nLL hb2.lt hr
 have lo20 := nLT (Bel.size hB) hr
 replace hB := hB.tr0 hs
 replace hb2 := hb2.tr0 hs
 clear hs
 clear hr
 refine wl (r_as (v := .map _) rfl) (x_nil (e_S (c_seq (c_seq (c_region ?_)))))
 refine wmS rfl (wl (r_len U22 rfl) (wmI rfl (x_nil (e_S (c_block ?_)))))
 refine c_loopS [4, 5, 6, 7, 8, 10, 23, 24, 25, 26, 27, 28, 29, 30, 31, 32, 33, 34, 35, 36, 37, 38, 39, 40, 41, 42, 43, 44, 45, 46, 47, 48, 49, 50, 51, 52, 53, 54, 55, 56, 57, 58, 59, 60, 61, 62, 63, 64, 65, 66, 67, 68, 69, 70, 71, 72, 73, 74, 75, 76, 77, 78, 79, 80] (fun m g w' => ∃ (k : Nat) (mp : List (ByteArray × Value)), k ≤ l.length ∧ m = l.length - k ∧ g 23 = .int .i64 k ∧ Bel w w' ∧ Blk w' b2 35 #[.int .i64 0, .int .i64 0] ∧ MapS w' b20 mp ∧ (∀ s, lkB mp s = seen ((l.take k).map (·.name)) s) ∧ typesFault l = firstF (tyFault l) k (l.length - k)) (l.length) ?_ (fun m g5 w5 hI => ?_)
 ·
  exact ⟨0, [], Nat.zero_le _, rfl, rfl, hB, hb2, hb20, fun s => rfl, hR.out⟩
 obtain ⟨k, mp, hk, hm, h23, hB, hb2, hb20, hmp, hR'⟩ := hI
 refine c_know 23 (.int .i64 k) h23 nu (c_seq (c_region (wl (r_lss rfl rfl) (x_nil (e_S ?_)))))
 refine c_seq ?_
 refine c_ifd rfl (fun c24 => ?_) (fun c24 => ?_)
 ·
  have hlt : k < l.length := by omega
  obtain ⟨tb, to, A', cp, rfl, htb, htr, hpar⟩ := hT.at_ hB hlt
  refine c_skip (e_S (c_seq (c_block (c_seq (c_region ?_)))))
  refine wmI rfl (wl (r_ia (i := k) U22 sz77 rfl rfl om rfl) (wl (r_ldS U77 rfl rfl htr sz77) ?_))
  refine wl_al (cs := #[.string ⟨#[]⟩, .slice none 0 0]) ze77 rfl (fun b5 w6 hb5 hs hr => ?_)
  have or_b2_b5 : b2 < b5 := nLL hb2.lt hr
  have or_b20_b5 : b20 < b5 := nLL hb20.lt hr
  have lo5 := nLT (Bel.size hB) hr
  replace hB := hB.tr0 hs
  replace hb2 := hb2.tr0 hs
  replace hb20 := hb20.tr0 hs
  clear hs
  clear hr
  refine waI rfl ?_
  refine wl_stW hb5 rfl rfl sz77 rfl oneA (fun w7 hq hs => ?_)
  replace hB := hB.tr1 hs lo5
  replace hb2 := hb2.tr1 hs om
  replace hb20 := hb20.tr1 hs om
  clear hs
  replace hb5 := hq
  refine x_nil (e_S (c_seq (c_seq (c_region (wl (r_fa U77 sz9 dE rfl rfl rfl) ?_)))))
  refine wl (r_ld1 (v := .string _) U9 rfl rfl (hb5.cell rfl)) ?_
  refine wl_cl fn81 (name_any _ _) rfl (fun e' w8 hr => ?_)
  obtain ⟨rfl, rfl⟩ := hr
  refine ⟨_, rfl, ?_⟩
  refine wl (r_not rfl) (x_nil (e_S ?_))
  refine c_if rfl (fun c31 => ?_) (fun c31 => ?_)
  ·
   have hty := ty10 l k hlt (by simpa using c31)
   refine c_seq (c_region (wmI rfl ?_))
   refine wl_cl fn41 (fault_any _ _ _) rfl (fun e' w9 hr => ?_)
   obtain ⟨rfl, hs⟩ := hr
   replace hs := Same.of_bel hs
   replace hB := hB.tr0 hs
   replace hb2 := hb2.tr0 hs
   replace hb20 := hb20.tr0 hs
   replace hb5 := hb5.tr0 hs
   clear hs
   refine ⟨_, rfl, ?_⟩
   refine wl_stW hb2 rfl rfl sz35 rfl oneA (fun w10 hq hs => ?_)
   replace hB := hB.tr1 hs lo2
   replace hb20 := hb20.tr1 hs om
   replace hb5 := hb5.tr1 hs om
   clear hs
   replace hb2 := hq
   refine x_nil (e_S (c_ret (e_Sr (e_Br (e_Sr ?_)))))
   refine e_LSr (e_Br (e_Sr (fin1 (.inl rfl) rfl (rr_cell U35 rfl rfl hb2.range0 sz35) ?_)))
   exact ⟨ret_fl (hR'.trans (firstF_hit (c := 10) om hty dE)), hB⟩
  have hnm : isName (l[k]'hlt).name = true := by simpa using c31
  refine c_skip (e_S (c_seq (c_seq (c_region (wl (r_mv (v := .map _) rfl) ?_)))))
  refine wl (r_fa U77 sz9 dE rfl rfl rfl) (wl (r_ld1 (v := .string _) U9 rfl rfl (hb5.cell rfl)) (wl (r_lkS hb20 Tryd.underlying120 U9 ze3 rfl rfl) (wmT rfl (wl (r_ex (v := _) rfl rfl) (wl (r_ex (v := .bool _) rfl rfl) ?_)))))
  refine wl (r_as (v := _) rfl) (waB rfl (x_nil (e_S (c_seq (c_region ?_)))))
  refine wmB rfl (x_nil (e_S ?_))
  refine c_if rfl (fun c41 => ?_) (fun c41 => ?_)
  ·
   have hty := ty7 l k hlt hnm ((hmp _).symm.trans c41)
   refine c_seq (c_region (wmI rfl ?_))
   refine wl_cl fn41 (fault_any _ _ _) rfl (fun e' w11 hr => ?_)
   obtain ⟨rfl, hs⟩ := hr
   replace hs := Same.of_bel hs
   replace hB := hB.tr0 hs
   replace hb2 := hb2.tr0 hs
   replace hb20 := hb20.tr0 hs
   replace hb5 := hb5.tr0 hs
   clear hs
   refine ⟨_, rfl, ?_⟩
   refine wl_stW hb2 rfl rfl sz35 rfl oneA (fun w12 hq hs => ?_)
   replace hB := hB.tr1 hs lo2
   replace hb20 := hb20.tr1 hs om
   replace hb5 := hb5.tr1 hs om
   clear hs
   replace hb2 := hq
   refine x_nil (e_S (c_ret (e_Sr (e_Br (e_Sr ?_)))))
   refine e_LSr (e_Br (e_Sr (fin1 (.inl rfl) rfl (rr_cell U35 rfl rfl hb2.range0 sz35) ?_)))
   exact ⟨ret_fl (hR'.trans (firstF_hit (c := 7) om hty dE)), hB⟩
  have hsn : seen ((l.take k).map (·.name)) (l[k]'hlt).name = false := by rw [← hmp]; exact c41
  have hmp' : ∀ s, lkB (setS mp (l[k]'hlt).name (.int .i64 k)) s = seen ((l.take (k + 1)).map (·.name)) s := fun s => by
    rw [lkB_false_set _ _ _ c41, take_snoc l hlt, List.map_append, List.map_cons, List.map_nil, seen_snoc, ← hmp]
    simp [lkB]
  refine c_skip (e_S (c_seq (c_region (wl (r_mv (v := .map _) rfl) (wl (r_fa U77 sz9 dE rfl rfl rfl) ?_)))))
  refine wl (r_ld1 (v := .string _) U9 rfl rfl (hb5.cell rfl)) (wmI rfl ?_)
  refine wl_muS (v := .int _ _) hb20 Tryd.underlying120 U9 rfl rfl rfl (fun w13 hq hs => ?_)
  replace hB := hB.tr1 hs lo20
  replace hb2 := hb2.tr1 hs om
  replace hb5 := hb5.tr1 hs om
  clear hs
  replace hb20 := hq
  refine x_nil (e_S (c_seq (c_seq (c_region (wmI rfl ?_)))))
  refine wl (r_eql rfl rfl) (wl (r_fa U77 sz43 dE rfl rfl rfl) (wl (r_ld1 (v := .slice _ _ _) U43 rfl rfl (hb5.cell rfl)) (wl (r_len U43 rfl) (wl (r_eql rfl rfl) (wl (r_neqB U4 rfl rfl) ?_)))))
  refine x_nil (e_S ?_)
  refine c_if rfl (fun c54 => ?_) (fun c54 => ?_)
  ·
   have hty := ty5 l k hlt hnm hsn (mal_yes c54)
   refine c_seq (c_region (wmI rfl ?_))
   refine wl_cl fn41 (fault_any _ _ _) rfl (fun e' w14 hr => ?_)
   obtain ⟨rfl, hs⟩ := hr
   replace hs := Same.of_bel hs
   replace hB := hB.tr0 hs
   replace hb2 := hb2.tr0 hs
   replace hb20 := hb20.tr0 hs
   replace hb5 := hb5.tr0 hs
   clear hs
   refine ⟨_, rfl, ?_⟩
   refine wl_stW hb2 rfl rfl sz35 rfl oneA (fun w15 hq hs => ?_)
   replace hB := hB.tr1 hs lo2
   replace hb20 := hb20.tr1 hs om
   replace hb5 := hb5.tr1 hs om
   clear hs
   replace hb2 := hq
   refine x_nil (e_S (c_ret (e_Sr (e_Br (e_Sr ?_)))))
   refine e_LSr (e_Br (e_Sr (fin1 (.inl rfl) rfl (rr_cell U35 rfl rfl hb2.range0 sz35) ?_)))
   exact ⟨ret_fl (hR'.trans (firstF_hit (c := 5) om hty dE)), hB⟩
  have hmal := mal_no c54
  refine c_skip (e_S (c_seq (c_region (waI rfl (x_nil ?_)))))
  refine e_S (c_seq (c_region (wl (r_fa U77 sz43 dE rfl rfl rfl) (wl (r_ld1 (v := .slice _ _ _) U43 rfl rfl (hb5.cell rfl)) (wl (r_len U43 rfl) ?_)))))
  refine wmI rfl (x_nil (e_S (c_block ?_)))
  refine c_loopS [8, 10, 60, 61, 62, 63, 64, 65, 66, 67, 68, 69, 70, 71, 72, 73, 74, 75, 76, 77, 78, 79] (fun m g w' => ∃ (j : Nat) (last : Int), j ≤ (l[k]'hlt).par.length ∧ m = (l[k]'hlt).par.length - j ∧ g 60 = .int .i64 j ∧ g 8 = .int .i64 last ∧ w13 = w' ∧ tyFault l k = parFault k last ((l[k]'hlt).par.drop j)) ((l[k]'hlt).par.length) ?_ (fun m g17 w16 hI => ?_)
  ·
   exact ⟨0, -1, Nat.zero_le _, rfl, rfl, rfl, rfl, tyF_par l k hlt hnm hsn hmal⟩
  obtain ⟨j, last, hj, hmj, h60, h8, rfl, hP⟩ := hI
  refine c_know 60 (.int .i64 j) h60 nu (c_know 8 (.int .i64 last) h8 nu (c_seq (c_region (wl (r_lss rfl rfl) (x_nil ?_)))))
  refine e_S (c_seq ?_)
  refine c_ifd rfl (fun c61 => ?_) (fun c61 => ?_)
  ·
   have hlj : j < (l[k]'hlt).par.length := by omega
   have hmx := hpar.1
   unfold maxI at hmx
   obtain ⟨pb, po, rfl, hpb, hpc⟩ := hpar.at_ hlj
   replace hpc := hB.cell hpb hpc
   refine c_skip (e_S (c_seq (c_block (c_seq (c_region ?_)))))
   refine wl (r_ia (i := j) U43 sz3 rfl rfl om rfl) (wl (r_ld1 (v := .int _ _) U3 rfl rfl hpc) (waI rfl (x_nil (e_S (c_seq ?_)))))
   refine c_seq ?_
   refine c_cut1 [64, 65, 66, 67, 68, 69, 70] 70 (.bool (decide ((l[k]'hlt).par[j] < 0 ∨ (k : Int) ≤ (l[k]'hlt).par[j]))) nu ?_ (fun gq => ?_)
   ·
    refine c_region (wmI rfl (wl (r_lss rfl rfl) (wmB rfl ?_)))
    refine wl_casesd 66 rfl (fun g66 => ?_) (fun g66 => ?_)
    ·
     refine wlgn 66 rfl rfl rfl (wlgn 66 rfl rfl rfl (wlgn 66 rfl rfl rfl (wl (r_pt (v := .bool _) rfl rfl) ?_)))
     refine x_nil (e_R ⟨rfl, agA, ?_⟩)
     exact clA
    refine wl_gd 66 rfl rfl (wmI rfl (wl_gd 66 rfl rfl (wmI rfl (wl_gd 66 rfl rfl (wl (r_geq rfl rfl) ?_)))))
    refine wl (r_pf (v := .bool _) rfl rfl) ?_
    refine x_nil (e_R ⟨rfl, agA, ?_⟩)
    exact clA
   refine e_S ?_
   refine c_ifd rfl (fun c70 => ?_) (fun c70 => ?_)
   ·
    have hty : tyFault l k = 3 := by rw [hP, List.drop_eq_getElem_cons hlj]; simp only [parFault, if_pos c70]
    refine c_seq (c_region (wmI rfl ?_))
    refine wl_cl fn41 (fault_any _ _ _) rfl (fun e' w17 hr => ?_)
    obtain ⟨rfl, hs⟩ := hr
    replace hs := Same.of_bel hs
    replace hB := hB.tr0 hs
    replace hb2 := hb2.tr0 hs
    replace hb20 := hb20.tr0 hs
    replace hb5 := hb5.tr0 hs
    clear hs
    refine ⟨_, rfl, ?_⟩
    refine wl_stW hb2 rfl rfl sz35 rfl oneA (fun w18 hq hs => ?_)
    replace hB := hB.tr1 hs lo2
    replace hb20 := hb20.tr1 hs om
    replace hb5 := hb5.tr1 hs om
    clear hs
    replace hb2 := hq
    refine x_nil (e_S (c_ret (e_Sr (e_Br (e_Sr ?_)))))
    refine e_LSr (e_Br (e_Br (e_Sr (e_LSr (e_Br ?_)))))
    refine e_Sr (fin1 (.inl rfl) rfl (rr_cell U35 rfl rfl hb2.range0 sz35) ?_)
    exact ⟨ret_fl (hR'.trans (firstF_hit (c := 3) om hty dE)), hB⟩
   refine c_skip (e_S (c_seq (c_seq (c_region (wmI rfl ?_)))))
   refine wmI rfl (wl (r_leq rfl rfl) (x_nil (e_S ?_)))
   refine c_ifd rfl (fun c75 => ?_) (fun c75 => ?_)
   ·
    have hty : tyFault l k = 13 := by rw [hP, List.drop_eq_getElem_cons hlj]; simp only [parFault, if_neg c70, if_pos c75]
    refine c_seq (c_region (wmI rfl ?_))
    refine wl_cl fn41 (fault_any _ _ _) rfl (fun e' w19 hr => ?_)
    obtain ⟨rfl, hs⟩ := hr
    replace hs := Same.of_bel hs
    replace hB := hB.tr0 hs
    replace hb2 := hb2.tr0 hs
    replace hb20 := hb20.tr0 hs
    replace hb5 := hb5.tr0 hs
    clear hs
    refine ⟨_, rfl, ?_⟩
    refine wl_stW hb2 rfl rfl sz35 rfl oneA (fun w20 hq hs => ?_)
    replace hB := hB.tr1 hs lo2
    replace hb20 := hb20.tr1 hs om
    replace hb5 := hb5.tr1 hs om
    clear hs
    replace hb2 := hq
    refine x_nil (e_S (c_ret (e_Sr (e_Br (e_Sr ?_)))))
    refine e_LSr (e_Br (e_Br (e_Sr (e_LSr (e_Br ?_)))))
    refine e_Sr (fin1 (.inl rfl) rfl (rr_cell U35 rfl rfl hb2.range0 sz35) ?_)
    exact ⟨ret_fl (hR'.trans (firstF_hit (c := 13) om hty dE)), hB⟩
   have hP' : tyFault l k = parFault k (l[k]'hlt).par[j] ((l[k]'hlt).par.drop (j + 1)) := by rw [hP, List.drop_eq_getElem_cons hlj]; simp only [parFault, if_neg c70, if_neg c75]
   refine c_skip (e_S (c_region (wmI rfl (waI rfl (x_nil ?_)))))
   refine e_B (e_S (c_region (wl (r_add rfl rfl rfl om) (wmI rfl (x_nil ?_)))))
   refine e_LS ((l[k]'hlt).par.length - (j + 1)) om agA ?_
   exact ⟨j + 1, (l[k]'hlt).par[j], by omega, rfl, rfl, rfl, rfl, hP'⟩
  have hty := Lib.hid (show tyFault l k = 0 by rw [hP, List.drop_eq_nil_of_le om]; rfl)
  refine c_exit (e_Sx (e_LSx (e_Bx (e_B (e_S ?_)))))
  refine c_region (wl (r_add rfl rfl rfl om) (wmI rfl (x_nil (e_LS (l.length - (k + 1)) om agA ?_))))
  exact ⟨k + 1, setS mp (l[k]'hlt).name (.int .i64 k), by omega, rfl, rfl, hB, hb2, hb20, hmp', hR'.trans (firstF_miss hlt hty.out)⟩
 refine c_exit (e_Sx (e_LSx (e_Bx (e_S (c_seq ?_)))))
 refine c_region (wl (r_bd (vs := #[]) (cs := #[.int .i64 0, .int .i64 0]) (by simp) kR) ?_)
 refine wl_stW hb2 rfl rfl sz35 rfl oneA (fun w21 hq hs => ?_)
 replace hB := hB.tr1 hs lo2
 replace hb20 := hb20.tr1 hs om
 clear hs
 replace hb2 := hq
 refine x_nil (e_S (c_ret (fin1 (.inl rfl) rfl (rr_cell U35 rfl rfl hb2.range0 sz35) ?_)))
 exact ⟨ret_fl (hR'.trans (firstF_end om)), hB⟩
end Go.Proofs.YtegngekpmpdngaaDoor
