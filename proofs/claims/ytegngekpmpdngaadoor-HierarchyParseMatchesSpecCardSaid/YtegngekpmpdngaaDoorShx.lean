/- Strings cut at places and at bytes. No program in sight. The engine's third part: regions that draw their order, with intervals of blocks. Slices of slices of ints, as they lie in a world. No program in sight. Lines that describe a hierarchy: what they make, and how a hierarchy that grows lies in a world. No program in sight. What these functions of the program compute, at every world: slices.Index[[]bool,bool], glosswright/graph.fault, glosswright/graph.Loose, glosswright/glosswrightref3.LooseFault. What these functions of the program compute, at every world: glosswright/graph.Unreached, glosswright/glosswrightref3.Unreached. What these functions of the program compute, at every world: glosswright/graph.Within, glosswright/glosswrightref3.InHierarchy, glosswright/graph.Validate, glosswright/glosswrightref3.GraphFault. What the kit's shelf says of the library functions of this program, laid at its numbers. -/
import Derived.Test.YtegngekpmpdngaaDoorBld
import Derived.Lib.Bytealg
import Derived.Test.YtegngekpmpdngaaDoorEng2
import Derived.Lib.AppendZerosOnto
import Derived.Test.YtegngekpmpdngaaDoorTypes
import Derived.Test.YtegngekpmpdngaaDoorHLaw
import Derived.Test.YtegngekpmpdngaaDoorValid
import Derived.Test.YtegngekpmpdngaaDoorU
import Derived.Shelf.Strings.Search3
import Derived.Shelf.Strings.Count
import Derived.Test.YtegngekpmpdngaaDoorProg
namespace Go.Proofs.YtegngekpmpdngaaDoor
open Go.RowKit
def stk (h : Nat) (s : ByteArray) : ByteArray := ⟨((bl s).take h).toArray⟩
def sdr (l : Nat) (s : ByteArray) : ByteArray := ⟨((bl s).drop l).toArray⟩
theorem bl_stk (h : Nat) (s : ByteArray) : bl (stk h s) = (bl s).take h := rfl
theorem bl_sdr (l : Nat) (s : ByteArray) : bl (sdr l s) = (bl s).drop l := rfl
theorem sdr_size (l : Nat) (s : ByteArray) : (sdr l s).size = s.size - l := by rw [← bl_size, ← bl_size, bl_sdr, List.length_drop]
theorem stk_size {h : Nat} {s : ByteArray} (hh : h ≤ s.size) : (stk h s).size = h := by rw [← bl_size, bl_stk, List.length_take, bl_size]; omega
theorem ext_bl (s : ByteArray) (l h : Nat) : bl (s.extract l h) = ((bl s).drop l).take (h - l) := by
  unfold bl
  rw [ByteArray.data_extract, Array.toList_extract, List.extract_eq_take_drop]
theorem ext_stk {s : ByteArray} {h : Nat} : s.extract 0 h = stk h s := bl_ext (by rw [ext_bl, bl_stk, List.drop_zero, Nat.sub_zero])
theorem ext_sdr {s : ByteArray} {l : Nat} : s.extract l s.size = sdr l s := bl_ext (by
  rw [ext_bl, bl_sdr, List.take_of_length_le]
  rw [List.length_drop, bl_size]
  exact Nat.le_refl _)
theorem bl_byte {s : ByteArray} {i : Nat} (hi : i < s.size) : (bl s)[i]? = some (s[i]'hi) := by
  unfold bl
  rw [Array.getElem?_toList, Array.getElem?_eq_getElem (by exact hi)]
  rfl
theorem ext_one {s : ByteArray} {i : Nat} (hi : i < s.size) : s.extract i (i + 1) = ⟨#[s[i]'hi]⟩ := bl_ext (by
  rw [ext_bl, show i + 1 - i = 1 by omega, List.take_one, List.head?_drop, bl_byte hi]
  rfl)
section rules
variable {P : Program} {Q : Exit → Act → World → Prop} {n : Nat} {f : Fr} {w w' : World} {ops : Array Oper} {rest : List Oper} {d : Nat} {ty : TypeId} {pos : String} {af : Array Edge} {x y z : Operand} {t t' e : TypeId}
theorem r_tkS {dst : Option Tmp} {gd : Option (Nat × Bool)} {s : ByteArray} {h : Nat} (hu : P.underlying t = some .string) (hx : ev n f x = .string s) (hy : ev n f y = .int .i64 (h : Int)) (hh : h ≤ s.size) :
    RV P n f w ⟨dst, .slice t x none (some y) none, ty, pos, af, gd⟩ (.string (stk h s)) w := by
  have h1 : (Instr.sliceBound (.int .i64 (h : Int)) s.size .sliceAlen).run P w = .ok h w := by
    simp [Instr.sliceBound, asIntOf, hh]
  simp [RV, execOp, hx, hy, Instr.sliceAt, run_underlying hu, Instr.slice, Instr.sliceBounds, h1, ext_stk]
theorem r_drS {dst : Option Tmp} {gd : Option (Nat × Bool)} {s : ByteArray} {l : Nat} (hu : P.underlying t = some .string) (hx : ev n f x = .string s) (hy : ev n f y = .int .i64 (l : Int)) (hl : l ≤ s.size) :
    RV P n f w ⟨dst, .slice t x (some y) none none, ty, pos, af, gd⟩ (.string (sdr l s)) w := by
  have h1 : (Instr.sliceBound (.int .i64 (l : Int)) s.size .sliceB).run P w = .ok l w := by
    simp [Instr.sliceBound, asIntOf, hl]
  simp [RV, execOp, hx, hy, Instr.sliceAt, run_underlying hu, Instr.slice, Instr.sliceBounds, h1, ext_sdr]
theorem r_onS {dst : Option Tmp} {gd : Option (Nat × Bool)} {s : ByteArray} {i : Nat} (hu : P.underlying t = some .string) (hx : ev n f x = .string s) (hy : ev n f y = .int .i64 (i : Int)) (hz : ev n f z = .int .i64 ((i + 1 : Nat) : Int)) (hi : i < s.size) :
    RV P n f w ⟨dst, .slice t x (some y) (some z) none, ty, pos, af, gd⟩ (.string ⟨#[s[i]'hi]⟩) w := by
  have h1 : (Instr.sliceBound (.int .i64 ((i + 1 : Nat) : Int)) s.size .sliceAlen).run P w = .ok (i + 1) w := by
    simp [Instr.sliceBound, asIntOf]
    omega
  have h2 : (Instr.sliceBound (.int .i64 (i : Int)) (i + 1) .sliceB).run P w = .ok i w := by
    simp [Instr.sliceBound, asIntOf]
    omega
  simp only [Int.natCast_add, Int.cast_ofNat_Int] at h1
  simp [RV, execOp, hx, hy, hz, Instr.sliceAt, run_underlying hu, Instr.slice, Instr.sliceBounds, h1, h2, ext_one hi]
end rules
def splitL (c : UInt8) : List UInt8 → List (List UInt8)
  | [] => [[]]
  | x :: xs => if x = c then [] :: splitL c xs else (x :: (splitL c xs).headD []) :: (splitL c xs).tail
theorem splitL_cons (c x : UInt8) (xs : List UInt8) : splitL c (x :: xs) = if x = c then [] :: splitL c xs else (x :: (splitL c xs).headD []) :: (splitL c xs).tail := rfl
theorem splitL_ne (c : UInt8) (l : List UInt8) : splitL c l ≠ [] := by
  cases l with
  | nil => simp [splitL]
  | cons x xs => unfold splitL; split <;> simp
theorem headD_tail {α : Type} {l : List α} (h : l ≠ []) (d : α) : l.headD d :: l.tail = l := by cases l with
  | nil => exact absurd rfl h
  | cons x xs => rfl
theorem splitL_len (c : UInt8) : ∀ l : List UInt8, (splitL c l).length = l.count c + 1
  | [] => rfl
  | x :: xs => by
    have ih := splitL_len c xs
    unfold splitL
    by_cases e : x = c
    · subst e; simp [ih]
    · have h2 : ¬ c = x := fun h => e h.symm
      rw [if_neg e, List.length_cons, List.length_tail, ih, List.count_cons, if_neg (by simpa using e)]
      omega
theorem splitL_app {c : UInt8} {p : List UInt8} (hp : ¬ c ∈ p) (r : List UInt8) : splitL c (p ++ c :: r) = p :: splitL c r := by
  induction p with
  | nil => simp [splitL]
  | cons x xs ih =>
    have h1 : ¬ x = c := fun h => hp (h ▸ List.mem_cons_self ..)
    have h2 := ih (fun h => hp (List.mem_cons_of_mem _ h))
    rw [List.cons_append, splitL_cons, if_neg h1, h2]
    rfl
theorem splitL_self {c : UInt8} {p : List UInt8} (hp : ¬ c ∈ p) : splitL c p = [p] := by
  induction p with
  | nil => rfl
  | cons x xs ih =>
    have h1 : ¬ x = c := fun h => hp (h ▸ List.mem_cons_self ..)
    have h2 := ih (fun h => hp (List.mem_cons_of_mem _ h))
    rw [splitL_cons, if_neg h1, h2]
    rfl
theorem ixb_neg {c : UInt8} : ∀ {l : List UInt8}, Lib.indexByte l c < 0 → ¬ c ∈ l
  | [], _ => by simp
  | b :: l, h => by
    unfold Lib.indexByte at h
    by_cases e : b = c
    · simp [e] at h
    · have e2 : (b == c) = false := by simpa using e
      simp only [e2, Bool.false_eq_true, if_false] at h
      have h3 := Lib.indexByte_ge l c
      have h4 : Lib.indexByte l c < 0 := by
        by_cases q : Lib.indexByte l c = -1
        · omega
        · have q2 : (Lib.indexByte l c == -1) = false := by simpa using q
          simp only [q2, Bool.false_eq_true, if_false] at h
          omega
      intro hm
      rcases List.mem_cons.1 hm with q | q
      · exact e q.symm
      · exact ixb_neg h4 q
theorem ixb_pos {c : UInt8} : ∀ {l : List UInt8} {m : Nat}, Lib.indexByte l c = (m : Int) → m < l.length ∧ ¬ c ∈ l.take m ∧ l = l.take m ++ c :: l.drop (m + 1)
  | [], m, h => by simp [Lib.indexByte] at h
  | b :: l, m, h => by
    unfold Lib.indexByte at h
    by_cases e : b = c
    · have e2 : (b == c) = true := by simpa using e
      simp only [e2, if_true] at h
      have : m = 0 := by omega
      subst this
      exact ⟨by simp, by simp, by simp [e]⟩
    · have e2 : (b == c) = false := by simpa using e
      simp only [e2, Bool.false_eq_true, if_false] at h
      by_cases q : Lib.indexByte l c = -1
      · simp [q] at h
      · have q2 : (Lib.indexByte l c == -1) = false := by simpa using q
        simp only [q2, Bool.false_eq_true, if_false] at h
        have h3 := Lib.indexByte_ge l c
        obtain ⟨k, rfl⟩ : ∃ k, m = k + 1 := ⟨m - 1, by omega⟩
        obtain ⟨a1, a2, a3⟩ := ixb_pos (c := c) (l := l) (m := k) om
        refine ⟨by simp; exact a1, ?_, ?_⟩
        · rw [List.take_succ_cons]
          intro hm
          rcases List.mem_cons.1 hm with q | q
          · exact e q.symm
          · exact a2 q
        · rw [List.take_succ_cons, List.drop_succ_cons, List.cons_append, ← a3]
theorem splitL_cut {c : UInt8} {l : List UInt8} {m : Nat} (h : Lib.indexByte l c = (m : Int)) : m < l.length ∧ splitL c l = l.take m :: splitL c (l.drop (m + 1)) := by
  obtain ⟨h1, h2, h3⟩ := ixb_pos h
  refine ⟨h1, ?_⟩
  have := splitL_app h2 (l.drop (m + 1))
  rwa [← h3] at this
theorem splitL_no {c : UInt8} {l : List UInt8} (h : Lib.indexByte l c < 0) : splitL c l = [l] := splitL_self (ixb_neg h)
def sp (c : UInt8) (s : ByteArray) : List ByteArray := (splitL c (bl s)).map (fun p => ⟨p.toArray⟩)
theorem sp_len (c : UInt8) (s : ByteArray) : (sp c s).length = (bl s).count c + 1 := by unfold sp; rw [List.length_map, splitL_len]
theorem sp_ne (c : UInt8) (s : ByteArray) : sp c s ≠ [] := fun h => by have := sp_len c s; rw [h] at this; simp at this
theorem sp_no {c : UInt8} {s : ByteArray} (h : Lib.indexByte (bl s) c < 0) : sp c s = [s] := by
  unfold sp
  rw [splitL_no h]
  exact congrArg (fun z => [z]) (bl_ext rfl)
theorem sp_cut {c : UInt8} {s : ByteArray} {m : Nat} (h : Lib.indexByte (bl s) c = (m : Int)) : m < s.size ∧ sp c s = stk m s :: sp c (sdr (m + 1) s) := by
  obtain ⟨h1, h2⟩ := splitL_cut h
  rw [bl_size] at h1
  refine ⟨h1, ?_⟩
  unfold sp
  rw [h2, List.map_cons]
  rfl
def pc (c : UInt8) (s : ByteArray) (k : Nat) : ByteArray := (sp c s).getD k ⟨#[]⟩
theorem pc_get {c : UInt8} {s : ByteArray} {k : Nat} (hk : k < (sp c s).length) : (sp c s)[k] = pc c s k := by simp [pc, List.getD, hk]
theorem sp_at {c : UInt8} {s r : ByteArray} {i : Nat} (h : (sp c s).drop i = sp c r) (hi : i + 1 < (sp c s).length) : ∃ m : Nat, Lib.indexByte (bl r) c = (m : Int) ∧ m < r.size ∧ stk m r = pc c s i ∧ (sp c s).drop (i + 1) = sp c (sdr (m + 1) r) := by
  have hl := congrArg List.length h
  rw [List.length_drop] at hl
  have hge := Lib.indexByte_ge (bl r) c
  have hnn : ¬ Lib.indexByte (bl r) c < 0 := fun hneg => by
    rw [sp_no hneg] at hl
    simp at hl
    omega
  refine ⟨(Lib.indexByte (bl r) c).toNat, by omega, ?_⟩
  obtain ⟨h1, h2⟩ := sp_cut (c := c) (s := r) (m := (Lib.indexByte (bl r) c).toNat) om
  rw [List.drop_eq_getElem_cons (by omega : i < (sp c s).length), h2] at h
  obtain ⟨e1, e2⟩ := List.cons.inj h
  exact ⟨h1, by rw [← e1, pc_get], e2⟩
theorem sp_last {c : UInt8} {s r : ByteArray} {i : Nat} (h : (sp c s).drop i = sp c r) (hi : i + 1 = (sp c s).length) : r = pc c s i := by
  have hl := congrArg List.length h
  rw [List.length_drop, sp_len c r] at hl
  have h1 : ¬ c ∈ bl r := fun hm => by
    have := List.count_pos_iff.2 hm
    omega
  have h2 : sp c r = [r] := by
    unfold sp
    rw [splitL_self h1]
    exact congrArg (fun z => [z]) (bl_ext rfl)
  rw [List.drop_eq_getElem_cons (by omega : i < (sp c s).length), h2] at h
  obtain ⟨e1, _⟩ := List.cons.inj h
  rw [← e1, pc_get]
theorem count_size (c : UInt8) (s : ByteArray) : (bl s).count c ≤ s.size := by rw [← bl_size]; exact List.count_le_length
def StrsIn (w : World) (A : Option Addr) (xs : List ByteArray) : Prop :=
  xs.length ≤ maxI ∧ (xs ≠ [] → ∃ b o, A = some ⟨b, o, none⟩ ∧ b < w.heap.size ∧ ∀ k (h : k < xs.length), w.cell? ⟨b, o + k * 1, none⟩ = some (.string xs[k]))
theorem StrsIn.mono {w w' : World} {A : Option Addr} {xs : List ByteArray} (h : StrsIn w A xs) (hb : Bel w w') : StrsIn w' A xs :=
  ⟨h.1, fun hn => by
    obtain ⟨b, o, e, hl, hc⟩ := h.2 hn
    exact ⟨b, o, e, nLL hl hb.size, fun k hk => hb.cell hl (hc k hk)⟩⟩
theorem StrsIn.at_ {w : World} {A : Option Addr} {xs : List ByteArray} (h : StrsIn w A xs) {k : Nat} (hk : k < xs.length) :
    ∃ b o, A = some ⟨b, o, none⟩ ∧ b < w.heap.size ∧ w.cell? ⟨b, o + k * 1, none⟩ = some (.string xs[k]) := by
  obtain ⟨b, o, e, hl, hc⟩ := h.2 (by rintro rfl; simp at hk)
  exact ⟨b, o, e, hl, hc k hk⟩
def spR (c : UInt8) (s : ByteArray) : Array Value := row (sp c s).length (fun k => .string (pc c s k))
theorem spR_get {c : UInt8} {s : ByteArray} {k : Nat} (hk : k < (sp c s).length) : (spR c s)[0 + k * 1]? = some (.string (pc c s k)) := row_get hk
theorem spR_strs {w : World} {b t : Nat} {c : UInt8} {s : ByteArray} (h : Blk w b t (spR c s)) (hs : s.size ≤ 4000) {n : Nat} (hn : n ≤ (sp c s).length) : StrsIn w (some ⟨b, 0, none⟩) ((sp c s).take n) := by
  refine ⟨?_, fun _ => ⟨b, 0, rfl, h.lt, fun k hk => ?_⟩⟩
  · have := sp_len c s
    have := count_size c s
    rw [List.length_take]; unfold maxI; omega
  · rw [List.length_take] at hk
    rw [List.getElem_take, pc_get om]
    exact h.cell (spR_get om)
theorem spR_all {w : World} {b t : Nat} {c : UInt8} {s : ByteArray} (h : Blk w b t (spR c s)) (hs : s.size ≤ 4000) : StrsIn w (some ⟨b, 0, none⟩) (sp c s) := by
  have := spR_strs h hs (Nat.le_refl _)
  rwa [List.take_length] at this
end Go.Proofs.YtegngekpmpdngaaDoor
namespace Go.Proofs.YtegngekpmpdngaaDoor
open Go.RowKit
section monoi
variable {P : Program} {Q : Exit → Act → World → Prop} {n : Nat} {f : Fr} {w : World}
def FinAll (p : List Nat → Prop) : List (List Nat) → Prop
  | [] => True
  | x :: r => p x ∧ FinAll p r
theorem FinAll.get {p : List Nat → Prop} : ∀ {xs : List (List Nat)}, FinAll p xs → ∀ x ∈ xs, p x
  | _ :: _, h, x, hx => by
    rcases List.mem_cons.1 hx with rfl | hx
    · exact h.1
    · exact FinAll.get h.2 x hx
end monoi
def Kept (lo hi : Nat) (w : World) (p : World → Prop) : Prop := hi ≤ w.heap.size ∧ ∀ w2 : World, hi ≤ w2.heap.size → (∀ b, lo ≤ b → b < hi → w2.heap[b]? = w.heap[b]?) → p w2
theorem Kept.tr {lo hi : Nat} {w w' : World} {p : World → Prop} {X : List Nat} (h : Kept lo hi w p) (hs : Same X w w') (hx : ∀ g ∈ X, g < lo ∨ hi ≤ g) : Kept lo hi w' p :=
  ⟨nLT h.1 hs.size, fun w2 h2 hb => h.2 w2 h2 (fun b h3 h4 => (hb b h3 h4).trans (hs.blk b (nLL h4 h.1) (fun hX => by rcases hx b hX with h5 | h5 <;> omega)))⟩
theorem Kept.tr0 {lo hi : Nat} {w w' : World} {p : World → Prop} (h : Kept lo hi w p) (hs : Same [] w w') : Kept lo hi w' p := h.tr hs (by simp)
theorem Kept.tr1 {lo hi b : Nat} {w w' : World} {p : World → Prop} (h : Kept lo hi w p) (hs : Same [b] w w') (hx : b < lo ∨ hi ≤ b) : Kept lo hi w' p := h.tr hs (fun g hg => by rw [List.mem_singleton.1 hg]; exact hx)
theorem Kept.imp {lo hi : Nat} {w : World} {p q : World → Prop} (h : Kept lo hi w p) (k : ∀ w2, p w2 → q w2) : Kept lo hi w q := ⟨h.1, fun w2 h2 hb => k w2 (h.2 w2 h2 hb)⟩
end Go.Proofs.YtegngekpmpdngaaDoor
namespace Go.Proofs.YtegngekpmpdngaaDoor
open Go.RowKit
def iV (xs : List Int) : List Value := xs.map (Value.int .i64)
theorem iV_len (xs : List Int) : (iV xs).length = xs.length := by simp [iV]
def MatIn (w : World) (A : Option Addr) (L : List (List Int)) : Prop :=
  L.length ≤ maxI ∧ (L ≠ [] → ∃ b o, A = some ⟨b, o, none⟩ ∧ b < w.heap.size ∧ ∀ k (hk : k < L.length), ∃ A' c, w.cell? ⟨b, o + k * 1, none⟩ = some (.slice A' (L[k]).length c) ∧ IntsIn w A' L[k])
theorem MatIn.mono {w w' : World} {A : Option Addr} {L : List (List Int)} (h : MatIn w A L) (hb : Bel w w') : MatIn w' A L :=
  ⟨h.1, fun hn => by
    obtain ⟨b, o, e, hl, hc⟩ := h.2 hn
    refine ⟨b, o, e, nLL hl hb.size, fun k hk => ?_⟩
    obtain ⟨A', c, h1, h2⟩ := hc k hk
    exact ⟨A', c, hb.cell hl h1, h2.mono hb⟩⟩
theorem MatIn.at_ {w w' : World} {A : Option Addr} {L : List (List Int)} (h : MatIn w A L) (hb : Bel w w') {k : Nat} (hk : k < L.length) :
    ∃ b o A' c, A = some ⟨b, o, none⟩ ∧ w'.cell? ⟨b, o + k * 1, none⟩ = some (.slice A' (L[k]).length c) ∧ IntsIn w A' L[k] := by
  obtain ⟨b, o, e, hl, hc⟩ := h.2 (by rintro rfl; simp at hk)
  obtain ⟨A', c, h1, h2⟩ := hc k hk
  exact ⟨b, o, A', c, e, hb.cell hl h1, h2⟩
end Go.Proofs.YtegngekpmpdngaaDoor
namespace Go.Proofs.YtegngekpmpdngaaDoor
open Go.RowKit
theorem own_neC {w : World} {base b sz k c : Nat} {e t : TypeId} {A : Option Addr} {xs : List Value} {cs : Array Value} (h : Own w base e sz A k c xs) (hb : Blk w b t cs) (hne : e ≠ t) : ∀ g ∈ aL A, g ≠ b := fun g hg e1 => by
  obtain ⟨c2, h2⟩ := h.typ g hg
  subst e1
  exact hne (blk_type h2 hb)
def fnd (l : List Ty) (s : ByteArray) : Int := match l.findIdx? (fun t => decide (t.name = s)) with
  | some k => (k : Int)
  | none => -1
theorem fnd_no {l : List Ty} {s : ByteArray} (h : ∀ j (hj : j < l.length), ¬ (l[j]).name = s) : fnd l s = -1 := by
  have : l.findIdx? (fun t => decide (t.name = s)) = none := by
    rw [List.findIdx?_eq_none_iff]
    intro x hx
    obtain ⟨j, hj, rfl⟩ := List.mem_iff_getElem.1 hx
    simpa using h j hj
  unfold fnd
  rw [this]
theorem fnd_at {l : List Ty} {s : ByteArray} {k : Nat} (hk : k < l.length) (h1 : (l[k]).name = s) (h : ∀ j (hj : j < l.length), j < k → ¬ (l[j]).name = s) : fnd l s = (k : Int) := by
  have : l.findIdx? (fun t => decide (t.name = s)) = some k := by
    rw [List.findIdx?_eq_some_iff_getElem]
    exact ⟨hk, by simpa using h1, fun j hj => by simpa using h j om hj⟩
  unfold fnd
  rw [this]
def wd (ws : List ByteArray) (k : Nat) : ByteArray := ws.getD k ⟨#[]⟩
def TYPE : ByteArray := ⟨#[116, 121, 112, 101]⟩
def FEAT : ByteArray := ⟨#[102, 101, 97, 116]⟩
def okB (ws : List ByteArray) (nf : Nat) : Bool := !seen ws ⟨#[]⟩ && (decide (wd ws 0 = TYPE) && decide (1 < ws.length) && decide (nf = 0) || decide (wd ws 0 = FEAT) && decide (ws.length = 4))
def ats (l : List Ty) : List ByteArray → Option (List Int)
  | [] => some []
  | x :: xs => if fnd l x < 0 then none else (ats l xs).map (fun r => fnd l x :: r)
theorem ats_len {l : List Ty} : ∀ {xs : List ByteArray} {r : List Int}, ats l xs = some r → r.length = xs.length
  | [], r, h => by cases h; rfl
  | x :: xs, r, h => by
    unfold ats at h
    split at h
    · cases h
    · obtain ⟨q, hq, rfl⟩ := Option.map_eq_some_iff.1 h
      rw [List.length_cons, List.length_cons, ats_len hq]
theorem ats_app {l : List Ty} {ys : List ByteArray} : ∀ {xs : List ByteArray} {r : List Int}, ats l xs = some r → ats l (xs ++ ys) = (ats l ys).map (fun q => r ++ q)
  | [], r, h => by cases h; rw [List.nil_append]; cases ats l ys <;> rfl
  | x :: xs, r, h => by
    unfold ats at h
    split at h
    · cases h
    · obtain ⟨q, hq, rfl⟩ := Option.map_eq_some_iff.1 h
      rename_i hx
      rw [List.cons_append]
      show (if fnd l x < 0 then none else (ats l (xs ++ ys)).map (fun r => fnd l x :: r)) = _
      rw [if_neg hx, ats_app hq]
      cases ats l ys <;> rfl
theorem ats_one {l : List Ty} {x : ByteArray} : ats l [x] = if fnd l x < 0 then none else some [fnd l x] := rfl
theorem ats_none {l : List Ty} {ys : List ByteArray} : ∀ {xs : List ByteArray}, ats l xs = none → ats l (xs ++ ys) = none
  | [], h => by cases h
  | x :: xs, h => by
    rw [List.cons_append]
    show (if fnd l x < 0 then none else (ats l (xs ++ ys)).map (fun r => fnd l x :: r)) = _
    unfold ats at h
    split at h
    · rename_i hx; rw [if_pos hx]
    · rename_i hx
      rw [if_neg hx, ats_none (Option.map_eq_none_iff.1 h)]
      rfl
theorem ats_step {l : List Ty} {xs : List ByteArray} {k : Nat} {r : List Int} (hk : k < xs.length) (h : ats l (xs.take k) = some r) : (fnd l xs[k] < 0 → ats l xs = none) ∧ (¬ fnd l xs[k] < 0 → ats l (xs.take (k + 1)) = some (r ++ [fnd l xs[k]])) := by
  have h1 : ats l (xs.take (k + 1)) = if fnd l xs[k] < 0 then none else some (r ++ [fnd l xs[k]]) := by
    rw [List.take_succ_eq_append_getElem hk, ats_app h, ats_one]
    split <;> rfl
  refine ⟨fun h2 => ?_, fun h2 => ?_⟩
  · rw [if_pos h2] at h1
    have := ats_none (ys := xs.drop (k + 1)) h1
    rwa [List.take_append_drop] at this
  · rwa [if_neg h2] at h1
def stepL (l : List Ty) (fs : List Ft) (ws : List ByteArray) : Sum Int (List Ty × List Ft) :=
  if okB ws fs.length = false then .inl 11 else match ats l (ws.drop 2) with
    | none => .inl 6
    | some r => if wd ws 0 = TYPE then .inr (l ++ [⟨wd ws 1, r⟩], fs) else .inr (l, fs ++ [⟨wd ws 1, r.getD 0 0, r.getD 1 0⟩])
theorem stepL_bad {l : List Ty} {fs : List Ft} {ws : List ByteArray} (h : okB ws fs.length = false) : stepL l fs ws = .inl 11 := by unfold stepL; rw [if_pos h]
theorem stepL_no {l : List Ty} {fs : List Ft} {ws : List ByteArray} (h : okB ws fs.length = true) (ha : ats l (ws.drop 2) = none) : stepL l fs ws = .inl 6 := by unfold stepL; rw [if_neg (by rw [h]; decide), ha]
theorem stepL_ty {l : List Ty} {fs : List Ft} {ws : List ByteArray} {r : List Int} (h : okB ws fs.length = true) (ha : ats l (ws.drop 2) = some r) (ht : wd ws 0 = TYPE) : stepL l fs ws = .inr (l ++ [⟨wd ws 1, r⟩], fs) := by unfold stepL; rw [if_neg (by rw [h]; decide), ha]; simp only [if_pos ht]
theorem stepL_ft {l : List Ty} {fs : List Ft} {ws : List ByteArray} {r : List Int} (h : okB ws fs.length = true) (ha : ats l (ws.drop 2) = some r) (ht : ¬ wd ws 0 = TYPE) : stepL l fs ws = .inr (l, fs ++ [⟨wd ws 1, r.getD 0 0, r.getD 1 0⟩]) := by unfold stepL; rw [if_neg (by rw [h]; decide), ha]; simp only [if_neg ht]
def rdL (l : List Ty) (fs : List Ft) (i : Nat) : List ByteArray → (List Ty × List Ft) × Fl
  | [] => ((l, fs), (0, 0))
  | x :: xs => match stepL l fs (sp 32 x) with
    | .inl c => (([], []), (c, (i : Int)))
    | .inr p => rdL p.1 p.2 (i + 1) xs
theorem rdL_bad {l : List Ty} {fs : List Ft} {ls : List ByteArray} {k : Nat} {c : Int} (hk : k < ls.length) (h : stepL l fs (sp 32 ls[k]) = .inl c) : rdL l fs k (ls.drop k) = (([], []), (c, (k : Int))) := by
  rw [List.drop_eq_getElem_cons hk]
  unfold rdL
  rw [h]
theorem rdL_next {l : List Ty} {fs : List Ft} {ls : List ByteArray} {k : Nat} {p : List Ty × List Ft} (hk : k < ls.length) (h : stepL l fs (sp 32 ls[k]) = .inr p) : rdL l fs k (ls.drop k) = rdL p.1 p.2 (k + 1) (ls.drop (k + 1)) := by
  rw [List.drop_eq_getElem_cons hk]
  show (match stepL l fs (sp 32 ls[k]) with
    | .inl c => (([], []), (c, (k : Int)))
    | .inr p => rdL p.1 p.2 (k + 1) (ls.drop (k + 1))) = _
  rw [h]
theorem rdL_end {l : List Ty} {fs : List Ft} {ls : List ByteArray} {k : Nat} (hk : ls.length ≤ k) : rdL l fs k (ls.drop k) = ((l, fs), (0, 0)) := by
  rw [List.drop_of_length_le hk]; rfl
theorem stepL_code {l : List Ty} {fs : List Ft} {ws : List ByteArray} {c : Int} (h : stepL l fs ws = .inl c) : c ≠ 0 := by
  unfold stepL at h
  split at h
  · cases h; decide
  · split at h
    · cases h; decide
    · split at h <;> cases h
def finP (l : List Ty) (fs : List Ft) : (List Ty × List Ft) × Fl := if (hierFault l fs).1 = 0 then ((l, fs), (0, 0)) else (([], []), hierFault l fs)
def contP (l : List Ty) (fs : List Ft) (n : Nat) : List ByteArray → (List Ty × List Ft) × Fl
  | [] => (([], []), (0, 0))
  | [y] => if y = ⟨#[]⟩ then finP l fs else (([], []), (11, (n : Int)))
  | y :: z :: ys => match stepL l fs (sp 32 y) with
    | .inl c => (([], []), (c, (n : Int)))
    | .inr p => contP p.1 p.2 (n + 1) (z :: ys)
def prs (s : ByteArray) : (List Ty × List Ft) × Fl := if 4000 < s.size then (([], []), (1, -1)) else contP [] [] 0 (sp 10 s)
theorem rdL_cons (l : List Ty) (fs : List Ft) (n : Nat) (y : ByteArray) (ys : List ByteArray) : rdL l fs n (y :: ys) = match stepL l fs (sp 32 y) with
    | .inl c => (([], []), (c, (n : Int)))
    | .inr p => rdL p.1 p.2 (n + 1) ys := rfl
theorem contP_cons (l : List Ty) (fs : List Ft) (n : Nat) (y z : ByteArray) (ys : List ByteArray) : contP l fs n (y :: z :: ys) = match stepL l fs (sp 32 y) with
    | .inl c => (([], []), (c, (n : Int)))
    | .inr p => contP p.1 p.2 (n + 1) (z :: ys) := rfl
theorem cont_shut : ∀ (xs : List ByteArray) (l : List Ty) (fs : List Ft) (n : Nat), (((rdL l fs n xs).2.1 = 0 → contP l fs n (xs ++ [⟨#[]⟩]) = finP (rdL l fs n xs).1.1 (rdL l fs n xs).1.2) ∧ ((rdL l fs n xs).2.1 ≠ 0 → contP l fs n (xs ++ [⟨#[]⟩]) = (([], []), (rdL l fs n xs).2) ∧ (rdL l fs n xs).1 = ([], [])))
  | [], l, fs, n => ⟨fun _ => by show (if (⟨#[]⟩ : ByteArray) = ⟨#[]⟩ then finP l fs else _) = _; rw [if_pos rfl]; rfl, fun h => absurd rfl h⟩
  | y :: ys, l, fs, n => by
    have e : ∃ z zs, ys ++ [(⟨#[]⟩ : ByteArray)] = z :: zs := by cases ys with
      | nil => exact ⟨_, _, rfl⟩
      | cons q qs => exact ⟨_, _, rfl⟩
    obtain ⟨z, zs, hz⟩ := e
    rw [List.cons_append, hz, rdL_cons, contP_cons]
    cases hs : stepL l fs (sp 32 y) with
    | inl c => exact ⟨fun h => absurd h (stepL_code hs), fun _ => ⟨rfl, rfl⟩⟩
    | inr p =>
      have ih := cont_shut ys p.1 p.2 (n + 1)
      rw [hz] at ih
      exact ih
theorem cont_open {y : ByteArray} (hy : ¬ y = ⟨#[]⟩) : ∀ (xs : List ByteArray) (l : List Ty) (fs : List Ft) (n : Nat), (((rdL l fs n (xs ++ [y])).2.1 = 0 ∨ ((n + xs.length : Nat) : Int) ≤ (rdL l fs n (xs ++ [y])).2.2) → contP l fs n (xs ++ [y]) = (([], []), (11, ((n + xs.length : Nat) : Int)))) ∧ (¬ ((rdL l fs n (xs ++ [y])).2.1 = 0 ∨ ((n + xs.length : Nat) : Int) ≤ (rdL l fs n (xs ++ [y])).2.2) → contP l fs n (xs ++ [y]) = (([], []), (rdL l fs n (xs ++ [y])).2))
  | [], l, fs, n => by
    rw [List.nil_append, rdL_cons]
    have e : contP l fs n [y] = (([], []), (11, (n : Int))) := by
      show (if y = ⟨#[]⟩ then finP l fs else _) = _
      rw [if_neg hy]
    refine ⟨fun _ => e, fun h => ?_⟩
    cases hs : stepL l fs (sp 32 y) with
    | inl c => rw [hs] at h; exact absurd (.inr (Int.le_refl _)) h
    | inr p => rw [hs] at h; exact absurd (.inl rfl) h
  | x :: xs, l, fs, n => by
    have e : ∃ z zs, xs ++ [y] = z :: zs := by cases xs with
      | nil => exact ⟨_, _, rfl⟩
      | cons q qs => exact ⟨_, _, rfl⟩
    obtain ⟨z, zs, hz⟩ := e
    rw [List.cons_append, hz, rdL_cons, contP_cons]
    cases hs : stepL l fs (sp 32 x) with
    | inl c =>
      have h0 := stepL_code hs
      refine ⟨fun h => ?_, fun _ => rfl⟩
      rcases h with h | h
      · exact absurd h h0
      · exfalso
        have : ((n + (x :: xs).length : Nat) : Int) ≤ (n : Int) := h
        rw [List.length_cons] at this
        omega
    | inr p =>
      have ih := cont_open hy xs p.1 p.2 (n + 1)
      rw [hz, show n + 1 + xs.length = n + (x :: xs).length by rw [List.length_cons]; omega] at ih
      exact ih
def PrIn (lo hi : Nat) (w : World) (A : Option Addr) (xs : List Int) : Prop := xs.length ≤ maxI ∧ (xs ≠ [] → ∃ g cs, A = some ⟨g, 0, none⟩ ∧ lo ≤ g ∧ g < hi ∧ Blk w g 3 cs ∧ cs.toList.take xs.length = iV xs)
theorem PrIn.tr {lo hi : Nat} {w w' : World} {A : Option Addr} {xs : List Int} {X : List Nat} (h : PrIn lo hi w A xs) (hs : Same X w w') (hx : ∀ g ∈ X, hi ≤ g ∨ ∃ cs t, Blk w g t cs ∧ t ≠ 3) : PrIn lo hi w' A xs :=
  ⟨h.1, fun hn => by
    obtain ⟨g, cs, e, hlo, hl, hb, ht⟩ := h.2 hn
    refine ⟨g, cs, e, hlo, hl, hb.tr hs (fun hm => ?_), ht⟩
    rcases hx g hm with h1 | ⟨cs2, t, hb2, hne⟩
    · omega
    · exact hne (blk_type hb2 hb)⟩
theorem PrIn.up {lo hi hi' : Nat} {w : World} {A : Option Addr} {xs : List Int} (h : PrIn lo hi w A xs) (hl : hi ≤ hi') : PrIn lo hi' w A xs :=
  ⟨h.1, fun hn => by
    obtain ⟨g, cs, e, hlo, hg, hb, ht⟩ := h.2 hn
    exact ⟨g, cs, e, hlo, by omega, hb, ht⟩⟩
theorem PrIn.low {lo lo' hi : Nat} {w : World} {A : Option Addr} {xs : List Int} (h : PrIn lo hi w A xs) (hl : lo' ≤ lo) : PrIn lo' hi w A xs :=
  ⟨h.1, fun hn => by
    obtain ⟨g, cs, e, hlo, hg, hb, ht⟩ := h.2 hn
    exact ⟨g, cs, e, by omega, hg, hb, ht⟩⟩
theorem PrIn.fr {lo hi : Nat} {w w' : World} {A : Option Addr} {xs : List Int} (h : PrIn lo hi w A xs) (hf : FrSame lo w w') : PrIn lo hi w' A xs :=
  ⟨h.1, fun hn => by
    obtain ⟨g, cs, e, hlo, hg, hb, ht⟩ := h.2 hn
    exact ⟨g, cs, e, hlo, hg, hf.at_ hb hlo, ht⟩⟩
theorem PrIn.ints {lo hi : Nat} {w : World} {A : Option Addr} {xs : List Int} (h : PrIn lo hi w A xs) : IntsIn w A xs :=
  ⟨h.1, fun hn => by
    obtain ⟨g, cs, e, _, _, hb, ht⟩ := h.2 hn
    refine ⟨g, 0, e, hb.lt, fun k hk => ?_⟩
    rw [Nat.zero_add, Nat.mul_one]
    refine hb.cell ?_
    have h1 : (iV xs)[k]? = some (.int .i64 xs[k]) := by simp [iV, hk]
    rw [← ht] at h1
    have h2 := (List.getElem?_eq_some_iff.1 h1).1
    rw [List.length_take] at h2
    rw [List.getElem?_take_of_lt om, Array.getElem?_toList] at h1
    exact h1⟩
theorem own_pr {w : World} {base k cap : Nat} {A : Option Addr} {xs : List Int} (h : Own w base 3 1 A k cap (iV xs)) : PrIn base w.heap.size w A xs := by
  have h1 := h.len
  have h2 := h.max
  rw [iV_len, Nat.mul_one] at h1
  refine ⟨by unfold maxI; omega, fun hn => ?_⟩
  have hp := List.length_pos_iff.2 hn
  obtain ⟨g, cur, e, hlo, hb, _, _, ht⟩ := h.whole om
  rw [Nat.mul_one, ← h1] at ht
  exact ⟨g, cur, e, hlo, hb.lt, hb, ht⟩
theorem own_cellI {w : World} {base k cap g : Nat} {xs : List Int} (h : Own w base 3 1 (some ⟨g, 0, none⟩) k cap (iV xs)) {j : Nat} (hj : j < xs.length) : w.cell? ⟨g, 0 + j * 1, none⟩ = some (.int .i64 (xs.getD j 0)) := by
  have h1 : (iV xs)[j]? = some (.int .i64 (xs.getD j 0)) := by simp [iV, hj]
  obtain ⟨g2, e, _, _, hc⟩ := h.cell (fun e => by rw [e] at h1; cases h1)
  cases e
  rw [Nat.zero_add, Nat.mul_one]
  exact hc j _ h1
theorem own_adI {w : World} {base k cap : Nat} {A : Option Addr} {xs : List Int} (h : Own w base 3 1 A k cap (iV xs)) (hn : 0 < xs.length) : ∃ g, A = some ⟨g, 0, none⟩ := by
  obtain ⟨g, e, _⟩ := h.cell (fun e => by have := iV_len xs; rw [e] at this; simp at this; omega)
  exact ⟨g, e⟩
def RowT (lo hi : Nat) (w : World) (l : List Ty) (vs : List Value) : Prop := vs.length = l.length * 2 ∧ ∀ k (hk : k < l.length), ∃ A c, vs[k * 2]? = some (.string (l[k]).name) ∧ vs[k * 2 + 1]? = some (.slice A (l[k]).par.length c) ∧ PrIn lo hi w A (l[k]).par
theorem RowT.nil (lo hi : Nat) (w : World) : RowT lo hi w [] [] := ⟨rfl, fun k hk => by simp at hk⟩
theorem RowT.tr {lo hi : Nat} {w w' : World} {l : List Ty} {vs : List Value} {X : List Nat} (h : RowT lo hi w l vs) (hs : Same X w w') (hx : ∀ g ∈ X, hi ≤ g ∨ ∃ cs t, Blk w g t cs ∧ t ≠ 3) : RowT lo hi w' l vs :=
  ⟨h.1, fun k hk => by obtain ⟨A, c, e1, e2, hp⟩ := h.2 k hk; exact ⟨A, c, e1, e2, hp.tr hs hx⟩⟩
theorem RowT.up {lo hi hi' : Nat} {w : World} {l : List Ty} {vs : List Value} (h : RowT lo hi w l vs) (hl : hi ≤ hi') : RowT lo hi' w l vs :=
  ⟨h.1, fun k hk => by obtain ⟨A, c, e1, e2, hp⟩ := h.2 k hk; exact ⟨A, c, e1, e2, hp.up hl⟩⟩
theorem RowT.fr {lo hi : Nat} {w w' : World} {l : List Ty} {vs : List Value} (h : RowT lo hi w l vs) (hf : FrSame lo w w') : RowT lo hi w' l vs :=
  ⟨h.1, fun k hk => by obtain ⟨A, c, e1, e2, hp⟩ := h.2 k hk; exact ⟨A, c, e1, e2, hp.fr hf⟩⟩
theorem RowT.snoc {lo hi : Nat} {w : World} {l : List Ty} {vs : List Value} {s : ByteArray} {xs : List Int} {A : Option Addr} {c : Nat} (h : RowT lo hi w l vs) (hp : PrIn lo hi w A xs) : RowT lo hi w (l ++ [⟨s, xs⟩]) (vs ++ [.string s, .slice A xs.length c]) := by
  have h1 := h.1
  refine ⟨by simp [h1]; omega, fun k hk => ?_⟩
  by_cases e : k < l.length
  · obtain ⟨A2, c2, e1, e2, hp2⟩ := h.2 k e
    refine ⟨A2, c2, ?_, ?_, ?_⟩
    · rw [List.getElem?_append_left om, List.getElem_append_left e]; exact e1
    · rw [List.getElem?_append_left om, List.getElem_append_left e]; exact e2
    · rw [List.getElem_append_left e]; exact hp2
  · have e2 : k = l.length := by simp at hk; omega
    subst e2
    refine ⟨A, c, ?_, ?_, ?_⟩
    · rw [List.getElem?_append_right om, h1, Nat.sub_self]; simp
    · rw [List.getElem?_append_right om, h1, show l.length * 2 + 1 - l.length * 2 = 1 by omega]; simp
    · simpa using hp
theorem types_own {w : World} {base lo hi cap : Nat} {A : Option Addr} {l : List Ty} {vs : List Value} {n : Nat} (ho : Own w base 77 2 A n cap vs) (h : RowT lo hi w l vs) (hn : n = l.length) : TypesIn w A l := by
  subst hn
  refine ⟨by have := ho.max; unfold maxI; omega, fun hn => ?_⟩
  have hp := List.length_pos_iff.2 hn
  have h1 := h.1
  obtain ⟨g, e, _, hlt, hc⟩ := ho.cell (fun e => by rw [e] at h1; simp at h1; omega)
  refine ⟨g, 0, e, hlt, fun k hk => ?_⟩
  obtain ⟨A', c, e1, e2, hp⟩ := h.2 k hk
  refine ⟨A', c, fun j v hj => ?_, hp.ints⟩
  rw [Nat.zero_add]
  match j with
  | 0 => rw [Nat.add_zero]; cases hj; exact hc _ _ e1
  | 1 => cases hj; exact hc _ _ e2
  | j + 2 => cases hj
def ftV (l : List Ft) : List Value := l.flatMap (fun t => [.string t.name, .int .i64 t.of, .int .i64 t.val])
theorem ftV_snoc (l : List Ft) (t : Ft) : ftV (l ++ [t]) = ftV l ++ [.string t.name, .int .i64 t.of, .int .i64 t.val] := by simp [ftV]
theorem ftV_len (l : List Ft) : (ftV l).length = l.length * 3 := by
  induction l with
  | nil => rfl
  | cons t l ih =>
    have e : ftV (t :: l) = [.string t.name, .int .i64 t.of, .int .i64 t.val] ++ ftV l := rfl
    rw [e, List.length_append, ih]
    simp
    omega
theorem ftV_get : ∀ (l : List Ft) (k : Nat) (hk : k < l.length), (ftV l)[k * 3]? = some (.string (l[k]).name) ∧ (ftV l)[k * 3 + 1]? = some (.int .i64 (l[k]).of) ∧ (ftV l)[k * 3 + 2]? = some (.int .i64 (l[k]).val)
  | t :: l, 0, _ => ⟨rfl, rfl, rfl⟩
  | t :: l, k + 1, hk => by
    have h := ftV_get l k (by simpa using hk)
    have e : ftV (t :: l) = .string t.name :: .int .i64 t.of :: .int .i64 t.val :: ftV l := rfl
    rw [e, show (k + 1) * 3 = k * 3 + 3 by omega]
    exact h
theorem feats_own {w : World} {base cap : Nat} {A : Option Addr} {l : List Ft} {n : Nat} (ho : Own w base 63 3 A n cap (ftV l)) (hn : n = l.length) : FeatsIn w A l := by
  subst hn
  refine ⟨by have := ho.max; unfold maxI; omega, fun hn => ?_⟩
  have hp := List.length_pos_iff.2 hn
  obtain ⟨g, e, _, hlt, hc⟩ := ho.cell (fun e => by have := ftV_len l; rw [e] at this; simp at this; omega)
  refine ⟨g, 0, e, hlt, fun k hk => ?_⟩
  obtain ⟨h0, h1, h2⟩ := ftV_get l k hk
  intro j v hj
  rw [Nat.zero_add]
  match j with
  | 0 => rw [Nat.add_zero]; cases hj; exact hc _ _ h0
  | 1 => cases hj; exact hc _ _ h1
  | 2 => cases hj; exact hc _ _ h2
  | j + 3 => cases hj
theorem splitL_small (c : UInt8) : ∀ (l p : List UInt8), p ∈ splitL c l → p.length ≤ l.length
  | [], p, h => by rw [List.mem_singleton.1 h]; exact Nat.le_refl _
  | x :: xs, p, h => by
    rw [splitL_cons] at h
    split at h
    · rcases List.mem_cons.1 h with e | h
      · rw [e]; simp
      · have := splitL_small c xs p h; rw [List.length_cons]; omega
    · have hne := headD_tail (splitL_ne c xs) []
      rcases List.mem_cons.1 h with e | h
      · have := splitL_small c xs ((splitL c xs).headD []) (by
          have h2 : (splitL c xs).headD [] ∈ (splitL c xs).headD [] :: (splitL c xs).tail := List.mem_cons_self ..
          rwa [hne] at h2)
        rw [e, List.length_cons, List.length_cons]; omega
      · have := splitL_small c xs p (List.mem_of_mem_tail h)
        rw [List.length_cons]; omega
theorem sp_small {c : UInt8} {s p : ByteArray} (h : p ∈ sp c s) : p.size ≤ s.size := by
  unfold sp at h
  obtain ⟨q, hq, rfl⟩ := List.mem_map.1 h
  have := splitL_small c (bl s) q hq
  rw [← bl_size, ← bl_size]
  exact this
section rules
variable {P : Program} {n : Nat} {f : Fr} {w : World} {ty : TypeId} {pos : String} {af : Array Edge} {x y : Operand} {t e : TypeId}
theorem r_slD {dst : Option Tmp} {gd : Option (Nat × Bool)} {A AW : Option Addr} {m c l : Nat} {sz : Nat} (hu : P.underlying t = some (.slice e)) (hs : (P.info? e).map (·.size) = some sz) (hA : (if c = l then A else A.map (·.add (l * sz))) = AW) (hx : ev n f x = .slice A m c) (hy : ev n f y = .int .i64 (l : Int)) (hl : l ≤ m) :
    RV P n f w ⟨dst, .slice t x (some y) none none, ty, pos, af, gd⟩ (.slice AW (m - l) (c - l)) w := by
  subst hA
  exact r_slL hu hs hx hy hl
end rules
theorem spR_get2 {c : UInt8} {s : ByteArray} {j : Nat} (hk : 2 + j < (sp c s).length) : (spR c s)[2 + j * 1]? = some (.string (pc c s (2 + j))) := by
  have h := spR_get hk
  rwa [show 0 + (2 + j) * 1 = 2 + j * 1 by omega] at h
theorem pc_drop {c : UInt8} {s : ByteArray} {j : Nat} (hk : j < ((sp c s).drop 2).length) : ((sp c s).drop 2)[j] = pc c s (2 + j) := by
  rw [List.length_drop] at hk
  rw [List.getElem_drop, pc_get om]
theorem drop_adr {b m : Nat} : ∃ AW : Option Addr, (if m = 2 then some (⟨b, 0, none⟩ : Addr) else (some (⟨b, 0, none⟩ : Addr)).map (·.add (2 * 1))) = AW ∧ (m ≠ 2 → AW = some ⟨b, 2, none⟩) := ⟨_, rfl, fun h => by
  rw [if_neg h]
  rfl⟩
theorem types_nil (w : World) (A : Option Addr) : TypesIn w A [] := ⟨Nat.zero_le _, fun h => absurd rfl h⟩
theorem feats_nilH (w : World) (A : Option Addr) : FeatsIn w A [] := ⟨Nat.zero_le _, fun h => absurd rfl h⟩
end Go.Proofs.YtegngekpmpdngaaDoor
namespace Go.Proofs.YtegngekpmpdngaaDoor
open Go.RowKit
theorem sz22_GLoose : (Tryd.prog.info? 22).map (·.size) = some 1 := by kernel_rfl
theorem sz23_GLoose : (Tryd.prog.info? 23).map (·.size) = some 1 := by kernel_rfl
theorem sz3_GLoose : (Tryd.prog.info? 3).map (·.size) = some 1 := by kernel_rfl
theorem sz35_GLoose : (Tryd.prog.info? 35).map (·.size) = some 2 := by kernel_rfl
theorem ze35_GLoose : (Tryd.prog.info? 35).map (·.zero) = some (some (.agg #[.int .i64 0, .int .i64 0])) := by kernel_rfl
end Go.Proofs.YtegngekpmpdngaaDoor
namespace Go.Proofs.YtegngekpmpdngaaDoor
open Go.RowKit
theorem in3 : (Tryd.prog.info? 3).map (fun i => (i.zero, i.size, i.bytes)) = some (some (.int .i64 0), 1, 8) := by kernel_rfl
theorem ze3_GUnr : (Tryd.prog.info? 3).map (·.zero) = some (some (.int .i64 0)) := by kernel_rfl
end Go.Proofs.YtegngekpmpdngaaDoor
namespace Go.Proofs.YtegngekpmpdngaaDoor
open Go.RowKit
theorem fn27 : callable Tryd.prog 27 = true := by kernel_rfl
theorem fn44 : callable Tryd.prog 44 = true := by kernel_rfl
theorem sz25 : (Tryd.prog.info? 25).map (·.size) = some 2 := by kernel_rfl
theorem sz63_GVal : (Tryd.prog.info? 63).map (·.size) = some 3 := by kernel_rfl
theorem ze63_GVal : (Tryd.prog.info? 63).map (·.zero) = some (some (.agg #[.string ⟨#[]⟩, .int .i64 0, .int .i64 0])) := by kernel_rfl
end Go.Proofs.YtegngekpmpdngaaDoor
namespace Go.Proofs.YtegngekpmpdngaaDoor
open Go.Shelf
def sh_lays143_ren : Go.Shelf.Ren := ⟨fun | 143 => 112 | 219 => 120 | 217 => 126 | 225 => 127 | 224 => 128 | 267 => 129 | 266 => 135 | 314 => 136 | n => n, fun | 9 => 9 | 3 => 3 | 4 => 4 | 5 => 5 | 46 => 148 | 146 => 179 | 51 => 172 | n => n, fun | 1 => 1 | n => n⟩
theorem sh_lays143 : Go.Proofs.Lays.n143 Tryd.prog sh_lays143_ren := {
  mixed := by kernel_rfl
  f143 := Tryd.func112.trans (congrArg some (by kernel_rfl))
  f217 := Tryd.func126.trans (congrArg some (by kernel_rfl))
  f219 := Tryd.func120.trans (congrArg some (by kernel_rfl))
  f224 := Tryd.func128.trans (congrArg some (by kernel_rfl))
  f225 := Tryd.func127.trans (congrArg some (by kernel_rfl))
  f266 := Tryd.func135.trans (congrArg some (by kernel_rfl))
  f267 := Tryd.func129.trans (congrArg some (by kernel_rfl))
  f314 := Tryd.func136.trans (congrArg some (by kernel_rfl))
  t3 := U3
  a3 := Tryd.isAgg3
  z3 := Tryd.sizeOf3
  v3 := Tryd.zeroValue3
  t4 := U4
  a4 := Tryd.isAgg4
  z4 := Tryd.sizeOf4
  v4 := Tryd.zeroValue4
  t5 := U5
  a5 := Tryd.isAgg5
  z5 := Tryd.sizeOf5
  v5 := Tryd.zeroValue5
  t9 := U9
  a9 := Tryd.isAgg9
  z9 := Tryd.sizeOf9
  v9 := Tryd.zeroValue9
  t46 := Tryd.underlying148
  a46 := Tryd.isAgg148
  z46 := Tryd.sizeOf148
  v46 := Tryd.zeroValue148
  t51 := Tryd.underlying172
  a51 := Tryd.isAgg172
  z51 := Tryd.sizeOf172
  v51 := Tryd.zeroValue172
  t146 := Tryd.underlying179
  a146 := Tryd.isAgg179
  z146 := Tryd.sizeOf179
  v146 := Tryd.zeroValue179
  g1 := by kernel_rfl }
open Go.RowKit Go.Lib in
theorem sh_strings_Index_one (s : ByteArray) (c : UInt8) (w : World) :
    Calls Tryd.prog 112 #[.string s, .string ⟨#[c]⟩] w fun e w' => e = .returned (.int .i64 (Lib.indexByte s.data.toList c)) ∧ w' = w := Any.strings_Index_one sh_lays143 s c w
def sh_lays138_ren : Go.Shelf.Ren := ⟨fun | 138 => 111 | 195 => 117 | 218 => 119 | 143 => 112 | 219 => 120 | 217 => 126 | 225 => 127 | 224 => 128 | 267 => 129 | 266 => 135 | 314 => 136 | n => n, fun | 9 => 9 | 3 => 3 | 4 => 4 | 5 => 5 | 0 => 0 | 46 => 148 | 146 => 179 | 51 => 172 | n => n, fun | 1 => 1 | n => n⟩
theorem sh_lays138 : Go.Proofs.Lays.n138 Tryd.prog sh_lays138_ren := {
  mixed := by kernel_rfl
  f138 := Tryd.func111.trans (congrArg some (by kernel_rfl))
  f143 := Tryd.func112.trans (congrArg some (by kernel_rfl))
  f195 := Tryd.func117.trans (congrArg some (by kernel_rfl))
  f217 := Tryd.func126.trans (congrArg some (by kernel_rfl))
  f218 := Tryd.func119.trans (congrArg some (by kernel_rfl))
  f219 := Tryd.func120.trans (congrArg some (by kernel_rfl))
  f224 := Tryd.func128.trans (congrArg some (by kernel_rfl))
  f225 := Tryd.func127.trans (congrArg some (by kernel_rfl))
  f266 := Tryd.func135.trans (congrArg some (by kernel_rfl))
  f267 := Tryd.func129.trans (congrArg some (by kernel_rfl))
  f314 := Tryd.func136.trans (congrArg some (by kernel_rfl))
  t0 := Tryd.underlying0
  a0 := Tryd.isAgg0
  z0 := Tryd.sizeOf0
  v0 := Tryd.zeroValue0
  t3 := U3
  a3 := Tryd.isAgg3
  z3 := Tryd.sizeOf3
  v3 := Tryd.zeroValue3
  t4 := U4
  a4 := Tryd.isAgg4
  z4 := Tryd.sizeOf4
  v4 := Tryd.zeroValue4
  t5 := U5
  a5 := Tryd.isAgg5
  z5 := Tryd.sizeOf5
  v5 := Tryd.zeroValue5
  t9 := U9
  a9 := Tryd.isAgg9
  z9 := Tryd.sizeOf9
  v9 := Tryd.zeroValue9
  t46 := Tryd.underlying148
  a46 := Tryd.isAgg148
  z46 := Tryd.sizeOf148
  v46 := Tryd.zeroValue148
  t51 := Tryd.underlying172
  a51 := Tryd.isAgg172
  z51 := Tryd.sizeOf172
  v51 := Tryd.zeroValue172
  t146 := Tryd.underlying179
  a146 := Tryd.isAgg179
  z146 := Tryd.sizeOf179
  v146 := Tryd.zeroValue179
  g1 := by kernel_rfl }
open Go.RowKit Go.Lib in
theorem sh_strings_Count_one (s : ByteArray) (c : UInt8) (w : World) :
    Calls Tryd.prog 111 #[.string s, .string ⟨#[c]⟩] w fun e w' => e = .returned (.int .i64 (Lib.countByte s.data.toList c)) ∧ w' = w := Any.strings_Count_one sh_lays138 s c w
end Go.Proofs.YtegngekpmpdngaaDoor
