/- The engine's sixth part: copy, zeros appended to a slice, functions that the model has itself, a drawn region in which an operation changes what another one has made. The reference's way to unify: numbers of classes until nothing changes, then one node for each class. No program in sight. What these functions of the program compute, at every world: slices.Insert[[]glosswright/api.Link,glosswright/api.Link]. -/
import Derived.Test.YtegngekpmpdngaaDoorGro
import Derived.Laws.CopyRow
import Derived.Laws.Externs
import Derived.Lib.Overlaps
import Derived.Test.YtegngekpmpdngaaDoorPool
import Derived.Test.YtegngekpmpdngaaDoorU
import Derived.Test.YtegngekpmpdngaaDoorPFind
namespace Go.Proofs.YtegngekpmpdngaaDoor
open Go.RowKit
section six
variable {P : Program} {Q : Exit → Act → World → Prop} {n : Nat} {f : Fr} {w : World} {ops : Array Oper} {rest : List Oper} {d : Tmp} {ty t e : TypeId} {pos : String} {af : Array Edge} {x y : Operand} {v : Value}
def cpy (cur : Array Value) (o : Nat) (cs : List Value) : Array Value := (cur.toList.take o ++ cs ++ cur.toList.drop (o + cs.length)).toArray
theorem cpy_size {cur : Array Value} {o : Nat} {cs : List Value} (h : o + cs.length ≤ cur.size) : (cpy cur o cs).size = cur.size := by
  unfold cpy
  simp only [List.size_toArray, List.length_append, List.length_take, List.length_drop, Array.length_toList]
  omega
theorem run_copyC {sz g o dLen dCap sLen sCap m : Nat} {a : Addr} {cur : Array Value} {cs : List Value} {e' sT : TypeId} (hu : P.underlying t = some (.slice e)) (hs : (P.info? e).map (·.size) = some sz)
    (hg : Blk w g e' cur) (hn : Nat.min sLen dLen = m) (hl : cs.length = m * sz) (hsrc : ∀ j v, cs[j]? = some v → w.cell? (a.add j) = some v) (hfit : o + cs.length ≤ cur.size) (h1 : ∀ v ∈ cs, v.oneCell' = true) :
    (Builtin.copy_ #[t, sT] ty #[.slice (some ⟨g, o, none⟩) dLen dCap, .slice (some a) sLen sCap]).run P w = .ok (goInt m) (w.setRow g (cpy cur o cs)) := by
  have hld := run_loadCells_list (P := P) w a cs hsrc
  have hst := run_storeCells_at P g o e' cs 0 cur w hg (by simpa using hfit) h1
  cases hq : P.info? e with
  | none => simp [hq] at hs
  | some i =>
    have hi : i.size = sz := by simpa [hq] using hs
    simp [Builtin.copy_, run_underlying hu, Builtin.lenOf, Builtin.firstCells, sizeOf, typeInfo, hq, hi, hn, ← hl, hld, hst, cpy]
theorem wl_cp {sz g o dLen dCap sLen sCap m : Nat} {a : Addr} {cur : Array Value} {cs : List Value} {e' : TypeId} (hu : P.underlying t = some (.slice e)) (hs : (P.info? e).map (·.size) = some sz) (hx : ev n f x = .slice (some ⟨g, o, none⟩) dLen dCap) (hy : ev n f y = .slice (some a) sLen sCap)
    (hg : Blk w g e' cur) (hn : Nat.min sLen dLen = m) (hl : cs.length = m * sz) (hsrc : ∀ j v, cs[j]? = some v → w.cell? (a.add j) = some v) (hfit : o + cs.length ≤ cur.size) (h1 : ∀ v ∈ cs, v.oneCell' = true)
    (K : ∀ w1, Blk w1 g e' (cpy cur o cs) → Same [g] w w1 → WL P ops Q rest n (upd f d (goInt m)) w1) :
    WL P ops Q (⟨some d, .call { callee := .builtin .copy, args := #[x, y], argTypes := #[t, t] }, ty, pos, af, none⟩ :: rest) n f w := by
  have hr := run_copyC (P := P) (ty := ty) (sT := t) (dCap := dCap) (sCap := sCap) hu hs hg hn hl hsrc hfit h1
  refine wl (v := goInt m) (w' := w.setRow g (cpy cur o cs)) ?_ (K _ (setRow_heap w g cur _ e' _ hg) (same_setRow w g _))
  simp only [RV, execOp, resolve, invoke, builtin, Sem.run_bind, Sem.run_pure, Result.andThen_ok, List.map_toArray, List.map_cons, List.map_nil, hx, hy, hr]
theorem wl_appZ2 {tn : TypeId} {zv : Value} {sz by' k m cap g : Nat} {olds : List Value} (hu : P.underlying t = some (.slice e)) (hn : P.underlying tn = some (.int .i64)) (hi : (P.info? e).map (fun i => (i.zero, i.size, i.bytes)) = some (some zv, sz, by')) (h0 : 0 < k) (hs : 0 < sz) (hroom : cap < m + k) (hb : (m + k) * by' ≤ 140737488355328) (h63 : m + k ≤ 4611686018427387904)
    (hx : ev n f x = .slice (some ⟨g, 0, none⟩) m cap) (hy : ev n f y = .int .i64 (k : Int)) (hl : olds.length = m * sz) (hsrc : ∀ j v, olds[j]? = some v → w.cell? ⟨g, j, none⟩ = some v)
    (K : ∀ b cap' w1, Blk w1 b e (olds.toArray ++ Builtin.zeroCells zv.cells k ++ Builtin.zeroCells zv.cells (cap' - (m + k))) → Same [] w w1 → w.heap.size ≤ b → m + k ≤ cap' → cap' ≤ 9223372036854775807 → WL P ops Q rest n (upd f d (.slice (some ⟨b, 0, none⟩) (m + k) cap')) w1) :
    WL P ops Q (⟨some d, .call { callee := .builtin .append, args := #[x, y], argTypes := #[t, tn] }, ty, pos, af, none⟩ :: rest) n f w := by
  obtain ⟨i, hq, hzz⟩ := Option.map_eq_some_iff.1 hi
  simp only [Prod.mk.injEq] at hzz
  obtain ⟨z1, z2, z3⟩ := hzz
  have hld := run_loadCells_list (P := P) w.drew ⟨g, 0, none⟩ olds (fun j v hj => by
    rw [Addr.add_mid, Nat.zero_add]; exact hsrc j v hj)
  have hold : (Builtin.firstCells i.size m (.slice (some ⟨g, 0, none⟩) m cap)).run P w.drew = .ok olds.toArray w.drew := by
    simp only [Builtin.firstCells, z2, ← hl, hld]
  have hfit := growslice_fits (need := m + k) (old := cap) (bytes := i.bytes) hroom (by rw [z3]; exact hb)
  have hkb : k * by' ≤ (m + k) * by' := Nat.mul_le_mul_right _ (Nat.le_add_left _ _)
  have hr := Lib.run_append_grow_zeros w t tn ty e i zv .i64 .i64 hu hn hq z1 (some ⟨g, 0, none⟩) m cap olds hold k h0 om hroom om (by rw [z3]; omega) hfit
  have hge := grownCap_ge w (m + k) cap e
  have hle := grownCap_le_maxLen w (m + k) cap e (by unfold maxLen; omega)
  generalize grownCap w (m + k) cap e = C at hr hge hle
  refine wl (v := .slice (some ⟨w.heap.size, 0, none⟩) (m + k) C) (w' := w.drew.alloc (.cells (olds.toArray ++ Builtin.zeroCells zv.cells k ++ Builtin.zeroCells zv.cells (C - (m + k))) e)) ?_ (K _ _ _ ?_ ?_ (Nat.le_refl _) hge (by unfold maxLen at hle; omega))
  · simp only [RV, execOp, resolve, invoke, builtin, Sem.run_bind, Sem.run_pure, Result.andThen_ok, List.map_toArray, List.map_cons, List.map_nil, hx, hy, hr]
  · exact heap_alloc_new w.drew _
  · have hd : Same [] w w.drew := ⟨rfl, rfl, rfl, Nat.le_refl _, fun _ _ _ => rfl⟩
    exact hd.trans (same_alloc w.drew _)
theorem r_ext {F : FuncId} {xs : Array Operand} {ats : Array TypeId} {args : List Value} {dst : Option Nat} {gd : Option (Nat × Bool)} (h : (callFunc F args.toArray).run P w = .ok (.value v) w) (hargs : xs.toList.map (ev n f) = args) :
    RV P n f w ⟨dst, .call { callee := .value (.func F), args := xs, argTypes := ats }, ty, pos, af, gd⟩ v w := by
  subst hargs
  have hm : (xs.toList.map (ev n f)).toArray = xs.map (ev n f) := by rw [← Array.toList_map, Array.toArray_toList]
  rw [hm] at h
  simp [RV, execOp, resolve, ev, Deferred.ofValue, invoke, h]
theorem shape_blk {b : Nat} {cs : Array Value} (h : Blk w b t cs) : w.shape? b = some (t, cs.size) := by
  unfold Blk at h; simp [World.shape?, h]
theorem frozen_blk {b o : Nat} {cs : Array Value} (h : Blk w b t cs) : w.frozen? ⟨b, o, none⟩ = false := by
  unfold Blk at h; simp [World.frozen?, h]
theorem run_apart {F : FuncId} {fn : Func} {tR tA tB : TypeId} {a b la ca lb cb oa ob sz : Nat} {ka kb : Array Value} (hf : P.funcs[F]? = some fn) (hname : (fn.name == "runtime.NumGoroutine") = false) (hb : fn.body.isNone = true) (hn : Extern.findNext fn = none) (he : Extern.find fn = some (Extern.SlicesOverlaps.overlaps #[t, t] #[tR]))
    (hu : P.underlying t = some (.slice e)) (hz : (P.info? e).map (·.size) = some sz) (ha : Blk w a tA ka) (hb2 : Blk w b tB kb) (hne : a ≠ b) (hk : kb.size ≠ 0) :
    (callFunc F #[.slice (some ⟨a, oa, none⟩) la ca, .slice (some ⟨b, ob, none⟩) lb cb]).run P w = .ok (.value (.bool false)) w := by
  have hsz : ∀ w, (Go.sizeOf e).run P w = .ok sz w := fun w => by
    cases hq : P.info? e with
    | none => simp [hq] at hz
    | some i =>
      have hi : i.size = sz := by simpa [hq] using hz
      simp [Go.sizeOf, typeInfo, hq, hi]
  rw [run_callFunc_extern hf hname hb hn he, Lib.run_overlaps_apart w t tR e hu sz hsz ⟨a, oa, none⟩ ⟨b, ob, none⟩ la ca lb cb hne tA tB ka.size kb.size (shape_blk ha) (shape_blk hb2) hk (frozen_blk ha) (frozen_blk ha)]
  rfl
theorem r_slM {dst : Option Tmp} {gd : Option (Nat × Bool)} {g o m c l l2 : Nat} {sz : Nat} (hu : P.underlying t = some (.slice e)) (hs : (P.info? e).map (·.size) = some sz) (hx : ev n f x = .slice (some ⟨g, o, none⟩) m c) (hy : ev n f y = .int .i64 (l : Int)) (hl : l ≤ m) (hc : l < c) (hl2 : m - l = l2) :
    RV P n f w ⟨dst, .slice t x (some y) none none, ty, pos, af, gd⟩ (.slice (some ⟨g, o + l * sz, none⟩) l2 (c - l)) w := by
  have h := r_slL (w := w) (dst := dst) (gd := gd) (ty := ty) (pos := pos) (af := af) hu hs hx hy hl
  rw [if_neg om] at h
  subst hl2
  have e1 : Option.map (fun z : Addr => z.add (l * sz)) (some (⟨g, o, none⟩ : Addr)) = some ⟨g, o + l * sz, none⟩ := by
    show some (Addr.add _ _) = _
    rw [Addr.add_mid]
  rw [e1] at h; exact h
theorem Own.whole {base sz k cap : Nat} {A : Option Addr} {xs : List Value} (h : Own w base e sz A k cap xs) (hk : 0 < k) : ∃ (g : Nat) (cur : Array Value), A = some ⟨g, 0, none⟩ ∧ base ≤ g ∧ Blk w g e cur ∧ cap ≤ 9223372036854775807 ∧ cur.size = cap * sz ∧ cur.toList.take (k * sz) = xs := by
  rcases h.2 with ⟨_, h0⟩ | ⟨g, c, cur, hv, hb, hg, hkc, hm, hs, ht⟩
  · omega
  · cases hv
    exact ⟨g, cur, rfl, hb, hg, by simpa [maxLen] using hm, hs, ht⟩
theorem own_mk {base sz k cap g : Nat} {cur : Array Value} {xs : List Value} (hb : Blk w g e cur) (hbase : base ≤ g) (hk : k ≤ cap) (hm : cap ≤ 9223372036854775807) (hs : cur.size = cap * sz) (hx : cur.toList.take (k * sz) = xs) : Own w base e sz (some ⟨g, 0, none⟩) k cap xs := by
  have hle : k * sz ≤ cap * sz := Nat.mul_le_mul_right sz hk
  subst hx
  exact ⟨by rw [List.length_take, Array.length_toList]; omega, .inr ⟨g, cap, cur, rfl, hbase, hb, hk, by simpa [maxLen] using hm, hs, rfl⟩⟩
theorem cpy_list (cur : Array Value) (o : Nat) (cs : List Value) : (cpy cur o cs).toList = cur.toList.take o ++ (cs ++ cur.toList.drop (o + cs.length)) := by simp [cpy]
theorem cpy_new {cur : Array Value} {Ps Zs Xs Ys : List Value} {o1 o2 : Nat} (h : cur.toList = Ps ++ Zs) (h1 : o1 = Ps.length) (h2 : o2 = Ps.length + Xs.length) : (cpy (cpy cur o1 Xs) o2 Ys).toList.take (Ps.length + Xs.length + Ys.length) = Ps ++ (Xs ++ Ys) := by
  subst h1 h2
  have e1 : (cpy cur Ps.length Xs).toList = (Ps ++ Xs) ++ Zs.drop Xs.length := by
    rw [cpy_list, h, List.take_append_of_le_length (Nat.le_refl _), List.take_length, List.drop_append, List.drop_eq_nil_of_le (Nat.le_add_right _ _), Nat.add_sub_cancel_left]
    simp
  have e2 : Ps.length + Xs.length = (Ps ++ Xs).length := by simp
  rw [cpy_list, e1, e2, List.take_append_of_le_length (Nat.le_refl _), List.take_length, ← List.append_assoc, ← List.length_append, List.take_append_of_le_length (Nat.le_refl _), List.take_length]
  simp
theorem cpy_move {cur : Array Value} {Ps Zs Xs Ys : List Value} {o1 o2 : Nat} (h : cur.toList = Ps ++ (Ys ++ Zs)) (h1 : o1 = Ps.length) (h2 : o2 = Ps.length + Xs.length) (hz : Xs.length ≤ Zs.length) : (cpy (cpy cur o2 Ys) o1 Xs).toList.take (Ps.length + Xs.length + Ys.length) = Ps ++ (Xs ++ Ys) := by
  subst h1 h2
  have hc : (cpy cur (Ps.length + Xs.length) Ys).toList = cur.toList.take (Ps.length + Xs.length) ++ (Ys ++ cur.toList.drop (Ps.length + Xs.length + Ys.length)) := cpy_list _ _ _
  have hl : (cur.toList.take (Ps.length + Xs.length)).length = Ps.length + Xs.length := by
    rw [List.length_take, h]; simp only [List.length_append]; omega
  have ht : (cur.toList.take (Ps.length + Xs.length)).take Ps.length = Ps := by
    rw [List.take_take, Nat.min_eq_left (Nat.le_add_right _ _), h, List.take_append_of_le_length (Nat.le_refl _), List.take_length]
  have e1 : (cpy cur (Ps.length + Xs.length) Ys).toList.take Ps.length = Ps := by
    rw [hc, List.take_append_of_le_length om, ht]
  have e2 : (cpy cur (Ps.length + Xs.length) Ys).toList.drop (Ps.length + Xs.length) = Ys ++ cur.toList.drop (Ps.length + Xs.length + Ys.length) := by
    rw [hc, List.drop_append, List.drop_eq_nil_of_le om, hl, Nat.sub_self]; simp
  rw [cpy_list, e1, e2]
  have e3 : Ps ++ (Xs ++ (Ys ++ cur.toList.drop (Ps.length + Xs.length + Ys.length))) = (Ps ++ (Xs ++ Ys)) ++ cur.toList.drop (Ps.length + Xs.length + Ys.length) := by simp
  have e4 : Ps.length + Xs.length + Ys.length = (Ps ++ (Xs ++ Ys)).length := by simp [Nat.add_assoc]
  rw [e3, e4, List.take_append_of_le_length (Nat.le_refl _), List.take_length]
end six
end Go.Proofs.YtegngekpmpdngaaDoor
namespace Go.Proofs.YtegngekpmpdngaaDoor
open Go.RowKit
section join
variable {l : List Ty} {U : List Nd} {J : List (Nat × Nat)} {rep r0 : Nat → Nat} {k i j : Nat} {ch : Bool}
structure CS (l : List Ty) (U : List Nd) (J : List (Nat × Nat)) (k : Nat) (rep : Nat → Nat) : Prop where
  lt : ∀ i, i < U.length → rep i < U.length
  id : ∀ i, i < U.length → rep (rep i) = rep i
  only : ∀ c θ, Adm l U c θ → (∀ p ∈ J, θ p.1 = θ p.2) → ∀ i, i < U.length → θ i = θ (rep i)
  jc : ∀ p ∈ J.take k, rep p.1 = rep p.2
theorem CS.start : CS l U J 0 (fun i => i) := ⟨fun _ h => h, fun _ _ => rfl, fun _ _ _ _ _ _ => rfl, fun p hp => by simp at hp⟩
def LC (U : List Nd) (rep : Nat → Nat) (a b : Nat) : Prop := ∀ x ∈ (nd U a).ln, ∀ y ∈ (nd U b).ln, x.1 = y.1 → rep x.2.toNat = rep y.2.toNat
structure JP (l : List Ty) (U : List Nd) (J : List (Nat × Nat)) (k : Nat) (r0 rep : Nat → Nat) (ch : Bool) (i j : Nat) : Prop where
  cs : CS l U J k rep
  le : roots U.length rep ≤ roots U.length r0
  less : ch = true → roots U.length rep < roots U.length r0
  done : ch = false → ∀ a b, a < U.length → b < a → (a < i ∨ a = i ∧ b < j) → rep a = rep b → LC U rep a b
theorem JP.start (h : CS l U J k rep) : JP l U J k rep rep false 0 0 := ⟨h, Nat.le_refl _, (fun h => nomatch h), fun _ a b _ _ h => by omega⟩
theorem JP.row (h : JP l U J k r0 rep ch i i) : JP l U J k r0 rep ch (i + 1) 0 := ⟨h.cs, h.le, h.less, fun hc a b ha hb hx => h.done hc a b ha hb om⟩
theorem JP.skip (h : JP l U J k r0 rep ch i j) (hn : ¬ rep i = rep j) : JP l U J k r0 rep ch i (j + 1) := ⟨h.cs, h.le, h.less, fun hc a b ha hb hx he => by
  by_cases e : a = i ∧ b = j
  · obtain ⟨rfl, rfl⟩ := e; exact absurd he hn
  · exact h.done hc a b ha hb om he⟩
def LP (U : List Nd) (rep : Nat → Nat) (i j p q : Nat) : Prop := ∀ a b (ha : a < (nd U i).ln.length) (hb : b < (nd U j).ln.length), (a < p ∨ a = p ∧ b < q) → ((nd U i).ln[a]).1 = ((nd U j).ln[b]).1 → rep ((nd U i).ln[a]).2.toNat = rep ((nd U j).ln[b]).2.toNat
structure JK (l : List Ty) (U : List Nd) (J : List (Nat × Nat)) (k : Nat) (r0 rep : Nat → Nat) (ch : Bool) (i j p q : Nat) : Prop where
  pp : JP l U J k r0 rep ch i j
  eq : rep i = rep j
  lp : ch = false → LP U rep i j p q
variable {p q : Nat}
theorem JK.start (h : JP l U J k r0 rep ch i j) (he : rep i = rep j) : JK l U J k r0 rep ch i j 0 0 := ⟨h, he, fun _ a b _ _ hx => by omega⟩
theorem JK.row (h : JK l U J k r0 rep ch i j p (nd U j).ln.length) : JK l U J k r0 rep ch i j (p + 1) 0 := ⟨h.pp, h.eq, fun hc a b ha hb hx => h.lp hc a b ha hb om⟩
theorem JK.skip (h : JK l U J k r0 rep ch i j p q) (hp : p < (nd U i).ln.length) (hq : q < (nd U j).ln.length) (hn : ((nd U i).ln[p]).1 = ((nd U j).ln[q]).1 → rep ((nd U i).ln[p]).2.toNat = rep ((nd U j).ln[q]).2.toNat) : JK l U J k r0 rep ch i j p (q + 1) := ⟨h.pp, h.eq, fun hc a b ha hb hx => by
  by_cases e : a = p ∧ b = q
  · obtain ⟨rfl, rfl⟩ := e; exact hn
  · exact h.lp hc a b ha hb om⟩
theorem JK.done (h : JK l U J k r0 rep ch i j (nd U i).ln.length 0) : JP l U J k r0 rep ch i (j + 1) := ⟨h.pp.cs, h.pp.le, h.pp.less, fun hc a b ha hb hx he => by
  by_cases e : a = i ∧ b = j
  · obtain ⟨rfl, rfl⟩ := e
    intro x hxm y hym hxy
    obtain ⟨u, hu, rfl⟩ := List.getElem_of_mem hxm
    obtain ⟨v, hv, rfl⟩ := List.getElem_of_mem hym
    exact h.lp hc u v hu hv (.inl hu) hxy
  · exact h.pp.done hc a b ha hb om he⟩
structure JF (l : List Ty) (U : List Nd) (J : List (Nat × Nat)) (rep : Nat → Nat) : Prop where
  cs : CS l U J J.length rep
  clo : ∀ a b, a < U.length → b < U.length → rep a = rep b → LC U rep a b
theorem JP.end_ (hs : ∀ i, i < U.length → Srt (nd U i).ln) (h : JP l U J J.length r0 rep false U.length 0) : JF l U J rep := by
  refine ⟨h.cs, fun a b ha hb he => ?_⟩
  rcases Nat.lt_trichotomy a b with hab | hab | hab
  · have := h.done rfl b a hb hab (.inl hb) he.symm
    exact fun x hx y hy e => (this y hy x hx e.symm).symm
  · subst hab
    intro x hx y hy e
    have e1 := tgt_in (hs a ha) hx
    have e2 := tgt_in (hs a ha) hy
    rw [e, e2] at e1
    rw [← e1]
  · exact h.done rfl a b ha hab (.inl ha) he
def rpL (rep : Nat → Nat) (xs : List (Int × Int)) : List (Int × Int) := xs.map (fun x => (x.1, ((rep x.2.toNat : Nat) : Int)))
def insL (L : List (Int × Int)) (k : Nat) (x : Int × Int) : List (Int × Int) := L.take k ++ x :: L.drop k
theorem insL_mem {L : List (Int × Int)} {k : Nat} {x z : Int × Int} : z ∈ insL L k x ↔ z = x ∨ z ∈ L := by
  unfold insL
  rw [List.mem_append, List.mem_cons]
  constructor
  · rintro (h | h | h)
    · exact .inr (List.mem_of_mem_take h)
    · exact .inl h
    · exact .inr (List.mem_of_mem_drop h)
  · rintro (h | h)
    · exact .inr (.inl h)
    · rw [← List.take_append_drop k L] at h
      rcases List.mem_append.1 h with h | h
      · exact .inl h
      · exact .inr (.inr h)
theorem insL_len (L : List (Int × Int)) (k : Nat) (x : Int × Int) : (insL L k x).length = L.length + 1 := by
  unfold insL
  have := congrArg List.length (List.take_append_drop k L)
  rw [List.length_append] at this
  rw [List.length_append, List.length_cons]; omega
theorem insL_srt {L : List (Int × Int)} {k : Nat} {x : Int × Int} (h : Srt L) (hk : k ≤ L.length) (h1 : ∀ i (hi : i < L.length), i < k → (L[i]).1 < x.1) (h2 : ∀ hk : k < L.length, ¬ (L[k]).1 < x.1) (hn : ∀ y ∈ L, y.1 ≠ x.1) : Srt (insL L k x) := by
  unfold insL
  have hd : Srt (L.take k ++ L.drop k) := by rw [List.take_append_drop]; exact h
  obtain ⟨a1, a2, a3⟩ := List.pairwise_append.1 hd
  have hlo : ∀ y ∈ L.take k, y.1 < x.1 := fun y hy => by
    obtain ⟨u, hu, rfl⟩ := List.getElem_of_mem hy
    rw [List.length_take] at hu
    rw [List.getElem_take]
    exact h1 u om om
  have hhi : ∀ y ∈ L.drop k, x.1 < y.1 := fun y hy => by
    by_cases hkl : k < L.length
    · have e : L.drop k = L[k] :: L.drop (k + 1) := List.drop_eq_getElem_cons hkl
      have h3 := h2 hkl
      have h4 := hn _ (List.getElem_mem hkl)
      rw [e] at hy a2
      rcases List.mem_cons.1 hy with hy | hy
      · rw [hy]; omega
      · have := (List.pairwise_cons.1 a2).1 y hy
        omega
    · rw [List.drop_eq_nil_of_le om] at hy; cases hy
  refine List.pairwise_append.2 ⟨a1, List.pairwise_cons.2 ⟨hhi, a2⟩, fun y hy z hz => ?_⟩
  rcases List.mem_cons.1 hz with hz | hz
  · rw [hz]; exact hlo y hy
  · exact a3 y hy z hz
theorem rpL_no {L : List (Int × Int)} {f : Int} (h : tgt (rpL rep L) f < 0) : ∀ y ∈ L, y.1 ≠ f := fun y hy e => by
  have hm : (f, ((rep y.2.toNat : Nat) : Int)) ∈ rpL rep L := List.mem_map.2 ⟨y, hy, by rw [← e]⟩
  have key : ∀ {xs : List (Int × Int)} {t : Int}, (∀ z ∈ xs, 0 ≤ z.2) → (f, t) ∈ xs → 0 ≤ tgt xs f := fun {xs t} hz hm => by
    unfold tgt
    split
    · rename_i y hy
      exact hz y (List.mem_of_find?_eq_some hy)
    · rename_i hn
      have := List.find?_eq_none.1 hn _ hm
      simp at this
  have := key (fun z hz => by
    obtain ⟨y, _, rfl⟩ := List.mem_map.1 hz
    exact Int.natCast_nonneg _) hm
  omega
theorem rpL_yes {L : List (Int × Int)} {f : Int} (h : 0 ≤ tgt (rpL rep L) f) : ∃ t, (f, t) ∈ L := by
  obtain ⟨y, hy, e⟩ := List.mem_map.1 (mem_tgt h)
  have e1 := congrArg Prod.fst e
  simp only at e1
  exact ⟨y.2, by rw [← e1]; exact hy⟩
structure MJ (l : List Ty) (U : List Nd) (J : List (Nat × Nat)) (rep : Nat → Nat) (seen : Nat → Bool) (T : Nat → Int) (L : Nat → List (Int × Int)) (it il q : Nat) : Prop where
  seen : ∀ c, seen c = true ↔ ∃ u, u < it ∧ rep u = c
  ty : ∀ c, c < U.length → 0 ≤ T c ∧ T c < l.length
  cov : ∀ u, u < it → sub l (T (rep u)).toNat (nd U u).ty.toNat = true
  low : ∀ c θ, (∀ i, i < c.length → 0 ≤ (nd c i).ty ∧ (nd c i).ty < l.length) → Adm l U c θ → (∀ p ∈ J, θ p.1 = θ p.2) → ∀ u, u < it → sub l (nd c (θ (rep u))).ty.toNat (T (rep u)).toNat = true
  srt : ∀ c, Srt (L c)
  val : ∀ c, ∀ x ∈ L c, ∃ u, u < U.length ∧ rep u = c ∧ x ∈ (nd U u).ln
  lc1 : ∀ u, u < il → ∀ x ∈ (nd U u).ln, ∃ t, (x.1, t) ∈ L (rep u)
  lc2 : ∀ x ∈ (nd U il).ln.take q, ∃ t, (x.1, t) ∈ L (rep il)
variable {seen : Nat → Bool} {T : Nat → Int} {L : Nat → List (Int × Int)}
theorem MJ.start (hp : 0 < l.length) : MJ l U J rep (fun _ => false) (fun _ => 0) (fun _ => []) 0 0 0 :=
  ⟨fun c => ⟨(fun h => nomatch h), fun ⟨u, hu, _⟩ => absurd hu (Nat.not_lt_zero _)⟩, fun c _ => ⟨Int.le_refl _, by omega⟩, fun u hu => absurd hu (Nat.not_lt_zero _), fun _ _ _ _ _ u hu => absurd hu (Nat.not_lt_zero _), fun _ => List.Pairwise.nil, (fun c x hx => by cases hx), fun u hu => absurd hu (Nat.not_lt_zero _), fun x hx => by simp at hx⟩
theorem MJ.first (hv : VT l) (hc : CS l U J k rep) (h : MJ l U J rep seen T L i i 0) (hi : i < U.length) (hty : 0 ≤ (nd U i).ty ∧ (nd U i).ty < l.length) (hn : seen (rep i) = false) : MJ l U J rep (setB seen (rep i)) (fun x => if x = rep i then (nd U i).ty else T x) L (i + 1) i 0 := by
  have hns : ∀ u, u < i → rep u ≠ rep i := fun u hu e => by
    have := (h.seen (rep i)).2 ⟨u, hu, e⟩
    rw [hn] at this; cases this
  refine ⟨fun c => ?_, fun c hc => ?_, fun u hu => ?_, fun c θ hct hθ hj u hu => ?_, h.srt, h.val, h.lc1, h.lc2⟩
  · unfold setB
    by_cases e : c = rep i
    · rw [if_pos e]; exact ⟨fun _ => ⟨i, Nat.lt_succ_self _, e.symm⟩, fun _ => rfl⟩
    · rw [if_neg e, h.seen c]
      exact ⟨fun ⟨u, hu, hr⟩ => ⟨u, by omega, hr⟩, fun ⟨u, hu, hr⟩ => ⟨u, by
        have : u ≠ i := fun e2 => e (by rw [← e2]; exact hr.symm)
        omega, hr⟩⟩
  · (try dsimp only)
    split
    · exact hty
    · exact h.ty c hc
  · (try dsimp only)
    by_cases e : u = i
    · subst e; rw [if_pos rfl]; exact sub_refl hv _
    · rw [if_neg (hns u om)]; exact h.cov u om
  · (try dsimp only)
    by_cases e : u = i
    · subst e
      rw [if_pos rfl, ← hc.only c θ hθ hj u hi]
      exact hθ.ty u hi
    · rw [if_neg (hns u om)]; exact h.low c θ hct hθ hj u om
theorem MJ.meet (hs : Sound l) (hc : CS l U J k rep) {m : Nat} (h : MJ l U J rep seen T L i i 0) (hi : i < U.length) (hn : seen (rep i) = true) (ht : (Go.Proofs.YtegngekpmpdngaaDoor.meet l (T (rep i)).toNat (nd U i).ty.toNat).2.1 = true) (hm : (Go.Proofs.YtegngekpmpdngaaDoor.meet l (T (rep i)).toNat (nd U i).ty.toNat).1 = m) : MJ l U J rep seen (fun x => if x = rep i then (m : Int) else T x) L (i + 1) i 0 := by
  obtain ⟨m1, m2, m3⟩ := meet_spec hs.le (a := (T (rep i)).toNat) (b := (nd U i).ty.toNat) ht
  rw [hm] at m1 m2 m3
  have m2' : sub l m (T (rep i)).toNat = true ∧ sub l m (nd U i).ty.toNat = true := by simpa [comm] using m2
  obtain ⟨v, hvi, hvr⟩ := (h.seen (rep i)).1 hn
  refine ⟨fun c => ?_, fun c hc => ?_, fun u hu => ?_, fun c θ hct hθ hj u hu => ?_, h.srt, h.val, h.lc1, h.lc2⟩
  · rw [h.seen c]
    exact ⟨fun ⟨u, hu, hr⟩ => ⟨u, by omega, hr⟩, fun ⟨u, hu, hr⟩ => by
      by_cases e : u = i
      · exact ⟨v, hvi, by rw [hvr, ← e]; exact hr⟩
      · exact ⟨u, by omega, hr⟩⟩
  · (try dsimp only)
    split
    · omega
    · exact h.ty c hc
  · (try dsimp only)
    by_cases e : rep u = rep i
    · rw [if_pos e, Int.toNat_natCast]
      by_cases e2 : u = i
      · rw [e2]; exact m2'.2
      · have := h.cov u om
        rw [e] at this
        exact sub_tr hs.vt m2'.1 this
    · rw [if_neg e]
      exact h.cov u (by
        have : u ≠ i := fun e2 => e (by rw [e2])
        omega)
  · (try dsimp only)
    by_cases e : rep u = rep i
    · rw [if_pos e, e, Int.toNat_natCast]
      have s1 := h.low c θ hct hθ hj v hvi
      rw [hvr] at s1
      have s2 := hθ.ty i hi
      rw [hc.only c θ hθ hj i hi] at s2
      have hl := hθ.lt _ (hc.lt i hi)
      have := hct _ hl
      exact m3 _ om (by simp [comm, s1, s2])
    · rw [if_neg e]
      exact h.low c θ hct hθ hj u (by
        have : u ≠ i := fun e2 => e (by rw [e2])
        omega)
theorem MJ.fail (hs : Sound l) (hc : CS l U J k rep) (h : MJ l U J rep seen T L i i 0) (hi : i < U.length) (hty : 0 ≤ (nd U i).ty ∧ (nd U i).ty < l.length) (hn : seen (rep i) = true) (hm : (Go.Proofs.YtegngekpmpdngaaDoor.meet l (T (rep i)).toNat (nd U i).ty.toNat).2.1 = false) : ¬ Bound l U J := by
  rintro ⟨c, θ, hct, hθ, hj⟩
  obtain ⟨v, hvi, hvr⟩ := (h.seen (rep i)).1 hn
  have s1 := h.low c θ hct hθ hj v hvi
  rw [hvr] at s1
  have s2 := hθ.ty i hi
  rw [hc.only c θ hθ hj i hi] at s2
  have hl := hθ.lt _ (hc.lt i hi)
  have h1 := hct _ hl
  have h2 := h.ty _ (hc.lt i hi)
  have := hs.all (T (rep i)).toNat (nd U i).ty.toNat (nd c (θ (rep i))).ty.toNat om om om (by simp [comm, s1, s2])
  rw [hm] at this; cases this
theorem take_ln {x : Nd} {q : Nat} (hq : q < x.ln.length) : x.ln.take (q + 1) = x.ln.take q ++ [x.ln[q]] := List.take_succ_eq_append_getElem hq
theorem MJ.old {it : Nat} (h : MJ l U J rep seen T L it i q) (hq : q < (nd U i).ln.length) (ht : 0 ≤ tgt (rpL rep (L (rep i))) ((nd U i).ln[q]).1) : MJ l U J rep seen T L it i (q + 1) :=
  ⟨h.seen, h.ty, h.cov, h.low, h.srt, h.val, h.lc1, fun x hx => by
    rw [take_ln hq] at hx
    rcases List.mem_append.1 hx with hx | hx
    · exact h.lc2 x hx
    · rw [List.mem_singleton.1 hx]; exact rpL_yes ht⟩
theorem MJ.new {it k : Nat} (h : MJ l U J rep seen T L it i q) (hi : i < U.length) (hq : q < (nd U i).ln.length) (ht : tgt (rpL rep (L (rep i))) ((nd U i).ln[q]).1 < 0) (hk : k ≤ (L (rep i)).length) (h1 : ∀ j (hj : j < (L (rep i)).length), j < k → ((L (rep i))[j]).1 < ((nd U i).ln[q]).1) (h2 : ∀ hk : k < (L (rep i)).length, ¬ ((L (rep i))[k]).1 < ((nd U i).ln[q]).1) :
    MJ l U J rep seen T (fun x => if x = rep i then insL (L (rep i)) k ((nd U i).ln[q]) else L x) it i (q + 1) := by
  have hmem : ∀ c z, z ∈ L c → z ∈ (if c = rep i then insL (L (rep i)) k ((nd U i).ln[q]) else L c) := fun c z hz => by
    split
    · rename_i e; rw [e] at hz; exact insL_mem.2 (.inr hz)
    · exact hz
  refine ⟨h.seen, h.ty, h.cov, h.low, fun c => ?_, fun c x hx => ?_, fun u hu x hx => ?_, fun x hx => ?_⟩
  · (try dsimp only)
    split
    · exact insL_srt (h.srt _) hk h1 h2 (rpL_no ht)
    · exact h.srt c
  · (try dsimp only at hx)
    split at hx
    · rename_i e
      rcases insL_mem.1 hx with hx | hx
      · exact ⟨i, hi, e.symm, by rw [hx]; exact List.getElem_mem hq⟩
      · rw [e]; exact h.val _ x hx
    · exact h.val c x hx
  · obtain ⟨t, h3⟩ := h.lc1 u hu x hx
    exact ⟨t, hmem _ _ h3⟩
  · rw [take_ln hq] at hx
    rcases List.mem_append.1 hx with hx | hx
    · obtain ⟨t, h3⟩ := h.lc2 x hx
      exact ⟨t, hmem _ _ h3⟩
    · rw [List.mem_singleton.1 hx]
      exact ⟨((nd U i).ln[q]).2, by simp only [if_true]; exact insL_mem.2 (.inl rfl)⟩
theorem MJ.next (h : MJ l U J rep seen T L (i + 1) i (nd U i).ln.length) : MJ l U J rep seen T L (i + 1) (i + 1) 0 :=
  ⟨h.seen, h.ty, h.cov, h.low, h.srt, h.val, fun u hu x hx => by
    by_cases e : u = i
    · subst e; exact h.lc2 x (by rw [List.take_length]; exact hx)
    · exact h.lc1 u om x hx, fun x hx => by simp at hx⟩
theorem MJ.us (hF : JF l U J rep) (h : MJ l U J rep seen T L U.length U.length 0) (hur : ∀ i, i < U.length → ∀ x ∈ (nd U i).ln, 0 ≤ x.2 ∧ x.2.toNat < U.length) (hJ : ∀ p ∈ J, p.1 < U.length ∧ p.2 < U.length) : US l U J rep rep (fun i => if rep i = i then 0 else 1) T L [] := by
  have hc := hF.cs
  refine ⟨⟨fun i hi hne => ?_, hc.lt, hc.lt, fun i hi => hc.id i hi, fun i hi => hc.id i hi, fun i hi h => h⟩, h.ty, fun i _ => h.srt i, (fun w hw => by cases hw), fun c θ hct hθ hj => ⟨⟨hc.only c θ hθ hj, fun w hw => by cases hw⟩, fun i hi hr => ?_⟩, h.cov, fun i hi x hx => ?_, fun p hp κ hκ => ?_, fun i _ _ x hx => h.val i x hx, hur⟩
  · rw [if_neg hne, if_pos (hc.id i hi)]; exact Nat.zero_lt_one
  · have := h.low c θ hct hθ hj i hi
    rwa [hr] at this
  · obtain ⟨t, ht⟩ := h.lc1 i hi x hx
    refine ⟨t, ht, fun κ hκ => ?_⟩
    obtain ⟨u, hu, hur2, hum⟩ := h.val _ _ ht
    have e := hF.clo i u hi hu hur2.symm x hx _ hum rfl
    rw [hκ.1 _ (hur i hi x hx).2, hκ.1 _ (hur u hu _ hum).2, e]
  · have e := hc.jc p (by rw [List.take_length]; exact hp)
    have := hJ p hp
    rw [hκ.1 _ this.1, hκ.1 _ this.2, e]
end join
end Go.Proofs.YtegngekpmpdngaaDoor
namespace Go.Proofs.YtegngekpmpdngaaDoor
open Go.RowKit
theorem cur_drop {cur : Array Value} {Ps Ys : List Value} {m j : Nat} {v : Value} (h : cur.toList.take m = Ps ++ Ys) (hj : Ys[j]? = some v) : cur[Ps.length + j]? = some v := by
  have h1 : (Ps ++ Ys)[Ps.length + j]? = some v := by
    rw [List.getElem?_append_right (Nat.le_add_right _ _), Nat.add_sub_cancel_left]; exact hj
  rw [← h, List.getElem?_take] at h1
  split at h1
  · simpa using h1
  · cases h1
theorem cur_take {cur : Array Value} {Ps Ys : List Value} {m j : Nat} {v : Value} (h : cur.toList.take m = Ps ++ Ys) (hj : Ps[j]? = some v) : cur[j]? = some v := by
  have hlt := (List.getElem?_eq_some_iff.1 hj).1
  have h1 : (Ps ++ Ys)[j]? = some v := by
    rw [List.getElem?_append_left hlt]; exact hj
  rw [← h, List.getElem?_take] at h1
  split at h1
  · simpa using h1
  · cases h1
def lk1 (x : Int × Int) : List Value := [Value.int .i64 x.1, Value.int .i64 x.2]
theorem lnV_ins (L : List (Int × Int)) (k : Nat) (x : Int × Int) : lnV (insL L k x) = lnV (L.take k) ++ (lk1 x ++ lnV (L.drop k)) := by
  unfold insL
  rw [lnV_app, show x :: L.drop k = [x] ++ L.drop k from rfl, lnV_app]
  rfl
theorem lnV_cut (L : List (Int × Int)) (k : Nat) : lnV L = lnV (L.take k) ++ lnV (L.drop k) := by rw [← lnV_app, List.take_append_drop]
theorem tk_len {L : List (Int × Int)} {k : Nat} (hk : k ≤ L.length) : (lnV (L.take k)).length = k * 2 := by rw [lnV_len, List.length_take, Nat.min_eq_left hk]
theorem dr_len {L : List (Int × Int)} {k : Nat} : (lnV (L.drop k)).length = (L.length - k) * 2 := by rw [lnV_len, List.length_drop]
theorem ins_new {w : World} {base g cap k : Nat} {R0 : Array Value} {Zs : List Value} {L : List (Int × Int)} {x : Int × Int} (hb : Blk w g 30 (cpy (cpy R0 (0 + k * 2) (lk1 x)) (0 + (k + 1) * 2) (lnV (L.drop k)))) (hR : R0.toList = lnV (L.take k) ++ Zs) (hsz : R0.size = cap * 2) (hcap : L.length + 1 ≤ cap) (hm : cap ≤ 9223372036854775807) (hbase : base ≤ g) (hk : k ≤ L.length) : Own w base 30 2 (some ⟨g, 0, none⟩) (L.length + 1) cap (lnV (insL L k x)) := by
  have h1 := tk_len hk
  have h2 := dr_len (L := L) (k := k)
  have h3 : (lk1 x).length = 2 := rfl
  refine own_mk hb hbase hcap hm ?_ ?_
  · rw [cpy_size, cpy_size, hsz]
    · rw [hsz, h3]; omega
    · rw [cpy_size, hsz, h2]
      · omega
      · rw [hsz, h3]; omega
  · rw [lnV_ins, show (L.length + 1) * 2 = (lnV (L.take k)).length + (lk1 x).length + (lnV (L.drop k)).length by omega]
    exact cpy_new hR om om
theorem ins_move {w : World} {base g cap k : Nat} {R0 : Array Value} {L : List (Int × Int)} {x : Int × Int} (hb : Blk w g 30 (cpy (cpy R0 (0 + (k + 1) * 2) (lnV (L.drop k))) (0 + k * 2) (lk1 x))) (hR : R0.toList.take (L.length * 2) = lnV L) (hsz : R0.size = cap * 2) (hcap : L.length + 1 ≤ cap) (hm : cap ≤ 9223372036854775807) (hbase : base ≤ g) (hk : k ≤ L.length) : Own w base 30 2 (some ⟨g, 0, none⟩) (L.length + 1) cap (lnV (insL L k x)) := by
  have h1 := tk_len hk
  have h2 := dr_len (L := L) (k := k)
  have h3 : (lk1 x).length = 2 := rfl
  have h4 : R0.toList = lnV (L.take k) ++ (lnV (L.drop k) ++ R0.toList.drop (L.length * 2)) := by
    rw [← List.append_assoc, ← lnV_cut, ← hR, List.take_append_drop]
  have h5 : (R0.toList.drop (L.length * 2)).length = cap * 2 - L.length * 2 := by rw [List.length_drop, Array.length_toList, hsz]
  refine own_mk hb hbase hcap hm ?_ ?_
  · rw [cpy_size, cpy_size, hsz]
    · rw [hsz, h2]; omega
    · rw [cpy_size, hsz, h3]
      · omega
      · rw [hsz, h2]; omega
  · rw [lnV_ins, show (L.length + 1) * 2 = (lnV (L.take k)).length + (lk1 x).length + (lnV (L.drop k)).length by omega]
    exact cpy_move h4 om om om
theorem ins_end {w : World} {base cap : Nat} {A : Option Addr} {L : List (Int × Int)} {x : Int × Int} (h : Own w base 30 2 A (L.length + 1) cap (lnV L ++ lk1 x)) : Own w base 30 2 A (L.length + 1) cap (lnV (insL L L.length x)) := by
  rw [lnV_ins, List.take_length, List.drop_eq_nil_of_le (Nat.le_refl _)]
  simpa [lnV] using h
theorem lk1_one (x : Int × Int) : ∀ v ∈ lk1 x, v.oneCell' = true := fun v hv => by
  simp only [lk1, List.mem_cons, List.not_mem_nil, or_false] at hv
  rcases hv with rfl | rfl <;> rfl
theorem lnV_one' (xs : List (Int × Int)) : ∀ v ∈ lnV xs, v.oneCell' = true := List.all_eq_true.1 (lnV_one xs)
theorem ovl_any {w : World} {a b la ca lb cb oa ob : Nat} {tA tB : TypeId} {ka kb : Array Value} (ha : Blk w a tA ka) (hb : Blk w b tB kb) (hne : a ≠ b) (hk : kb.size ≠ 0) : (callFunc 86 #[.slice (some ⟨a, oa, none⟩) la ca, .slice (some ⟨b, ob, none⟩) lb cb]).run Tryd.prog w = .ok (.value (.bool false)) w :=
  run_apart (fn := Tryd.f86) (t := 31) (tR := 4) (e := 30) kR kR kR kR kR U31 (sz := 2) kR ha hb hne hk
set_option maxHeartbeats 1000000 in
theorem insl_any {base b vc c k : Nat} {A : Option Addr} {L : List (Int × Int)} {x : Int × Int} (w : World) (ho : Own w base 30 2 A L.length c (lnV L)) (hb : Blk w b 30 #[.int .i64 x.1, .int .i64 x.2]) (hA : ∀ g ∈ aL A, g ≠ b) (hk : k ≤ L.length) (hl : L.length ≤ 1000000) (hbase : base ≤ w.heap.size) : Calls Tryd.prog 55 #[.slice A L.length c, .int .i64 (k : Nat), .slice (some ⟨b, 0, none⟩) 1 vc] w fun e w' => ∃ A' c', e = .returned (.slice A' (L.length + 1) c') ∧ Own w' base 30 2 A' (L.length + 1) c' (lnV (insL L k x)) ∧ Same (aL A) w w' ∧ ∀ g ∈ aL A', g ∈ aL A ∨ w.heap.size ≤ g := by
 have hcl := ho.cap_le
 refine enter Tryd.func55 Tryd.ntmps55 rfl (Nat.le_of_ble_eq_true rfl) (c_seq (c_region (waS rfl (x_nil (e_S ?_)))))
 refine c_seq (c_region (wmS rfl (wmI rfl (wl (r_slL (l := k) U31 sz30_GSearch rfl rfl hk) (x_nil ?_)))))
 refine e_S (c_seq (c_region (wmS rfl (wl (r_len U31 rfl) (waI rfl ?_)))))
 refine x_nil (e_S (c_seq (c_seq (c_region (wmI rfl ?_)))))
 refine wl (r_eql rfl rfl) (x_nil (e_S ?_))
 refine c_ifd rfl (fun c16 => ?_) (fun c16 => ?_)
 ·
  exact absurd c16 dE
 refine c_skip (e_S (c_seq (c_region (wmS rfl (wl (r_len U31 rfl) ?_)))))
 refine waI rfl (x_nil (e_S (c_seq (c_seq (c_region ?_)))))
 refine wmI rfl (wmI rfl (wl (r_eql rfl rfl) (x_nil (e_S ?_))))
 refine c_ifd rfl (fun c22 => ?_) (fun c22 => ?_)
 ·
  have hkn : k = L.length := by omega
  subst hkn
  refine c_seq (c_region (wmS rfl (wmS rfl ?_)))
  refine wl_app U31 in30 rfl dE ho hb rfl rfl rfl oneA dE om om hbase (fun g25 cap25 w25 ho25 hs25 hg25 => ?_)
  refine waS rfl (x_nil (e_S (c_ret (e_Sr (fin1 (.inl rfl) rfl rfl ?_)))))
  exact ⟨_, _, rfl, ins_end ho25, hs25, fun g2 hg2 => by rw [List.mem_singleton.1 hg2]; rcases hg25 with h | h; (· left; rw [h]; exact List.mem_singleton.2 rfl); exact .inr h⟩
 have hkn : k < L.length := by omega
 obtain ⟨g, cur, rfl, hgb, hcur, hcm, hcs, hct⟩ := ho.whole (show 0 < L.length by omega)
 have hgl := hcur.lt
 have hgn : g ≠ b := hA g (List.mem_singleton.2 rfl)
 have htk := tk_len hk
 have hdr := dr_len (L := L) (k := k)
 rw [lnV_cut L k] at hct
 refine c_skip (e_S (c_seq (c_seq (c_region (wmI rfl ?_)))))
 refine wmI rfl (wl (r_add (c := ((L.length + 1 : Nat) : Int)) rfl rfl om om) (wmS rfl (wl (r_cap U31 rfl) (wl (r_gtr rfl rfl) (x_nil ?_)))))
 refine e_S ?_
 refine c_ifd rfl (fun c31 => ?_) (fun c31 => ?_)
 ·
  have hroom : c < L.length + 1 := by omega
  refine c_seq (c_region (wmS rfl (wmI rfl (wl (r_slH (h := k) U31 sz30_GSearch rfl rfl om) (wmI rfl ?_)))))
  refine wmI rfl (wl (r_add (c := ((L.length + 1 : Nat) : Int)) rfl rfl om om) (wmI rfl (wl (r_sub (c := ((L.length + 1 - k : Nat) : Int)) rfl rfl om om) ?_)))
  refine wl_appZ2 (olds := lnV (L.take k)) (m := k) (k := L.length + 1 - k) U31 U3 in30 om dE om om om rfl rfl htk (fun j v hj => hcur.cell (cur_take hct hj)) (fun b40 cap40 w40 hb40 hs40 hr40 hge hle => ?_)
  have e40 : k + (L.length + 1 - k) = L.length + 1 := by omega
  rw [e40] at hge hb40 ⊢
  have hne40 : b ≠ b40 := by have := hb.lt; omega
  have hng40 : g ≠ b40 := by omega
  replace hb := hb.tr0 hs40
  replace hcur := hcur.tr0 hs40
  have hS : SameQ [b40] w40 w40 := Same.refl _ _
  obtain ⟨Zs, hZs⟩ : ∃ Zs : List Value, Zs = (Builtin.zeroCells (Value.agg #[.int .i64 0, .int .i64 0]).cells (L.length + 1 - k)).toList ++ (Builtin.zeroCells (Value.agg #[.int .i64 0, .int .i64 0]).cells (cap40 - (L.length + 1))).toList := ⟨_, rfl⟩
  obtain ⟨R0, hR0⟩ : ∃ R0 : Array Value, R0 = (lnV (L.take k)).toArray ++ Builtin.zeroCells (Value.agg #[.int .i64 0, .int .i64 0]).cells (L.length + 1 - k) ++ Builtin.zeroCells (Value.agg #[.int .i64 0, .int .i64 0]).cells (cap40 - (L.length + 1)) := ⟨_, rfl⟩
  have hRl : R0.toList = lnV (L.take k) ++ Zs := by rw [hR0, hZs]; simp
  have hRs : R0.size = cap40 * 2 := by
    rw [hR0]
    simp only [Array.size_append, List.size_toArray, htk, Builtin.zeroCells, Array.size_map, Array.size_range, show (Value.agg #[.int .i64 0, .int .i64 0]).cells.size = 2 from rfl]
    omega
  rw [← hR0] at hb40
  clear hR0 hZs
  refine waS rfl (x_nil (e_S (c_seq (c_region (wmS rfl ?_)))))
  refine wmI rfl (wl (r_slM (l := k) (l2 := L.length + 1 - k) U31 sz30_GSearch rfl rfl om om om) (wmS rfl ?_))
  refine wl_cp (m := 1) (cs := lk1 x) U31 sz30_GSearch rfl rfl hb40 (by simp only [Nat.min_def]; split <;> omega) rfl (fun j v hj => by rw [Addr.add_mid, Nat.zero_add]; exact hb.cell (by simpa [lk1] using hj)) (by rw [hRs]; simp only [lk1, List.length_cons, List.length_nil]; omega) (lk1_one x) (fun w45 hb45 hs45 => ?_)
  replace hb := hb.tr1 hs45 hne40
  replace hcur := hcur.tr1 hs45 hng40
  replace hS := SameQ.trans hS hs45 (by simp)
  have hR1 : (cpy R0 (0 + k * 2) (lk1 x)).size = cap40 * 2 := by rw [cpy_size (by rw [hRs]; simp only [lk1, List.length_cons, List.length_nil]; omega), hRs]
  refine x_nil (e_S (c_seq ?_))
  refine c_tail 8 kR kR (fun w1 hs => ?_)
  replace hb := hb.tr0 hs
  replace hcur := hcur.tr0 hs
  replace hb45 := hb45.tr0 hs
  replace hS := SameQ.trans hS hs (by simp)
  clear hs
  refine ws (r_mv (v := .slice _ _ _) rfl) (ws (r_mv (v := .int _ _) rfl) (ws (r_mv (v := .int _ _) rfl) (ws (r_add (c := ((k + 1 : Nat) : Int)) rfl rfl om om) (ws (r_slM (l := k + 1) (l2 := L.length - k) U31 sz30_GSearch rfl rfl om om om) (ws (r_mv (v := .slice _ _ _) rfl) ?_)))))
  refine ws (r_mv (v := .int _ _) rfl) (ws (r_slM (l := k) (l2 := L.length - k) U31 sz30_GSearch rfl rfl om om om) (s_tail ?_))
  refine wl_cp (m := L.length - k) (cs := lnV (L.drop k)) U31 sz30_GSearch rfl rfl hb45 (by simp only [Nat.min_def]; split <;> omega) hdr (fun j v hj => by
    rw [Addr.add_mid]
    have h := cur_drop hct hj
    rw [htk] at h
    exact hcur.cell (by rw [Nat.zero_add]; exact h)) (by rw [hR1, hdr]; omega) (lnV_one' _) (fun w54 hb54 hs54 => ?_)
  replace hS := SameQ.trans hS hs54 (by simp)
  refine x_nil (e_S (c_seq (c_region (wmS rfl (waS rfl ?_)))))
  refine x_nil (e_S (c_ret (e_Sr (fin1 (.inl rfl) rfl rfl ?_))))
  exact ⟨_, _, rfl, ins_new hb54 hRl hRs hge hle (nLT hbase hr40) hk, (hs40.freshL (show Same [b40] _ _ from hS) (fun g hg => .inr (by rw [List.mem_singleton.1 hg]; exact hr40))).weak (by simp), fun g2 hg2 => .inr (by rw [List.mem_singleton.1 hg2]; exact hr40)⟩
 have hroom : L.length + 1 ≤ c := by omega
 refine c_skip (e_S (c_seq (c_region (wmS rfl (wmI rfl ?_)))))
 refine wmI rfl (wl (r_add (c := ((L.length + 1 : Nat) : Int)) rfl rfl om om) (wl (r_slH (h := (L.length + 1)) U31 sz30_GSearch rfl rfl hroom) (waS rfl (x_nil (e_S ?_)))))
 refine c_seq (c_seq (c_region (wmS rfl (wmS rfl (wmI rfl ?_)))))
 refine wmI rfl (wl (r_add (c := ((k + 1 : Nat) : Int)) rfl rfl om om) (wl (r_slM (l := k + 1) (l2 := L.length - k) U31 sz30_GSearch rfl rfl om om om) (wl (r_ext (ovl_any hb hcur (fun e => hgn e.symm) om) rfl) (wl (r_not rfl) (x_nil ?_)))))
 refine e_S ?_
 refine c_if rfl (fun c68 => ?_) (fun c68 => ?_)
 ·
  have hS : SameQ [g] w w := Same.refl _ _
  refine c_seq ?_
  refine c_tail 8 kR kR (fun w2 hs => ?_)
  replace hb := hb.tr0 hs
  replace hcur := hcur.tr0 hs
  replace hS := SameQ.trans hS hs (by simp)
  clear hs
  refine ws (r_mv (v := .slice _ _ _) rfl) (ws (r_mv (v := .int _ _) rfl) (ws (r_mv (v := .int _ _) rfl) (ws (r_add (c := ((k + 1 : Nat) : Int)) rfl rfl om om) (ws (r_slM (l := k + 1) (l2 := L.length - k) U31 sz30_GSearch rfl rfl om om om) (ws (r_mv (v := .slice _ _ _) rfl) ?_)))))
  refine ws (r_mv (v := .int _ _) rfl) (ws (r_slM (l := k) (l2 := L.length + 1 - k) U31 sz30_GSearch rfl rfl om om om) (s_tail ?_))
  refine wl_cp (m := L.length - k) (cs := lnV (L.drop k)) U31 sz30_GSearch rfl rfl hcur (by simp only [Nat.min_def]; split <;> omega) hdr (fun j v hj => by
    rw [Addr.add_mid]
    have h := cur_drop hct hj
    rw [htk] at h
    exact hcur.cell (by rw [Nat.zero_add]; exact h)) (by rw [hcs, hdr]; omega) (lnV_one' _) (fun w77 hb77 hs77 => ?_)
  replace hS := SameQ.trans hS hs77 (by simp)
  replace hb := hb.tr1 hs77 (fun e => hgn e.symm)
  have hR1 : (cpy cur (0 + (k + 1) * 2) (lnV (L.drop k))).size = c * 2 := by rw [cpy_size (by rw [hcs, hdr]; omega), hcs]
  refine x_nil (e_S (c_seq (c_region (wmS rfl (wmI rfl ?_)))))
  refine wl (r_slM (l := k) (l2 := L.length + 1 - k) U31 sz30_GSearch rfl rfl om om om) (wmS rfl ?_)
  refine wl_cp (m := 1) (cs := lk1 x) U31 sz30_GSearch rfl rfl hb77 (by simp only [Nat.min_def]; split <;> omega) rfl (fun j v hj => by rw [Addr.add_mid, Nat.zero_add]; exact hb.cell (by simpa [lk1] using hj)) (by rw [hR1]; simp only [lk1, List.length_cons, List.length_nil]; omega) (lk1_one x) (fun w82 hb82 hs82 => ?_)
  replace hS := SameQ.trans hS hs82 (by simp)
  refine x_nil (e_S (c_seq (c_region (wmS rfl (waS rfl ?_)))))
  refine x_nil (e_S (c_ret (e_Sr (fin1 (.inl rfl) rfl rfl ?_))))
  exact ⟨_, _, rfl, ins_move hb82 (by rw [lnV_cut L k]; exact hct) hcs hroom hcm hgb hk, by simpa [aL, SameQ] using hS, fun g2 hg2 => .inl hg2⟩
 exact absurd c68 dE
end Go.Proofs.YtegngekpmpdngaaDoor
