/- The engine's sixth part: copy, zeros appended to a slice, functions that the model has itself, a drawn region in which an operation changes what another one has made. -/
import Derived.Test.YtahdbbgkgokkhaaDoorEng3a
import Derived.Laws.CopyRow
import Derived.Laws.Externs
import Derived.Lib.Overlaps
namespace Go.Proofs.YtahdbbgkgokkhaaDoor
open Go.RowKit
section six
variable {P : Program} {Q : Exit → Act → World → Prop} {n : Nat} {f : Fr} {w : World} {ops : Array Oper} {rest : List Oper} {d : Tmp} {ty t e : TypeId} {pos : String} {af : Array Edge} {x y : Operand} {v : Value}
/-- what stands in a row behind a copy -/
def cpy (cur : Array Value) (o : Nat) (cs : List Value) : Array Value := (cur.toList.take o ++ cs ++ cur.toList.drop (o + cs.length)).toArray
theorem cpy_size {cur : Array Value} {o : Nat} {cs : List Value} (h : o + cs.length ≤ cur.size) : (cpy cur o cs).size = cur.size := by
  unfold cpy
  simp only [List.size_toArray, List.length_append, List.length_take, List.length_drop, Array.length_toList]
  omega
theorem run_copyC {sz g o dLen dCap sLen sCap m : Nat} {a : Addr} {cur : Array Value} {cs : List Value} {e' sT : TypeId} (hu : P.underlying t = some (.slice e)) (hs : (P.info? e).map (·.size) = some sz)
    (hg : Blk w g e' cur) (hn : Nat.min sLen dLen = m) (hl : cs.length = m * sz) (hsrc : ∀ j v, cs[j]? = some v → w.cell? (a.add j) = some v) (hfit : o + cs.length ≤ cur.size) (h1 : ∀ v ∈ cs, v.oneCell' = true) :
    (Builtin.copy_ #[t, sT] ty #[.slice (some ⟨g, o, none⟩) dLen dCap, .slice (some a) sLen sCap]).run P w = .ok (goInt m) (w.setRow g (cpy cur o cs)) := by
  have hld := run_loadCells_list (P := P) w a cs hsrc
  have hst := run_storeCells_at P g o e' cs 0 cur w hg (by simpa using hfit) h1
  cases hq : P.info? e with
  | none => simp [hq] at hs
  | some i =>
    have hi : i.size = sz := by simpa [hq] using hs
    simp [Builtin.copy_, run_underlying hu, Builtin.lenOf, Builtin.firstCells, sizeOf, typeInfo, hq, hi, hn, ← hl, hld, hst, cpy]
theorem wl_cp {sz g o dLen dCap sLen sCap m : Nat} {a : Addr} {cur : Array Value} {cs : List Value} {e' : TypeId} (hu : P.underlying t = some (.slice e)) (hs : (P.info? e).map (·.size) = some sz) (hx : ev n f x = .slice (some ⟨g, o, none⟩) dLen dCap) (hy : ev n f y = .slice (some a) sLen sCap)
    (hg : Blk w g e' cur) (hn : Nat.min sLen dLen = m) (hl : cs.length = m * sz) (hsrc : ∀ j v, cs[j]? = some v → w.cell? (a.add j) = some v) (hfit : o + cs.length ≤ cur.size) (h1 : ∀ v ∈ cs, v.oneCell' = true)
    (K : ∀ w1, Blk w1 g e' (cpy cur o cs) → Same [g] w w1 → WL P ops Q rest n (upd f d (goInt m)) w1) :
    WL P ops Q (⟨some d, .call { callee := .builtin .copy, args := #[x, y], argTypes := #[t, t] }, ty, pos, af, none⟩ :: rest) n f w := by
  have hr := run_copyC (P := P) (ty := ty) (sT := t) (dCap := dCap) (sCap := sCap) hu hs hg hn hl hsrc hfit h1
  refine wl (v := goInt m) (w' := w.setRow g (cpy cur o cs)) ?_ (K _ (setRow_heap w g cur _ e' _ hg) (same_setRow w g _))
  simp only [RV, execOp, resolve, invoke, builtin, Sem.run_bind, Sem.run_pure, Result.andThen_ok, List.map_toArray, List.map_cons, List.map_nil, hx, hy, hr]
/-- zeros appended to a slice that has no room for them -/
theorem wl_appZ2 {tn : TypeId} {zv : Value} {sz by' k m cap g : Nat} {olds : List Value} (hu : P.underlying t = some (.slice e)) (hn : P.underlying tn = some (.int .i64)) (hi : (P.info? e).map (fun i => (i.zero, i.size, i.bytes)) = some (some zv, sz, by')) (h0 : 0 < k) (hs : 0 < sz) (hroom : cap < m + k) (hb : (m + k) * by' ≤ 140737488355328) (h63 : m + k ≤ 4611686018427387904)
    (hx : ev n f x = .slice (some ⟨g, 0, none⟩) m cap) (hy : ev n f y = .int .i64 (k : Int)) (hl : olds.length = m * sz) (hsrc : ∀ j v, olds[j]? = some v → w.cell? ⟨g, j, none⟩ = some v)
    (K : ∀ b cap' w1, Blk w1 b e (olds.toArray ++ Builtin.zeroCells zv.cells k ++ Builtin.zeroCells zv.cells (cap' - (m + k))) → Same [] w w1 → w.heap.size ≤ b → m + k ≤ cap' → cap' ≤ 9223372036854775807 → WL P ops Q rest n (upd f d (.slice (some ⟨b, 0, none⟩) (m + k) cap')) w1) :
    WL P ops Q (⟨some d, .call { callee := .builtin .append, args := #[x, y], argTypes := #[t, tn] }, ty, pos, af, none⟩ :: rest) n f w := by
  obtain ⟨i, hq, hzz⟩ := Option.map_eq_some_iff.1 hi
  simp only [Prod.mk.injEq] at hzz
  obtain ⟨z1, z2, z3⟩ := hzz
  have hld := run_loadCells_list (P := P) w.drew ⟨g, 0, none⟩ olds (fun j v hj => by
    rw [Addr.add_mid, Nat.zero_add]; exact hsrc j v hj)
  have hold : (Builtin.firstCells i.size m (.slice (some ⟨g, 0, none⟩) m cap)).run P w.drew = .ok olds.toArray w.drew := by
    simp only [Builtin.firstCells, z2, ← hl, hld]
  have hfit := growslice_fits (need := m + k) (old := cap) (bytes := i.bytes) hroom (by rw [z3]; exact hb)
  have hkb : k * by' ≤ (m + k) * by' := Nat.mul_le_mul_right _ (Nat.le_add_left _ _)
  have hr := Lib.run_append_grow_zeros w t tn ty e i zv .i64 .i64 hu hn hq z1 (some ⟨g, 0, none⟩) m cap olds hold k h0 (by omega) hroom (by omega) (by rw [z3]; omega) hfit
  have hge := grownCap_ge w (m + k) cap e
  have hle := grownCap_le_maxLen w (m + k) cap e (by unfold maxLen; omega)
  generalize grownCap w (m + k) cap e = C at hr hge hle
  refine wl (v := .slice (some ⟨w.heap.size, 0, none⟩) (m + k) C) (w' := w.drew.alloc (.cells (olds.toArray ++ Builtin.zeroCells zv.cells k ++ Builtin.zeroCells zv.cells (C - (m + k))) e)) ?_ (K _ _ _ ?_ ?_ (Nat.le_refl _) hge (by unfold maxLen at hle; omega))
  · simp only [RV, execOp, resolve, invoke, builtin, Sem.run_bind, Sem.run_pure, Result.andThen_ok, List.map_toArray, List.map_cons, List.map_nil, hx, hy, hr]
  · exact heap_alloc_new w.drew _
  · have hd : Same [] w w.drew := ⟨rfl, rfl, rfl, Nat.le_refl _, fun _ _ _ => rfl⟩
    exact hd.trans (same_alloc w.drew _)
/-- a function that the model has itself -/
theorem r_ext {F : FuncId} {xs : Array Operand} {ats : Array TypeId} {args : List Value} {dst : Option Nat} {gd : Option (Nat × Bool)} (h : (callFunc F args.toArray).run P w = .ok (.value v) w) (hargs : xs.toList.map (ev n f) = args) :
    RV P n f w ⟨dst, .call { callee := .value (.func F), args := xs, argTypes := ats }, ty, pos, af, gd⟩ v w := by
  subst hargs
  have hm : (xs.toList.map (ev n f)).toArray = xs.map (ev n f) := by rw [← Array.toList_map, Array.toArray_toList]
  rw [hm] at h
  simp [RV, execOp, resolve, ev, Deferred.ofValue, invoke, h]
theorem shape_blk {b : Nat} {cs : Array Value} (h : Blk w b t cs) : w.shape? b = some (t, cs.size) := by
  unfold Blk at h; simp [World.shape?, h]
theorem frozen_blk {b o : Nat} {cs : Array Value} (h : Blk w b t cs) : w.frozen? ⟨b, o, none⟩ = false := by
  unfold Blk at h; simp [World.frozen?, h]
theorem run_apart {F : FuncId} {fn : Func} {tR tA tB : TypeId} {a b la ca lb cb oa ob sz : Nat} {ka kb : Array Value} (hf : P.funcs[F]? = some fn) (hname : (fn.name == "runtime.NumGoroutine") = false) (hb : fn.body.isNone = true) (hn : Extern.findNext fn = none) (he : Extern.find fn = some (Extern.SlicesOverlaps.overlaps #[t, t] #[tR]))
    (hu : P.underlying t = some (.slice e)) (hz : (P.info? e).map (·.size) = some sz) (ha : Blk w a tA ka) (hb2 : Blk w b tB kb) (hne : a ≠ b) (hk : kb.size ≠ 0) :
    (callFunc F #[.slice (some ⟨a, oa, none⟩) la ca, .slice (some ⟨b, ob, none⟩) lb cb]).run P w = .ok (.value (.bool false)) w := by
  have hsz : ∀ w, (Go.sizeOf e).run P w = .ok sz w := fun w => by
    cases hq : P.info? e with
    | none => simp [hq] at hz
    | some i =>
      have hi : i.size = sz := by simpa [hq] using hz
      simp [Go.sizeOf, typeInfo, hq, hi]
  rw [run_callFunc_extern hf hname hb hn he, Lib.run_overlaps_apart w t tR e hu sz hsz ⟨a, oa, none⟩ ⟨b, ob, none⟩ la ca lb cb hne tA tB ka.size kb.size (shape_blk ha) (shape_blk hb2) hk (frozen_blk ha) (frozen_blk ha)]
  rfl
theorem r_slM {dst : Option Tmp} {gd : Option (Nat × Bool)} {g o m c l l2 : Nat} {sz : Nat} (hu : P.underlying t = some (.slice e)) (hs : (P.info? e).map (·.size) = some sz) (hx : ev n f x = .slice (some ⟨g, o, none⟩) m c) (hy : ev n f y = .int .i64 (l : Int)) (hl : l ≤ m) (hc : l < c) (hl2 : m - l = l2) :
    RV P n f w ⟨dst, .slice t x (some y) none none, ty, pos, af, gd⟩ (.slice (some ⟨g, o + l * sz, none⟩) l2 (c - l)) w := by
  have h := r_slL (w := w) (dst := dst) (gd := gd) (ty := ty) (pos := pos) (af := af) hu hs hx hy hl
  rw [if_neg (by omega)] at h
  subst hl2
  have e1 : Option.map (fun z : Addr => z.add (l * sz)) (some (⟨g, o, none⟩ : Addr)) = some ⟨g, o + l * sz, none⟩ := by
    show some (Addr.add _ _) = _
    rw [Addr.add_mid]
  rw [e1] at h; exact h
theorem Own.whole {base sz k cap : Nat} {A : Option Addr} {xs : List Value} (h : Own w base e sz A k cap xs) (hk : 0 < k) : ∃ (g : Nat) (cur : Array Value), A = some ⟨g, 0, none⟩ ∧ base ≤ g ∧ Blk w g e cur ∧ cap ≤ 9223372036854775807 ∧ cur.size = cap * sz ∧ cur.toList.take (k * sz) = xs := by
  rcases h.2 with ⟨_, h0⟩ | ⟨g, c, cur, hv, hb, hg, hkc, hm, hs, ht⟩
  · omega
  · cases hv
    exact ⟨g, cur, rfl, hb, hg, by simpa [maxLen] using hm, hs, ht⟩
theorem own_mk {base sz k cap g : Nat} {cur : Array Value} {xs : List Value} (hb : Blk w g e cur) (hbase : base ≤ g) (hk : k ≤ cap) (hm : cap ≤ 9223372036854775807) (hs : cur.size = cap * sz) (hx : cur.toList.take (k * sz) = xs) : Own w base e sz (some ⟨g, 0, none⟩) k cap xs := by
  have hle : k * sz ≤ cap * sz := Nat.mul_le_mul_right sz hk
  subst hx
  exact ⟨by rw [List.length_take, Array.length_toList]; omega, .inr ⟨g, cap, cur, rfl, hbase, hb, hk, by simpa [maxLen] using hm, hs, rfl⟩⟩
theorem cpy_list (cur : Array Value) (o : Nat) (cs : List Value) : (cpy cur o cs).toList = cur.toList.take o ++ (cs ++ cur.toList.drop (o + cs.length)) := by simp [cpy]
/-- two copies that lay X and Y behind P -/
theorem cpy_new {cur : Array Value} {Ps Zs Xs Ys : List Value} {o1 o2 : Nat} (h : cur.toList = Ps ++ Zs) (h1 : o1 = Ps.length) (h2 : o2 = Ps.length + Xs.length) : (cpy (cpy cur o1 Xs) o2 Ys).toList.take (Ps.length + Xs.length + Ys.length) = Ps ++ (Xs ++ Ys) := by
  subst h1 h2
  have e1 : (cpy cur Ps.length Xs).toList = (Ps ++ Xs) ++ Zs.drop Xs.length := by
    rw [cpy_list, h, List.take_append_of_le_length (Nat.le_refl _), List.take_length, List.drop_append, List.drop_eq_nil_of_le (Nat.le_add_right _ _), Nat.add_sub_cancel_left]
    simp
  have e2 : Ps.length + Xs.length = (Ps ++ Xs).length := by simp
  rw [cpy_list, e1, e2, List.take_append_of_le_length (Nat.le_refl _), List.take_length, ← List.append_assoc, ← List.length_append, List.take_append_of_le_length (Nat.le_refl _), List.take_length]
  simp
/-- Y moved up, and X laid behind P -/
theorem cpy_move {cur : Array Value} {Ps Zs Xs Ys : List Value} {o1 o2 : Nat} (h : cur.toList = Ps ++ (Ys ++ Zs)) (h1 : o1 = Ps.length) (h2 : o2 = Ps.length + Xs.length) (hz : Xs.length ≤ Zs.length) : (cpy (cpy cur o2 Ys) o1 Xs).toList.take (Ps.length + Xs.length + Ys.length) = Ps ++ (Xs ++ Ys) := by
  subst h1 h2
  have hc : (cpy cur (Ps.length + Xs.length) Ys).toList = cur.toList.take (Ps.length + Xs.length) ++ (Ys ++ cur.toList.drop (Ps.length + Xs.length + Ys.length)) := cpy_list _ _ _
  have hl : (cur.toList.take (Ps.length + Xs.length)).length = Ps.length + Xs.length := by
    rw [List.length_take, h]; simp only [List.length_append]; omega
  have ht : (cur.toList.take (Ps.length + Xs.length)).take Ps.length = Ps := by
    rw [List.take_take, Nat.min_eq_left (Nat.le_add_right _ _), h, List.take_append_of_le_length (Nat.le_refl _), List.take_length]
  have e1 : (cpy cur (Ps.length + Xs.length) Ys).toList.take Ps.length = Ps := by
    rw [hc, List.take_append_of_le_length (by omega), ht]
  have e2 : (cpy cur (Ps.length + Xs.length) Ys).toList.drop (Ps.length + Xs.length) = Ys ++ cur.toList.drop (Ps.length + Xs.length + Ys.length) := by
    rw [hc, List.drop_append, List.drop_eq_nil_of_le (by omega), hl, Nat.sub_self]; simp
  rw [cpy_list, e1, e2]
  have e3 : Ps ++ (Xs ++ (Ys ++ cur.toList.drop (Ps.length + Xs.length + Ys.length))) = (Ps ++ (Xs ++ Ys)) ++ cur.toList.drop (Ps.length + Xs.length + Ys.length) := by simp
  have e4 : Ps.length + Xs.length + Ys.length = (Ps ++ (Xs ++ Ys)).length := by simp [Nat.add_assoc]
  rw [e3, e4, List.take_append_of_le_length (Nat.le_refl _), List.take_length]
end six
end Go.Proofs.YtahdbbgkgokkhaaDoor
