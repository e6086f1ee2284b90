/- The engine's sixth part: copy, zeros appended to a slice, functions that the model has itself, a drawn region in which an operation changes what another one has made. Unification as the least bound: the states of a pool of nodes, and what its graph maps to. No program in sight. -/
import Derived.Test.YtegngekpmpdngaaDoorGro
import Derived.Laws.CopyRow
import Derived.Laws.Externs
import Derived.Lib.Overlaps
import Derived.Test.YtegngekpmpdngaaDoorSBase
namespace Go.Proofs.YtegngekpmpdngaaDoor
open Go.RowKit
section six
variable {P : Program} {Q : Exit → Act → World → Prop} {n : Nat} {f : Fr} {w : World} {ops : Array Oper} {rest : List Oper} {d : Tmp} {ty t e : TypeId} {pos : String} {af : Array Edge} {x y : Operand} {v : Value}
def cpy (cur : Array Value) (o : Nat) (cs : List Value) : Array Value := (cur.toList.take o ++ cs ++ cur.toList.drop (o + cs.length)).toArray
theorem cpy_size {cur : Array Value} {o : Nat} {cs : List Value} (h : o + cs.length ≤ cur.size) : (cpy cur o cs).size = cur.size := by
  unfold cpy
  simp only [List.size_toArray, List.length_append, List.length_take, List.length_drop, Array.length_toList]
  omega
theorem run_copyC {sz g o dLen dCap sLen sCap m : Nat} {a : Addr} {cur : Array Value} {cs : List Value} {e' sT : TypeId} (hu : P.underlying t = some (.slice e)) (hs : (P.info? e).map (·.size) = some sz)
    (hg : Blk w g e' cur) (hn : Nat.min sLen dLen = m) (hl : cs.length = m * sz) (hsrc : ∀ j v, cs[j]? = some v → w.cell? (a.add j) = some v) (hfit : o + cs.length ≤ cur.size) (h1 : ∀ v ∈ cs, v.oneCell' = true) :
    (Builtin.copy_ #[t, sT] ty #[.slice (some ⟨g, o, none⟩) dLen dCap, .slice (some a) sLen sCap]).run P w = .ok (goInt m) (w.setRow g (cpy cur o cs)) := by
  have hld := run_loadCells_list (P := P) w a cs hsrc
  have hst := run_storeCells_at P g o e' cs 0 cur w hg (by simpa using hfit) h1
  cases hq : P.info? e with
  | none => simp [hq] at hs
  | some i =>
    have hi : i.size = sz := by simpa [hq] using hs
    simp [Builtin.copy_, run_underlying hu, Builtin.lenOf, Builtin.firstCells, sizeOf, typeInfo, hq, hi, hn, ← hl, hld, hst, cpy]
theorem wl_cp {sz g o dLen dCap sLen sCap m : Nat} {a : Addr} {cur : Array Value} {cs : List Value} {e' : TypeId} (hu : P.underlying t = some (.slice e)) (hs : (P.info? e).map (·.size) = some sz) (hx : ev n f x = .slice (some ⟨g, o, none⟩) dLen dCap) (hy : ev n f y = .slice (some a) sLen sCap)
    (hg : Blk w g e' cur) (hn : Nat.min sLen dLen = m) (hl : cs.length = m * sz) (hsrc : ∀ j v, cs[j]? = some v → w.cell? (a.add j) = some v) (hfit : o + cs.length ≤ cur.size) (h1 : ∀ v ∈ cs, v.oneCell' = true)
    (K : ∀ w1, Blk w1 g e' (cpy cur o cs) → Same [g] w w1 → WL P ops Q rest n (upd f d (goInt m)) w1) :
    WL P ops Q (⟨some d, .call { callee := .builtin .copy, args := #[x, y], argTypes := #[t, t] }, ty, pos, af, none⟩ :: rest) n f w := by
  have hr := run_copyC (P := P) (ty := ty) (sT := t) (dCap := dCap) (sCap := sCap) hu hs hg hn hl hsrc hfit h1
  refine wl (v := goInt m) (w' := w.setRow g (cpy cur o cs)) ?_ (K _ (setRow_heap w g cur _ e' _ hg) (same_setRow w g _))
  simp only [RV, execOp, resolve, invoke, builtin, Sem.run_bind, Sem.run_pure, Result.andThen_ok, List.map_toArray, List.map_cons, List.map_nil, hx, hy, hr]
theorem wl_appZ2 {tn : TypeId} {zv : Value} {sz by' k m cap g : Nat} {olds : List Value} (hu : P.underlying t = some (.slice e)) (hn : P.underlying tn = some (.int .i64)) (hi : (P.info? e).map (fun i => (i.zero, i.size, i.bytes)) = some (some zv, sz, by')) (h0 : 0 < k) (hs : 0 < sz) (hroom : cap < m + k) (hb : (m + k) * by' ≤ 140737488355328) (h63 : m + k ≤ 4611686018427387904)
    (hx : ev n f x = .slice (some ⟨g, 0, none⟩) m cap) (hy : ev n f y = .int .i64 (k : Int)) (hl : olds.length = m * sz) (hsrc : ∀ j v, olds[j]? = some v → w.cell? ⟨g, j, none⟩ = some v)
    (K : ∀ b cap' w1, Blk w1 b e (olds.toArray ++ Builtin.zeroCells zv.cells k ++ Builtin.zeroCells zv.cells (cap' - (m + k))) → Same [] w w1 → w.heap.size ≤ b → m + k ≤ cap' → cap' ≤ 9223372036854775807 → WL P ops Q rest n (upd f d (.slice (some ⟨b, 0, none⟩) (m + k) cap')) w1) :
    WL P ops Q (⟨some d, .call { callee := .builtin .append, args := #[x, y], argTypes := #[t, tn] }, ty, pos, af, none⟩ :: rest) n f w := by
  obtain ⟨i, hq, hzz⟩ := Option.map_eq_some_iff.1 hi
  simp only [Prod.mk.injEq] at hzz
  obtain ⟨z1, z2, z3⟩ := hzz
  have hld := run_loadCells_list (P := P) w.drew ⟨g, 0, none⟩ olds (fun j v hj => by
    rw [Addr.add_mid, Nat.zero_add]; exact hsrc j v hj)
  have hold : (Builtin.firstCells i.size m (.slice (some ⟨g, 0, none⟩) m cap)).run P w.drew = .ok olds.toArray w.drew := by
    simp only [Builtin.firstCells, z2, ← hl, hld]
  have hfit := growslice_fits (need := m + k) (old := cap) (bytes := i.bytes) hroom (by rw [z3]; exact hb)
  have hkb : k * by' ≤ (m + k) * by' := Nat.mul_le_mul_right _ (Nat.le_add_left _ _)
  have hr := Lib.run_append_grow_zeros w t tn ty e i zv .i64 .i64 hu hn hq z1 (some ⟨g, 0, none⟩) m cap olds hold k h0 om hroom om (by rw [z3]; omega) hfit
  have hge := grownCap_ge w (m + k) cap e
  have hle := grownCap_le_maxLen w (m + k) cap e (by unfold maxLen; omega)
  generalize grownCap w (m + k) cap e = C at hr hge hle
  refine wl (v := .slice (some ⟨w.heap.size, 0, none⟩) (m + k) C) (w' := w.drew.alloc (.cells (olds.toArray ++ Builtin.zeroCells zv.cells k ++ Builtin.zeroCells zv.cells (C - (m + k))) e)) ?_ (K _ _ _ ?_ ?_ (Nat.le_refl _) hge (by unfold maxLen at hle; omega))
  · simp only [RV, execOp, resolve, invoke, builtin, Sem.run_bind, Sem.run_pure, Result.andThen_ok, List.map_toArray, List.map_cons, List.map_nil, hx, hy, hr]
  · exact heap_alloc_new w.drew _
  · have hd : Same [] w w.drew := ⟨rfl, rfl, rfl, Nat.le_refl _, fun _ _ _ => rfl⟩
    exact hd.trans (same_alloc w.drew _)
theorem r_ext {F : FuncId} {xs : Array Operand} {ats : Array TypeId} {args : List Value} {dst : Option Nat} {gd : Option (Nat × Bool)} (h : (callFunc F args.toArray).run P w = .ok (.value v) w) (hargs : xs.toList.map (ev n f) = args) :
    RV P n f w ⟨dst, .call { callee := .value (.func F), args := xs, argTypes := ats }, ty, pos, af, gd⟩ v w := by
  subst hargs
  have hm : (xs.toList.map (ev n f)).toArray = xs.map (ev n f) := by rw [← Array.toList_map, Array.toArray_toList]
  rw [hm] at h
  simp [RV, execOp, resolve, ev, Deferred.ofValue, invoke, h]
theorem shape_blk {b : Nat} {cs : Array Value} (h : Blk w b t cs) : w.shape? b = some (t, cs.size) := by
  unfold Blk at h; simp [World.shape?, h]
theorem frozen_blk {b o : Nat} {cs : Array Value} (h : Blk w b t cs) : w.frozen? ⟨b, o, none⟩ = false := by
  unfold Blk at h; simp [World.frozen?, h]
theorem run_apart {F : FuncId} {fn : Func} {tR tA tB : TypeId} {a b la ca lb cb oa ob sz : Nat} {ka kb : Array Value} (hf : P.funcs[F]? = some fn) (hname : (fn.name == "runtime.NumGoroutine") = false) (hb : fn.body.isNone = true) (hn : Extern.findNext fn = none) (he : Extern.find fn = some (Extern.SlicesOverlaps.overlaps #[t, t] #[tR]))
    (hu : P.underlying t = some (.slice e)) (hz : (P.info? e).map (·.size) = some sz) (ha : Blk w a tA ka) (hb2 : Blk w b tB kb) (hne : a ≠ b) (hk : kb.size ≠ 0) :
    (callFunc F #[.slice (some ⟨a, oa, none⟩) la ca, .slice (some ⟨b, ob, none⟩) lb cb]).run P w = .ok (.value (.bool false)) w := by
  have hsz : ∀ w, (Go.sizeOf e).run P w = .ok sz w := fun w => by
    cases hq : P.info? e with
    | none => simp [hq] at hz
    | some i =>
      have hi : i.size = sz := by simpa [hq] using hz
      simp [Go.sizeOf, typeInfo, hq, hi]
  rw [run_callFunc_extern hf hname hb hn he, Lib.run_overlaps_apart w t tR e hu sz hsz ⟨a, oa, none⟩ ⟨b, ob, none⟩ la ca lb cb hne tA tB ka.size kb.size (shape_blk ha) (shape_blk hb2) hk (frozen_blk ha) (frozen_blk ha)]
  rfl
theorem r_slM {dst : Option Tmp} {gd : Option (Nat × Bool)} {g o m c l l2 : Nat} {sz : Nat} (hu : P.underlying t = some (.slice e)) (hs : (P.info? e).map (·.size) = some sz) (hx : ev n f x = .slice (some ⟨g, o, none⟩) m c) (hy : ev n f y = .int .i64 (l : Int)) (hl : l ≤ m) (hc : l < c) (hl2 : m - l = l2) :
    RV P n f w ⟨dst, .slice t x (some y) none none, ty, pos, af, gd⟩ (.slice (some ⟨g, o + l * sz, none⟩) l2 (c - l)) w := by
  have h := r_slL (w := w) (dst := dst) (gd := gd) (ty := ty) (pos := pos) (af := af) hu hs hx hy hl
  rw [if_neg om] at h
  subst hl2
  have e1 : Option.map (fun z : Addr => z.add (l * sz)) (some (⟨g, o, none⟩ : Addr)) = some ⟨g, o + l * sz, none⟩ := by
    show some (Addr.add _ _) = _
    rw [Addr.add_mid]
  rw [e1] at h; exact h
theorem Own.whole {base sz k cap : Nat} {A : Option Addr} {xs : List Value} (h : Own w base e sz A k cap xs) (hk : 0 < k) : ∃ (g : Nat) (cur : Array Value), A = some ⟨g, 0, none⟩ ∧ base ≤ g ∧ Blk w g e cur ∧ cap ≤ 9223372036854775807 ∧ cur.size = cap * sz ∧ cur.toList.take (k * sz) = xs := by
  rcases h.2 with ⟨_, h0⟩ | ⟨g, c, cur, hv, hb, hg, hkc, hm, hs, ht⟩
  · omega
  · cases hv
    exact ⟨g, cur, rfl, hb, hg, by simpa [maxLen] using hm, hs, ht⟩
theorem own_mk {base sz k cap g : Nat} {cur : Array Value} {xs : List Value} (hb : Blk w g e cur) (hbase : base ≤ g) (hk : k ≤ cap) (hm : cap ≤ 9223372036854775807) (hs : cur.size = cap * sz) (hx : cur.toList.take (k * sz) = xs) : Own w base e sz (some ⟨g, 0, none⟩) k cap xs := by
  have hle : k * sz ≤ cap * sz := Nat.mul_le_mul_right sz hk
  subst hx
  exact ⟨by rw [List.length_take, Array.length_toList]; omega, .inr ⟨g, cap, cur, rfl, hbase, hb, hk, by simpa [maxLen] using hm, hs, rfl⟩⟩
theorem cpy_list (cur : Array Value) (o : Nat) (cs : List Value) : (cpy cur o cs).toList = cur.toList.take o ++ (cs ++ cur.toList.drop (o + cs.length)) := by simp [cpy]
theorem cpy_new {cur : Array Value} {Ps Zs Xs Ys : List Value} {o1 o2 : Nat} (h : cur.toList = Ps ++ Zs) (h1 : o1 = Ps.length) (h2 : o2 = Ps.length + Xs.length) : (cpy (cpy cur o1 Xs) o2 Ys).toList.take (Ps.length + Xs.length + Ys.length) = Ps ++ (Xs ++ Ys) := by
  subst h1 h2
  have e1 : (cpy cur Ps.length Xs).toList = (Ps ++ Xs) ++ Zs.drop Xs.length := by
    rw [cpy_list, h, List.take_append_of_le_length (Nat.le_refl _), List.take_length, List.drop_append, List.drop_eq_nil_of_le (Nat.le_add_right _ _), Nat.add_sub_cancel_left]
    simp
  have e2 : Ps.length + Xs.length = (Ps ++ Xs).length := by simp
  rw [cpy_list, e1, e2, List.take_append_of_le_length (Nat.le_refl _), List.take_length, ← List.append_assoc, ← List.length_append, List.take_append_of_le_length (Nat.le_refl _), List.take_length]
  simp
theorem cpy_move {cur : Array Value} {Ps Zs Xs Ys : List Value} {o1 o2 : Nat} (h : cur.toList = Ps ++ (Ys ++ Zs)) (h1 : o1 = Ps.length) (h2 : o2 = Ps.length + Xs.length) (hz : Xs.length ≤ Zs.length) : (cpy (cpy cur o2 Ys) o1 Xs).toList.take (Ps.length + Xs.length + Ys.length) = Ps ++ (Xs ++ Ys) := by
  subst h1 h2
  have hc : (cpy cur (Ps.length + Xs.length) Ys).toList = cur.toList.take (Ps.length + Xs.length) ++ (Ys ++ cur.toList.drop (Ps.length + Xs.length + Ys.length)) := cpy_list _ _ _
  have hl : (cur.toList.take (Ps.length + Xs.length)).length = Ps.length + Xs.length := by
    rw [List.length_take, h]; simp only [List.length_append]; omega
  have ht : (cur.toList.take (Ps.length + Xs.length)).take Ps.length = Ps := by
    rw [List.take_take, Nat.min_eq_left (Nat.le_add_right _ _), h, List.take_append_of_le_length (Nat.le_refl _), List.take_length]
  have e1 : (cpy cur (Ps.length + Xs.length) Ys).toList.take Ps.length = Ps := by
    rw [hc, List.take_append_of_le_length om, ht]
  have e2 : (cpy cur (Ps.length + Xs.length) Ys).toList.drop (Ps.length + Xs.length) = Ys ++ cur.toList.drop (Ps.length + Xs.length + Ys.length) := by
    rw [hc, List.drop_append, List.drop_eq_nil_of_le om, hl, Nat.sub_self]; simp
  rw [cpy_list, e1, e2]
  have e3 : Ps ++ (Xs ++ (Ys ++ cur.toList.drop (Ps.length + Xs.length + Ys.length))) = (Ps ++ (Xs ++ Ys)) ++ cur.toList.drop (Ps.length + Xs.length + Ys.length) := by simp
  have e4 : Ps.length + Xs.length + Ys.length = (Ps ++ (Xs ++ Ys)).length := by simp [Nat.add_assoc]
  rw [e3, e4, List.take_append_of_le_length (Nat.le_refl _), List.take_length]
end six
end Go.Proofs.YtegngekpmpdngaaDoor
namespace Go.Proofs.YtegngekpmpdngaaDoor
open Go.RowKit
structure UF (n : Nat) (P rep ρ : Nat → Nat) : Prop where
  ex : ∀ i, i < n → P i ≠ i → ρ (P i) < ρ i
  lt : ∀ i, i < n → P i < n
  rl : ∀ i, i < n → rep i < n
  rr : ∀ i, i < n → P (rep i) = rep i
  rp : ∀ i, i < n → rep (P i) = rep i
  fx : ∀ i, i < n → P i = i → rep i = i
def setN (P : Nat → Nat) (t v x : Nat) : Nat := if x = t then v else P x
theorem setN_self (P : Nat → Nat) (t v : Nat) : setN P t v t = v := by simp [setN]
theorem setN_ne {P : Nat → Nat} {t v x : Nat} (h : x ≠ t) : setN P t v x = P x := by simp [setN, h]
namespace UF
variable {n : Nat} {P rep ρ : Nat → Nat}
theorem two (h : UF n P rep ρ) {i : Nat} (hi : i < n) : rep (rep i) = rep i := h.fx _ (h.rl i hi) (h.rr i hi)
def un (rep : Nat → Nat) (a b x : Nat) : Nat := if rep x = b then a else rep x
def rk (rep ρ : Nat → Nat) (a b x : Nat) : Nat := if rep x = b then ρ x + ρ a + 1 else ρ x
theorem join (h : UF n P rep ρ) {a b : Nat} (ha : a < n) (hb : b < n) (ra : rep a = a) (rb : rep b = b) (hne : a ≠ b) : UF n (setN P b a) (un rep a b) (rk rep ρ a b) := by
  have hab : ¬ rep a = b := fun e => hne (ra.symm.trans e)
  have pb : P b = b := by have := h.rr b hb; rwa [rb] at this
  have pa : P a = a := by have := h.rr a ha; rwa [ra] at this
  refine ⟨fun j hj hjn => ?_, fun j hj => ?_, fun j hj => ?_, fun j hj => ?_, fun j hj => ?_, fun j hj hjn => ?_⟩
  · by_cases e : j = b
    · subst e
      rw [setN_self]
      simp only [rk, if_neg hab, if_pos rb]
      omega
    · rw [setN_ne e] at hjn ⊢
      have h1 := h.ex j hj hjn
      simp only [rk, h.rp j hj]
      by_cases e2 : rep j = b
      · rw [if_pos e2, if_pos e2]; omega
      · rw [if_neg e2, if_neg e2]; exact h1
  · by_cases e : j = b
    · subst e; rw [setN_self]; exact ha
    · rw [setN_ne e]; exact h.lt j hj
  · unfold un; split
    · exact ha
    · exact h.rl j hj
  · unfold un
    by_cases e : rep j = b
    · rw [if_pos e, setN_ne hne]; exact pa
    · rw [if_neg e, setN_ne e]; exact h.rr j hj
  · unfold un
    by_cases e : j = b
    · subst e; rw [setN_self, if_neg hab, if_pos rb]; exact ra
    · rw [setN_ne e, h.rp j hj]
  · unfold un
    by_cases e : j = b
    · subst e; rw [setN_self] at hjn; exact absurd hjn hne
    · rw [setN_ne e] at hjn
      have := h.fx j hj hjn
      rw [this, if_neg e]
theorem more (h : UF n P rep ρ) {m : Nat} : UF (n + m) (fun x => if x < n then P x else x) (fun x => if x < n then rep x else x) ρ := by
  refine ⟨fun j hj hjn => ?_, fun j hj => ?_, fun j hj => ?_, fun j hj => ?_, fun j hj => ?_, fun j hj hjn => ?_⟩ <;> (try dsimp only at hjn) <;> (try dsimp only) <;> by_cases e : j < n
  · rw [if_pos e] at hjn ⊢; exact h.ex j e hjn
  · rw [if_neg e] at hjn; exact absurd rfl hjn
  · rw [if_pos e]; have := h.lt j e; omega
  · rw [if_neg e]; exact hj
  · rw [if_pos e]; have := h.rl j e; omega
  · rw [if_neg e]; exact hj
  · rw [if_pos e, if_pos (h.rl j e)]; exact h.rr j e
  · rw [if_neg e, if_neg e]
  · rw [if_pos e, if_pos (h.lt j e), if_pos e]; exact h.rp j e
  · rw [if_neg e, if_neg e]
  · rw [if_pos e] at hjn ⊢; exact h.fx j e hjn
  · rw [if_neg e]
theorem nil (P rep ρ : Nat → Nat) : UF 0 P rep ρ := ⟨fun _ h => absurd h (Nat.not_lt_zero _), fun _ h => absurd h (Nat.not_lt_zero _), fun _ h => absurd h (Nat.not_lt_zero _), fun _ h => absurd h (Nat.not_lt_zero _), fun _ h => absurd h (Nat.not_lt_zero _), fun _ h => absurd h (Nat.not_lt_zero _)⟩
end UF
def roots (n : Nat) (rep : Nat → Nat) : Nat := (List.range n).countP (fun i => decide (rep i = i))
def mergeL : List (Int × Int) → List (Int × Int) → List (Int × Int)
  | [], ys => ys
  | x :: xs, [] => x :: xs
  | x :: xs, y :: ys => if x.1 < y.1 then x :: mergeL xs (y :: ys) else if y.1 < x.1 then y :: mergeL (x :: xs) ys else x :: mergeL xs ys
termination_by xs ys => xs.length + ys.length
def newW : List (Int × Int) → List (Int × Int) → List (Int × Int)
  | [], _ => []
  | _ :: _, [] => []
  | x :: xs, y :: ys => if x.1 < y.1 then newW xs (y :: ys) else if y.1 < x.1 then newW (x :: xs) ys else (x.2, y.2) :: newW xs ys
termination_by xs ys => xs.length + ys.length
theorem merge_mem {z : Int × Int} : ∀ {xs ys : List (Int × Int)}, z ∈ mergeL xs ys → z ∈ xs ∨ z ∈ ys
  | [], ys, h => .inr (by simpa [mergeL] using h)
  | x :: xs, [], h => .inl (by simpa [mergeL] using h)
  | x :: xs, y :: ys, h => by
    unfold mergeL at h
    by_cases h1 : x.1 < y.1
    · rw [if_pos h1] at h
      rcases List.mem_cons.1 h with e | h
      · exact .inl (by simp [e])
      · rcases merge_mem h with h | h
        · exact .inl (List.mem_cons_of_mem _ h)
        · exact .inr h
    · rw [if_neg h1] at h
      by_cases h2 : y.1 < x.1
      · rw [if_pos h2] at h
        rcases List.mem_cons.1 h with e | h
        · exact .inr (by simp [e])
        · rcases merge_mem h with h | h
          · exact .inl h
          · exact .inr (List.mem_cons_of_mem _ h)
      · rw [if_neg h2] at h
        rcases List.mem_cons.1 h with e | h
        · exact .inl (by simp [e])
        · rcases merge_mem h with h | h
          · exact .inl (List.mem_cons_of_mem _ h)
          · exact .inr (List.mem_cons_of_mem _ h)
termination_by xs ys => xs.length + ys.length
theorem merge_left {z : Int × Int} : ∀ {xs ys : List (Int × Int)}, z ∈ xs → z ∈ mergeL xs ys
  | [], ys, h => by cases h
  | x :: xs, [], h => by simpa [mergeL] using h
  | x :: xs, y :: ys, h => by
    unfold mergeL
    by_cases h1 : x.1 < y.1
    · rw [if_pos h1]
      rcases List.mem_cons.1 h with e | h
      · simp [e]
      · exact List.mem_cons_of_mem _ (merge_left h)
    · rw [if_neg h1]
      by_cases h2 : y.1 < x.1
      · rw [if_pos h2]; exact List.mem_cons_of_mem _ (merge_left h)
      · rw [if_neg h2]
        rcases List.mem_cons.1 h with e | h
        · simp [e]
        · exact List.mem_cons_of_mem _ (merge_left h)
termination_by xs ys => xs.length + ys.length
theorem merge_right {z : Int × Int} : ∀ {xs ys : List (Int × Int)}, z ∈ ys → z ∈ mergeL xs ys ∨ ∃ t, (z.1, t) ∈ xs ∧ (t, z.2) ∈ newW xs ys
  | [], ys, h => .inl (by simpa [mergeL] using h)
  | x :: xs, [], h => by cases h
  | x :: xs, y :: ys, h => by
    unfold mergeL newW
    by_cases h1 : x.1 < y.1
    · rw [if_pos h1, if_pos h1]
      rcases merge_right (xs := xs) h with h | ⟨t, h3, h4⟩
      · exact .inl (List.mem_cons_of_mem _ h)
      · exact .inr ⟨t, List.mem_cons_of_mem _ h3, h4⟩
    · rw [if_neg h1, if_neg h1]
      by_cases h2 : y.1 < x.1
      · rw [if_pos h2, if_pos h2]
        rcases List.mem_cons.1 h with e | h
        · exact .inl (by simp [e])
        · rcases merge_right (xs := x :: xs) h with h | ⟨t, h3, h4⟩
          · exact .inl (List.mem_cons_of_mem _ h)
          · exact .inr ⟨t, h3, h4⟩
      · rw [if_neg h2, if_neg h2]
        rcases List.mem_cons.1 h with e | h
        · refine .inr ⟨x.2, ?_, ?_⟩
          · have : z.1 = x.1 := by rw [e]; omega
            rw [this]; exact List.mem_cons_self ..
          · rw [e]; exact List.mem_cons_self ..
        · rcases merge_right (xs := xs) h with h | ⟨t, h3, h4⟩
          · exact .inl (List.mem_cons_of_mem _ h)
          · exact .inr ⟨t, List.mem_cons_of_mem _ h3, List.mem_cons_of_mem _ h4⟩
termination_by xs ys => xs.length + ys.length
theorem newW_mem {p : Int × Int} : ∀ {xs ys : List (Int × Int)}, p ∈ newW xs ys → ∃ f, (f, p.1) ∈ xs ∧ (f, p.2) ∈ ys
  | [], ys, h => by simp [newW] at h
  | x :: xs, [], h => by simp [newW] at h
  | x :: xs, y :: ys, h => by
    unfold newW at h
    by_cases h1 : x.1 < y.1
    · rw [if_pos h1] at h
      obtain ⟨f, h3, h4⟩ := newW_mem h
      exact ⟨f, List.mem_cons_of_mem _ h3, h4⟩
    · rw [if_neg h1] at h
      by_cases h2 : y.1 < x.1
      · rw [if_pos h2] at h
        obtain ⟨f, h3, h4⟩ := newW_mem h
        exact ⟨f, h3, List.mem_cons_of_mem _ h4⟩
      · rw [if_neg h2] at h
        rcases List.mem_cons.1 h with e | h
        · refine ⟨x.1, ?_, ?_⟩
          · rw [e]; exact List.mem_cons_self ..
          · rw [e, show x.1 = y.1 by omega]; exact List.mem_cons_self ..
        · obtain ⟨f, h3, h4⟩ := newW_mem h
          exact ⟨f, List.mem_cons_of_mem _ h3, List.mem_cons_of_mem _ h4⟩
termination_by xs ys => xs.length + ys.length
theorem srt_merge : ∀ {xs ys : List (Int × Int)}, Srt xs → Srt ys → Srt (mergeL xs ys)
  | [], ys, _, h => by simpa [mergeL] using h
  | x :: xs, [], h, _ => by simpa [mergeL] using h
  | x :: xs, y :: ys, hx, hy => by
    obtain ⟨a1, a2⟩ := List.pairwise_cons.1 hx
    obtain ⟨b1, b2⟩ := List.pairwise_cons.1 hy
    unfold mergeL
    by_cases h1 : x.1 < y.1
    · rw [if_pos h1]
      refine List.pairwise_cons.2 ⟨fun z hz => ?_, srt_merge a2 hy⟩
      rcases merge_mem hz with h | h
      · exact a1 z h
      · rcases List.mem_cons.1 h with e | h
        · rw [e]; exact h1
        · have := b1 z h; omega
    · rw [if_neg h1]
      by_cases h2 : y.1 < x.1
      · rw [if_pos h2]
        refine List.pairwise_cons.2 ⟨fun z hz => ?_, srt_merge hx b2⟩
        rcases merge_mem hz with h | h
        · rcases List.mem_cons.1 h with e | h
          · rw [e]; exact h2
          · have := a1 z h; omega
        · exact b1 z h
      · rw [if_neg h2]
        refine List.pairwise_cons.2 ⟨fun z hz => ?_, srt_merge a2 b2⟩
        rcases merge_mem hz with h | h
        · exact a1 z h
        · have := b1 z h; omega
termination_by xs ys => xs.length + ys.length
structure Adm (l : List Ty) (U c : List Nd) (θ : Nat → Nat) : Prop where
  lt : ∀ i, i < U.length → θ i < c.length
  ty : ∀ i, i < U.length → sub l (nd c (θ i)).ty.toNat (nd U i).ty.toNat = true
  ln : ∀ i, i < U.length → ∀ x ∈ (nd U i).ln, tgt (nd c (θ i)).ln x.1 = ((θ x.2.toNat : Nat) : Int)
def Resp (n : Nat) (rep : Nat → Nat) (W : List (Int × Int)) (κ : Nat → Nat) : Prop := (∀ i, i < n → κ i = κ (rep i)) ∧ ∀ w ∈ W, κ w.1.toNat = κ w.2.toNat
structure US (l : List Ty) (U : List Nd) (J : List (Nat × Nat)) (P rep ρ : Nat → Nat) (T : Nat → Int) (L : Nat → List (Int × Int)) (W : List (Int × Int)) : Prop where
  uf : UF U.length P rep ρ
  ty : ∀ i, i < U.length → 0 ≤ T i ∧ T i < l.length
  srt : ∀ i, i < U.length → Srt (L i)
  wr : ∀ w ∈ W, (0 ≤ w.1 ∧ w.1.toNat < U.length) ∧ 0 ≤ w.2 ∧ w.2.toNat < U.length
  only : ∀ c θ, (∀ i, i < c.length → 0 ≤ (nd c i).ty ∧ (nd c i).ty < l.length) → Adm l U c θ → (∀ p ∈ J, θ p.1 = θ p.2) → Resp U.length rep W θ ∧ ∀ i, i < U.length → rep i = i → sub l (nd c (θ i)).ty.toNat (T i).toNat = true
  tcov : ∀ i, i < U.length → sub l (T (rep i)).toNat (nd U i).ty.toNat = true
  lcov : ∀ i, i < U.length → ∀ x ∈ (nd U i).ln, ∃ t, (x.1, t) ∈ L (rep i) ∧ ∀ κ, Resp U.length rep W κ → κ x.2.toNat = κ t.toNat
  jcov : ∀ p ∈ J, ∀ κ, Resp U.length rep W κ → κ p.1 = κ p.2
  val : ∀ i, i < U.length → rep i = i → ∀ x ∈ L i, ∃ u, u < U.length ∧ rep u = i ∧ x ∈ (nd U u).ln
  ur : ∀ i, i < U.length → ∀ x ∈ (nd U i).ln, 0 ≤ x.2 ∧ x.2.toNat < U.length
section us
variable {l : List Ty} {U : List Nd} {J : List (Nat × Nat)} {P rep ρ : Nat → Nat} {T : Nat → Int} {L : Nat → List (Int × Int)} {W : List (Int × Int)}
theorem US.skip {p : Int × Int} (h : US l U J P rep ρ T L (W ++ [p])) (he : rep p.1.toNat = rep p.2.toNat) : US l U J P rep ρ T L W := by
  have hp := h.wr p (by simp)
  have hr : ∀ κ, Resp U.length rep W κ → Resp U.length rep (W ++ [p]) κ := fun κ hκ => ⟨hκ.1, fun w hw => by
    rcases List.mem_append.1 hw with hw | hw
    · exact hκ.2 w hw
    · rw [List.mem_singleton.1 hw, hκ.1 _ hp.1.2, he, ← hκ.1 _ hp.2.2]⟩
  refine ⟨h.uf, h.ty, h.srt, fun w hw => h.wr w (by simp [hw]), fun c θ hc hθ hj => ?_, h.tcov, fun i hi x hx => ?_, fun p hp κ hκ => h.jcov p hp κ (hr κ hκ), h.val, h.ur⟩
  · obtain ⟨h1, h2⟩ := h.only c θ hc hθ hj
    exact ⟨⟨h1.1, fun w hw => h1.2 w (by simp [hw])⟩, h2⟩
  · obtain ⟨t, h1, h2⟩ := h.lcov i hi x hx
    exact ⟨t, h1, fun κ hκ => h2 κ (hr κ hκ)⟩
theorem US.join (hs : Sound l) {p : Int × Int} {a b m : Nat} (h : US l U J P rep ρ T L (W ++ [p])) (ha : rep p.1.toNat = a) (hb : rep p.2.toNat = b) (hne : a ≠ b) (hm : meet l (T a).toNat (T b).toNat = (m, true, false)) :
    US l U J (setN P b a) (UF.un rep a b) (UF.rk rep ρ a b) (fun x => if x = a then (m : Int) else T x) (fun x => if x = a then mergeL (L a) (L b) else L x) (W ++ newW (L a) (L b)) := by
  have hp := h.wr p (by simp)
  have hal : a < U.length := by rw [← ha]; exact h.uf.rl _ hp.1.2
  have hbl : b < U.length := by rw [← hb]; exact h.uf.rl _ hp.2.2
  have ra : rep a = a := by rw [← ha]; exact h.uf.two hp.1.2
  have rb : rep b = b := by rw [← hb]; exact h.uf.two hp.2.2
  obtain ⟨m1, m2, m3⟩ := meet_spec hs.le (a := (T a).toNat) (b := (T b).toNat) (by rw [hm])
  rw [hm] at m1 m2 m3
  simp only at m1 m2 m3
  have m2' : sub l m (T a).toNat = true ∧ sub l m (T b).toNat = true := by simpa [comm] using m2
  have hLr : ∀ i, i < U.length → rep i = i → ∀ x ∈ L i, ∃ u, u < U.length ∧ rep u = i ∧ x ∈ (nd U u).ln := h.val
  have un_a : ∀ x, UF.un rep a b x = a ↔ rep x = a ∨ rep x = b := fun x => by
    unfold UF.un
    by_cases e : rep x = b
    · simp [e]
    · simp [e]
  have un_o : ∀ x, ¬ (rep x = a ∨ rep x = b) → UF.un rep a b x = rep x := fun x hx => by
    unfold UF.un; rw [if_neg (fun e => hx (.inr e))]
  have hr : ∀ κ, Resp U.length (UF.un rep a b) (W ++ newW (L a) (L b)) κ → Resp U.length rep (W ++ [p]) κ := fun κ hκ => by
    have kb : κ b = κ a := by have := hκ.1 b hbl; rwa [(un_a b).2 (.inr rb)] at this
    have k1 : ∀ i, i < U.length → κ i = κ (rep i) := fun i hi => by
      have := hκ.1 i hi
      by_cases e : rep i = b
      · rw [(un_a i).2 (.inr e)] at this; rw [this, e, kb]
      · by_cases e2 : rep i = a
        · rw [(un_a i).2 (.inl e2)] at this; rw [this, e2]
        · rwa [un_o i (fun h => h.elim e2 e)] at this
    refine ⟨k1, fun w hw => ?_⟩
    rcases List.mem_append.1 hw with hw | hw
    · exact hκ.2 w (by simp [hw])
    · rw [List.mem_singleton.1 hw, k1 _ hp.1.2, k1 _ hp.2.2, ha, hb, kb]
  refine ⟨h.uf.join hal hbl ra rb hne, fun i hi => ?_, fun i hi => ?_, fun w hw => ?_, fun c θ hc hθ hj => ?_, fun i hi => ?_, fun i hi x hx => ?_, fun q hq κ hκ => h.jcov q hq κ (hr κ hκ), fun i hi hri x hx => ?_, h.ur⟩
  · (try dsimp only)
    split
    · omega
    · exact h.ty i hi
  · (try dsimp only)
    split
    · exact srt_merge (h.srt a hal) (h.srt b hbl)
    · exact h.srt i hi
  · rcases List.mem_append.1 hw with hw | hw
    · exact h.wr w (by simp [hw])
    · obtain ⟨f, f1, f2⟩ := newW_mem hw
      obtain ⟨u, u1, _, u2⟩ := h.val a hal ra _ f1
      obtain ⟨v, v1, _, v2⟩ := h.val b hbl rb _ f2
      have g1 := h.ur u u1 _ u2
      have g2 := h.ur v v1 _ v2
      exact ⟨g1, g2⟩
  · obtain ⟨h1, h2⟩ := h.only c θ hc hθ hj
    have ep := h1.2 p (by simp)
    have eab : θ a = θ b := by rw [← ha, ← hb, ← h1.1 _ hp.1.2, ← h1.1 _ hp.2.2]; exact ep
    have hlk : ∀ r, r < U.length → rep r = r → ∀ x ∈ L r, tgt (nd c (θ r)).ln x.1 = ((θ x.2.toNat : Nat) : Int) := fun r hr hrr x hx => by
      obtain ⟨u, hu, hur, hxu⟩ := h.val r hr hrr x hx
      have := hθ.ln u hu x hxu
      rw [h1.1 u hu, hur] at this
      exact this
    refine ⟨⟨fun i hi => ?_, fun w hw => ?_⟩, fun i hi hri => ?_⟩
    · have := h1.1 i hi
      by_cases e : rep i = b
      · rw [(un_a i).2 (.inr e), eab, this, e]
      · by_cases e2 : rep i = a
        · rw [(un_a i).2 (.inl e2), this, e2]
        · rw [un_o i (fun h => h.elim e2 e)]; exact this
    · rcases List.mem_append.1 hw with hw | hw
      · exact h1.2 w (by simp [hw])
      · obtain ⟨f, f1, f2⟩ := newW_mem hw
        have g1 := hlk a hal ra _ f1
        have g2 := hlk b hbl rb _ f2
        rw [← eab, g1] at g2
        exact Int.ofNat.inj g2
    · (try dsimp only)
      by_cases e : i = a
      · subst e
        rw [if_pos rfl]
        have s1 := h2 i hal ra
        have s2 := h2 b hbl rb
        rw [← eab] at s2
        have hct := hc _ (hθ.lt i hal)
        have := m3 (nd c (θ i)).ty.toNat om (by simp [comm, s1, s2])
        rw [Int.toNat_natCast]; exact this
      · rw [if_neg e]
        refine h2 i hi ?_
        by_cases e2 : rep i = a ∨ rep i = b
        · rw [(un_a i).2 e2] at hri; exact absurd hri.symm e
        · rwa [un_o i e2] at hri
  · have ht := h.tcov i hi
    (try dsimp only)
    by_cases e : rep i = a ∨ rep i = b
    · rw [(un_a i).2 e, if_pos rfl, Int.toNat_natCast]
      rcases e with e | e
      · rw [e] at ht; exact sub_tr hs.vt m2'.1 ht
      · rw [e] at ht; exact sub_tr hs.vt m2'.2 ht
    · rw [un_o i e, if_neg (fun e2 => e (.inl e2))]; exact ht
  · obtain ⟨t, h1, h2⟩ := h.lcov i hi x hx
    (try dsimp only)
    by_cases e : rep i = a ∨ rep i = b
    · rw [(un_a i).2 e, if_pos rfl]
      rcases e with e | e
      · rw [e] at h1
        exact ⟨t, merge_left h1, fun κ hκ => h2 κ (hr κ hκ)⟩
      · rw [e] at h1
        rcases merge_right (xs := L a) h1 with h3 | ⟨s, h3, h4⟩
        · exact ⟨t, h3, fun κ hκ => h2 κ (hr κ hκ)⟩
        · refine ⟨s, merge_left h3, fun κ hκ => ?_⟩
          have := hκ.2 _ (List.mem_append_right _ h4)
          rw [h2 κ (hr κ hκ)]; exact this.symm
    · rw [un_o i e, if_neg (fun e2 => e (.inl e2))]
      exact ⟨t, h1, fun κ hκ => h2 κ (hr κ hκ)⟩
  · (try dsimp only at hx)
    by_cases e : i = a
    · subst e
      rw [if_pos rfl] at hx
      rcases merge_mem hx with hx | hx
      · obtain ⟨u, h1, h2, h3⟩ := h.val i hal ra x hx
        exact ⟨u, h1, (un_a u).2 (.inl h2), h3⟩
      · obtain ⟨u, h1, h2, h3⟩ := h.val b hbl rb x hx
        exact ⟨u, h1, (un_a u).2 (.inr h2), h3⟩
    · rw [if_neg e] at hx
      have e2 : ¬ (rep i = a ∨ rep i = b) := fun e2 => by rw [(un_a i).2 e2] at hri; exact e hri.symm
      have hri2 := hri
      rw [un_o i e2] at hri2
      obtain ⟨u, h1, h2, h3⟩ := h.val i hi hri2 x hx
      refine ⟨u, h1, ?_, h3⟩
      rw [un_o u (by rw [h2, ← hri2]; exact e2), h2]
theorem US.push (h : US l U J P rep ρ T L []) {a b : Nat} (ha : a < U.length) (hb : b < U.length) : US l U (J ++ [(a, b)]) P rep ρ T L [((a : Int), (b : Int))] := by
  have hr : ∀ κ, Resp U.length rep [((a : Int), (b : Int))] κ → Resp U.length rep [] κ := fun κ hκ => ⟨hκ.1, fun w hw => by cases hw⟩
  refine ⟨h.uf, h.ty, h.srt, fun w hw => ?_, fun c θ hc hθ hj => ?_, h.tcov, fun i hi x hx => ?_, fun q hq κ hκ => ?_, h.val, h.ur⟩
  · rw [List.mem_singleton.1 hw]; simp only [Int.toNat_natCast]; omega
  · obtain ⟨h1, h2⟩ := h.only c θ hc hθ (fun q hq => hj q (by simp [hq]))
    refine ⟨⟨h1.1, fun w hw => ?_⟩, h2⟩
    rw [List.mem_singleton.1 hw]
    simp only [Int.toNat_natCast]
    exact hj (a, b) (by simp)
  · obtain ⟨t, h1, h2⟩ := h.lcov i hi x hx
    exact ⟨t, h1, fun κ hκ => h2 κ (hr κ hκ)⟩
  · rcases List.mem_append.1 hq with hq | hq
    · exact h.jcov q hq κ (hr κ hκ)
    · rw [List.mem_singleton.1 hq]
      have := hκ.2 _ (List.mem_singleton.2 rfl)
      simpa using this
def shN (k : Nat) (x : Nd) : Nd := ⟨x.ty, x.ln.map (fun y => (y.1, y.2 + (k : Int)))⟩
theorem nd_left {U V : List Nd} {i : Nat} (h : i < U.length) : nd (U ++ V) i = nd U i := by simp [nd, List.getD, List.getElem?_append_left h]
theorem nd_right {U g : List Nd} {i : Nat} (h : i < g.length) : nd (U ++ g.map (shN U.length)) (U.length + i) = shN U.length (nd g i) := by
  simp [nd, List.getD, h]
theorem US.add {g : List Nd} (h : US l U J P rep ρ T L []) (hg : GY l g) (_hJ : ∀ p ∈ J, p.1 < U.length ∧ p.2 < U.length) :
    US l (U ++ g.map (shN U.length)) J (fun x => if x < U.length then P x else x) (fun x => if x < U.length then rep x else x) ρ (fun x => if x < U.length then T x else (nd g (x - U.length)).ty) (fun x => if x < U.length then L x else (nd g (x - U.length)).ln.map (fun y => (y.1, y.2 + (U.length : Int)))) [] := by
  have hlen : (U ++ g.map (shN U.length)).length = U.length + g.length := by simp
  have hnd : ∀ i, i < U.length + g.length → ¬ i < U.length → nd (U ++ g.map (shN U.length)) i = shN U.length (nd g (i - U.length)) ∧ i - U.length < g.length := fun i hi hn => by
    have e : i = U.length + (i - U.length) := by omega
    have hlt : i - U.length < g.length := by omega
    refine ⟨?_, hlt⟩
    have := nd_right (U := U) hlt
    rwa [← e] at this
  have hro : ∀ κ, Resp (U ++ g.map (shN U.length)).length (fun x => if x < U.length then rep x else x) [] κ → Resp U.length rep [] κ := fun κ hκ => ⟨fun i hi => by
    have := hκ.1 i (by rw [hlen]; omega)
    simpa [hi] using this, fun w hw => by cases hw⟩
  refine ⟨by rw [hlen]; exact h.uf.more, fun i hi => ?_, fun i hi => ?_, (fun w hw => by cases hw), fun c θ hc hθ hj => ?_, fun i hi => ?_, fun i hi x hx => ?_, fun q hq κ hκ => h.jcov q hq κ (hro κ hκ), fun i hi hri x hx => ?_, fun i hi x hx => ?_⟩ <;> (try rw [hlen] at hi)
  · (try dsimp only)
    by_cases e : i < U.length
    · rw [if_pos e]; exact h.ty i e
    · rw [if_neg e]; exact hg.tr _ (hnd i hi e).2
  · (try dsimp only)
    by_cases e : i < U.length
    · rw [if_pos e]; exact h.srt i e
    · rw [if_neg e]; exact List.pairwise_map.2 (hg.srt _ (hnd i hi e).2)
  · have hθU : Adm l U c θ := ⟨fun i hi => hθ.lt i (by rw [hlen]; omega), fun i hi => by
      have := hθ.ty i (by rw [hlen]; omega)
      rwa [nd_left hi] at this, fun i hi x hx => hθ.ln i (by rw [hlen]; omega) x (by rw [nd_left hi]; exact hx)⟩
    obtain ⟨h1, h2⟩ := h.only c θ hc hθU hj
    refine ⟨⟨fun i hi => ?_, fun w hw => by cases hw⟩, fun i hi hri => ?_⟩
    · (try dsimp only)
      by_cases e : i < U.length
      · rw [if_pos e]; exact h1.1 i e
      · rw [if_neg e]
    · (try dsimp only at hri ⊢)
      by_cases e : i < U.length
      · rw [if_pos e] at hri ⊢; exact h2 i e hri
      · rw [if_neg e]
        have := hθ.ty i hi
        rw [hlen] at hi
        rwa [(hnd i hi e).1] at this
  · (try dsimp only)
    by_cases e : i < U.length
    · rw [if_pos e, if_pos (h.uf.rl i e), nd_left e]; exact h.tcov i e
    · rw [if_neg e, if_neg e, (hnd i hi e).1]; exact sub_refl hg.vt _
  · (try dsimp only)
    by_cases e : i < U.length
    · rw [nd_left e] at hx
      obtain ⟨t, h1, h2⟩ := h.lcov i e x hx
      refine ⟨t, ?_, fun κ hκ => h2 κ (hro κ hκ)⟩
      rw [if_pos e, if_pos (h.uf.rl i e)]; exact h1
    · rw [(hnd i hi e).1] at hx
      refine ⟨x.2, ?_, fun κ _ => rfl⟩
      rw [if_neg e, if_neg e]; exact hx
  · (try dsimp only at hri hx)
    by_cases e : i < U.length
    · rw [if_pos e] at hri hx
      obtain ⟨u, h1, h2, h3⟩ := h.val i e hri x hx
      exact ⟨u, by rw [hlen]; omega, by rw [if_pos h1]; exact h2, by rw [nd_left h1]; exact h3⟩
    · rw [if_neg e] at hx
      exact ⟨i, by rw [hlen]; exact hi, by rw [if_neg e], by rw [(hnd i hi e).1]; exact hx⟩
  · by_cases e : i < U.length
    · rw [nd_left e] at hx
      have := h.ur i e x hx
      rw [hlen]; omega
    · obtain ⟨h1, h2⟩ := hnd i hi e
      rw [h1] at hx
      obtain ⟨y, hy, rfl⟩ := List.mem_map.1 hx
      have := hg.lr _ h2 y hy
      simp only [hlen]; omega
theorem US.nil {P rep ρ : Nat → Nat} {T : Nat → Int} {L : Nat → List (Int × Int)} : US l [] [] P rep ρ T L [] :=
  ⟨UF.nil _ _ _, fun _ h => absurd h (Nat.not_lt_zero _), fun _ h => absurd h (Nat.not_lt_zero _), fun _ h => (by cases h), fun _ _ _ _ _ => ⟨⟨fun _ h => absurd h (Nat.not_lt_zero _), fun _ h => (by cases h)⟩, fun _ h => absurd h (Nat.not_lt_zero _)⟩, fun _ h => absurd h (Nat.not_lt_zero _), fun _ h => absurd h (Nat.not_lt_zero _), fun _ h => (by cases h), fun _ h => absurd h (Nat.not_lt_zero _), fun _ h => absurd h (Nat.not_lt_zero _)⟩
def poolG (n : Nat) (rep : Nat → Nat) (T : Nat → Int) (L : Nat → List (Int × Int)) : List Nd := (List.range n).map (fun i => ⟨T i, if rep i = i then (L i).map (fun x => (x.1, ((rep x.2.toNat : Nat) : Int))) else []⟩)
theorem poolG_len (n : Nat) (rep : Nat → Nat) (T : Nat → Int) (L : Nat → List (Int × Int)) : (poolG n rep T L).length = n := by simp [poolG]
theorem poolG_nd {n : Nat} {rep : Nat → Nat} {T : Nat → Int} {L : Nat → List (Int × Int)} {i : Nat} (hi : i < n) : nd (poolG n rep T L) i = ⟨T i, if rep i = i then (L i).map (fun x => (x.1, ((rep x.2.toNat : Nat) : Int))) else []⟩ := by
  rw [nd_eq (by rw [poolG_len]; exact hi)]; simp [poolG]
theorem US.roots (h : US l U J P rep ρ T L []) {r : Nat} (_hr : r < U.length) (hrr : rep r = r) {o : List Nat} (t : TrR (poolG U.length rep T L) r o) : ∀ x ∈ o, x < U.length ∧ rep x = x := by
  have hw := DL.within (o := o.filter (fun x => decide (rep x = x))) (g := poolG U.length rep T L) (fun x hx z hz => by
    simp only [List.mem_filter, decide_eq_true_eq] at hx ⊢
    refine ⟨t.clo x hx.1 z hz, ?_⟩
    have hxl := t.lt hx.1
    rw [poolG_len] at hxl
    simp only [succN, poolG_nd hxl, if_pos hx.2, List.mem_map] at hz
    obtain ⟨_, ⟨y, hy, rfl⟩, rfl⟩ := hz
    obtain ⟨u, h1, _, h3⟩ := h.val x hxl hx.2 y hy
    have := h.ur u h1 y h3
    simp only [Int.toNat_natCast]
    exact h.uf.two this.2) t.dl (fun z hz => by
      rw [List.mem_singleton.1 hz]
      simp only [List.mem_filter, decide_eq_true_eq]
      exact ⟨t.has, hrr⟩) (fun x hx => by cases hx)
  intro x hx
  have := hw x hx
  simp only [List.mem_filter, decide_eq_true_eq] at this
  have hl := t.lt hx
  rw [poolG_len] at hl
  exact ⟨hl, this.2⟩
end us
end Go.Proofs.YtegngekpmpdngaaDoor
