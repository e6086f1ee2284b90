/- The engine's sixth part: copy, zeros appended to a slice, functions that the model has itself, a drawn region in which an operation changes what another one has made. What these functions of the program compute, at every world: glosswright/term.Name, glosswright/hierarchy.fault. -/
import Derived.Test.YteoncmfiiknfbaaDoorEng4
import Derived.Laws.CopyRow
import Derived.Laws.Externs
import Derived.Lib.Overlaps
import Derived.Test.YteoncmfiiknfbaaDoorProg
namespace Go.Proofs.YteoncmfiiknfbaaDoor
open Go.RowKit
section six
variable {P : Program} {Q : Exit → Act → World → Prop} {n : Nat} {f : Fr} {w : World} {ops : Array Oper} {rest : List Oper} {d : Tmp} {ty t e : TypeId} {pos : String} {af : Array Edge} {x y : Operand} {v : Value}
/-- what stands in a row behind a copy -/
def cpy (cur : Array Value) (o : Nat) (cs : List Value) : Array Value := (cur.toList.take o ++ cs ++ cur.toList.drop (o + cs.length)).toArray
theorem cpy_size {cur : Array Value} {o : Nat} {cs : List Value} (h : o + cs.length ≤ cur.size) : (cpy cur o cs).size = cur.size := by
  unfold cpy
  simp only [List.size_toArray, List.length_append, List.length_take, List.length_drop, Array.length_toList]
  omega
theorem run_copyC {sz g o dLen dCap sLen sCap m : Nat} {a : Addr} {cur : Array Value} {cs : List Value} {e' sT : TypeId} (hu : P.underlying t = some (.slice e)) (hs : (P.info? e).map (·.size) = some sz)
    (hg : Blk w g e' cur) (hn : Nat.min sLen dLen = m) (hl : cs.length = m * sz) (hsrc : ∀ j v, cs[j]? = some v → w.cell? (a.add j) = some v) (hfit : o + cs.length ≤ cur.size) (h1 : ∀ v ∈ cs, v.oneCell' = true) :
    (Builtin.copy_ #[t, sT] ty #[.slice (some ⟨g, o, none⟩) dLen dCap, .slice (some a) sLen sCap]).run P w = .ok (goInt m) (w.setRow g (cpy cur o cs)) := by
  have hld := run_loadCells_list (P := P) w a cs hsrc
  have hst := run_storeCells_at P g o e' cs 0 cur w hg (by simpa using hfit) h1
  cases hq : P.info? e with
  | none => simp [hq] at hs
  | some i =>
    have hi : i.size = sz := by simpa [hq] using hs
    simp [Builtin.copy_, run_underlying hu, Builtin.lenOf, Builtin.firstCells, sizeOf, typeInfo, hq, hi, hn, ← hl, hld, hst, cpy]
theorem wl_cp {sz g o dLen dCap sLen sCap m : Nat} {a : Addr} {cur : Array Value} {cs : List Value} {e' : TypeId} (hu : P.underlying t = some (.slice e)) (hs : (P.info? e).map (·.size) = some sz) (hx : ev n f x = .slice (some ⟨g, o, none⟩) dLen dCap) (hy : ev n f y = .slice (some a) sLen sCap)
    (hg : Blk w g e' cur) (hn : Nat.min sLen dLen = m) (hl : cs.length = m * sz) (hsrc : ∀ j v, cs[j]? = some v → w.cell? (a.add j) = some v) (hfit : o + cs.length ≤ cur.size) (h1 : ∀ v ∈ cs, v.oneCell' = true)
    (K : ∀ w1, Blk w1 g e' (cpy cur o cs) → Same [g] w w1 → WL P ops Q rest n (upd f d (goInt m)) w1) :
    WL P ops Q (⟨some d, .call { callee := .builtin .copy, args := #[x, y], argTypes := #[t, t] }, ty, pos, af, none⟩ :: rest) n f w := by
  have hr := run_copyC (P := P) (ty := ty) (sT := t) (dCap := dCap) (sCap := sCap) hu hs hg hn hl hsrc hfit h1
  refine wl (v := goInt m) (w' := w.setRow g (cpy cur o cs)) ?_ (K _ (setRow_heap w g cur _ e' _ hg) (same_setRow w g _))
  simp only [RV, execOp, resolve, invoke, builtin, Sem.run_bind, Sem.run_pure, Result.andThen_ok, List.map_toArray, List.map_cons, List.map_nil, hx, hy, hr]
/-- zeros appended to a slice that has no room for them -/
theorem wl_appZ2 {tn : TypeId} {zv : Value} {sz by' k m cap g : Nat} {olds : List Value} (hu : P.underlying t = some (.slice e)) (hn : P.underlying tn = some (.int .i64)) (hi : (P.info? e).map (fun i => (i.zero, i.size, i.bytes)) = some (some zv, sz, by')) (h0 : 0 < k) (hs : 0 < sz) (hroom : cap < m + k) (hb : (m + k) * by' ≤ 140737488355328) (h63 : m + k ≤ 4611686018427387904)
    (hx : ev n f x = .slice (some ⟨g, 0, none⟩) m cap) (hy : ev n f y = .int .i64 (k : Int)) (hl : olds.length = m * sz) (hsrc : ∀ j v, olds[j]? = some v → w.cell? ⟨g, j, none⟩ = some v)
    (K : ∀ b cap' w1, Blk w1 b e (olds.toArray ++ Builtin.zeroCells zv.cells k ++ Builtin.zeroCells zv.cells (cap' - (m + k))) → Same [] w w1 → w.heap.size ≤ b → m + k ≤ cap' → cap' ≤ 9223372036854775807 → WL P ops Q rest n (upd f d (.slice (some ⟨b, 0, none⟩) (m + k) cap')) w1) :
    WL P ops Q (⟨some d, .call { callee := .builtin .append, args := #[x, y], argTypes := #[t, tn] }, ty, pos, af, none⟩ :: rest) n f w := by
  obtain ⟨i, hq, hzz⟩ := Option.map_eq_some_iff.1 hi
  simp only [Prod.mk.injEq] at hzz
  obtain ⟨z1, z2, z3⟩ := hzz
  have hld := run_loadCells_list (P := P) w.drew ⟨g, 0, none⟩ olds (fun j v hj => by
    rw [Addr.add_mid, Nat.zero_add]; exact hsrc j v hj)
  have hold : (Builtin.firstCells i.size m (.slice (some ⟨g, 0, none⟩) m cap)).run P w.drew = .ok olds.toArray w.drew := by
    simp only [Builtin.firstCells, z2, ← hl, hld]
  have hfit := growslice_fits (need := m + k) (old := cap) (bytes := i.bytes) hroom (by rw [z3]; exact hb)
  have hkb : k * by' ≤ (m + k) * by' := Nat.mul_le_mul_right _ (Nat.le_add_left _ _)
  have hr := Lib.run_append_grow_zeros w t tn ty e i zv .i64 .i64 hu hn hq z1 (some ⟨g, 0, none⟩) m cap olds hold k h0 (by omega) hroom (by omega) (by rw [z3]; omega) hfit
  have hge := grownCap_ge w (m + k) cap e
  have hle := grownCap_le_maxLen w (m + k) cap e (by unfold maxLen; omega)
  generalize grownCap w (m + k) cap e = C at hr hge hle
  refine wl (v := .slice (some ⟨w.heap.size, 0, none⟩) (m + k) C) (w' := w.drew.alloc (.cells (olds.toArray ++ Builtin.zeroCells zv.cells k ++ Builtin.zeroCells zv.cells (C - (m + k))) e)) ?_ (K _ _ _ ?_ ?_ (Nat.le_refl _) hge (by unfold maxLen at hle; omega))
  · simp only [RV, execOp, resolve, invoke, builtin, Sem.run_bind, Sem.run_pure, Result.andThen_ok, List.map_toArray, List.map_cons, List.map_nil, hx, hy, hr]
  · exact heap_alloc_new w.drew _
  · have hd : Same [] w w.drew := ⟨rfl, rfl, rfl, Nat.le_refl _, fun _ _ _ => rfl⟩
    exact hd.trans (same_alloc w.drew _)
/-- a function that the model has itself -/
theorem r_ext {F : FuncId} {xs : Array Operand} {ats : Array TypeId} {args : List Value} {dst : Option Nat} {gd : Option (Nat × Bool)} (h : (callFunc F args.toArray).run P w = .ok (.value v) w) (hargs : xs.toList.map (ev n f) = args) :
    RV P n f w ⟨dst, .call { callee := .value (.func F), args := xs, argTypes := ats }, ty, pos, af, gd⟩ v w := by
  subst hargs
  have hm : (xs.toList.map (ev n f)).toArray = xs.map (ev n f) := by rw [← Array.toList_map, Array.toArray_toList]
  rw [hm] at h
  simp [RV, execOp, resolve, ev, Deferred.ofValue, invoke, h]
theorem shape_blk {b : Nat} {cs : Array Value} (h : Blk w b t cs) : w.shape? b = some (t, cs.size) := by
  unfold Blk at h; simp [World.shape?, h]
theorem frozen_blk {b o : Nat} {cs : Array Value} (h : Blk w b t cs) : w.frozen? ⟨b, o, none⟩ = false := by
  unfold Blk at h; simp [World.frozen?, h]
theorem run_apart {F : FuncId} {fn : Func} {tR tA tB : TypeId} {a b la ca lb cb oa ob sz : Nat} {ka kb : Array Value} (hf : P.funcs[F]? = some fn) (hname : (fn.name == "runtime.NumGoroutine") = false) (hb : fn.body.isNone = true) (hn : Extern.findNext fn = none) (he : Extern.find fn = some (Extern.SlicesOverlaps.overlaps #[t, t] #[tR]))
    (hu : P.underlying t = some (.slice e)) (hz : (P.info? e).map (·.size) = some sz) (ha : Blk w a tA ka) (hb2 : Blk w b tB kb) (hne : a ≠ b) (hk : kb.size ≠ 0) :
    (callFunc F #[.slice (some ⟨a, oa, none⟩) la ca, .slice (some ⟨b, ob, none⟩) lb cb]).run P w = .ok (.value (.bool false)) w := by
  have hsz : ∀ w, (Go.sizeOf e).run P w = .ok sz w := fun w => by
    cases hq : P.info? e with
    | none => simp [hq] at hz
    | some i =>
      have hi : i.size = sz := by simpa [hq] using hz
      simp [Go.sizeOf, typeInfo, hq, hi]
  rw [run_callFunc_extern hf hname hb hn he, Lib.run_overlaps_apart w t tR e hu sz hsz ⟨a, oa, none⟩ ⟨b, ob, none⟩ la ca lb cb hne tA tB ka.size kb.size (shape_blk ha) (shape_blk hb2) hk (frozen_blk ha) (frozen_blk ha)]
  rfl
/-- a region that draws its order, in which one operation changes blocks that the region has made; R tells whether it is done -/
theorem c_monoZ {id : Nat} {l : List Oper} (m : Nat) (S : List Nat) (s : Nat) (R : Bool → Nat → Value → Nat → Nat → World → Prop) (hm : P.follows .mixedOrders = true) (hB : monoT l m S = true)
    (hst : ∀ b i v la ha w w', R b i v la ha w → Same [] w w' → R b i v la ha w')
    (step : ∀ b i o, i < m → i ≠ s → l[i]? = some o → ∀ f' w' (la ha : Nat → Nat), Same [] w w' → Ag S f' f → (∀ j ∈ deps o, R b j (f' (dstOf l.toArray j)) (la j) (ha j) w') → OS P n f' w' o (fun v w'' => Same [] w' w'' ∧ R b i v w'.heap.size w''.heap.size w''))
    (stepS : ∀ o, l[s]? = some o → ∀ f' w' (la ha : Nat → Nat), Same [] w w' → Ag S f' f → (∀ j ∈ deps o, R false j (f' (dstOf l.toArray j)) (la j) (ha j) w') → (∀ i j, i ∈ deps o → j ∈ deps o → i ≠ j → ha i ≤ la j ∨ ha j ≤ la i) → OS P n f' w' o (fun v w'' => Same [] w w'' ∧ w'.heap.size ≤ w''.heap.size ∧ R true s v w'.heap.size w''.heap.size w'' ∧ ∀ k v x y, k ≠ s → R false k v x y w' → R true k v x y w''))
    (hsm : s < m)
    (fin : ∀ f' w' (la ha : Nat → Nat), Same [] w w' → Ag S f' f → (∀ i, i < m → R true i (f' (dstOf l.toArray i)) (la i) (ha i) w') → WL P l.toArray Q (l.drop m) n f' w') : WC P (.region id l.toArray true) Q n f w := by
  unfold WC
  refine wp_region_any hm ?_
  simp only [monoT, Bool.and_eq_true, List.all_eq_true, List.mem_range, decide_eq_true_eq] at hB
  obtain ⟨⟨hh, hlen⟩, hl⟩ := hB
  have hget : ∀ i, i < m → ∃ o d, l[i]? = some o ∧ o.dst = some d ∧ mem S d = true ∧ o.guard = none ∧ (∀ j ∈ deps o, j < i) ∧ (∀ j, j < m → i ≠ j → dstOf l.toArray i ≠ dstOf l.toArray j) ∧ dstOf l.toArray i = d := by
    intro i hi
    have h := hh i hi
    cases ho : l[i]? with
    | none => simp [ho] at h
    | some o =>
      simp only [ho, Bool.and_eq_true] at h
      obtain ⟨⟨⟨h1, h2⟩, h3⟩, h4⟩ := h
      cases hd : o.dst with
      | none => simp [hd] at h1
      | some d =>
        simp only [hd] at h1
        refine ⟨o, d, rfl, hd, h1, by simpa using h2, fun j hj => by simpa using List.all_eq_true.1 h3 j hj, fun j hj hne => ?_, by simp [dstOf, ho, hd]⟩
        have := List.all_eq_true.1 h4 j (List.mem_range.2 hj)
        simpa [hne] using this
  have ready_of : ∀ (listed : Array Bool) (i : Nat) (o : Oper), listed.size = l.length → l[i]? = some o → listed.getD i false = false → (∀ j ∈ deps o, listed.getD j false = true) → i ∈ Region.ready .any l.toArray listed := by
    intro listed i o hs ho hn hd
    have hi : i < l.length := (List.getElem?_eq_some_iff.1 ho).1
    simp only [Region.ready, List.mem_filter, List.mem_range, Bool.and_eq_true, Bool.not_eq_true']
    refine ⟨by simpa using hi, ?_, ?_⟩
    · simp only [Array.getD_eq_getD_getElem?] at hn ⊢
      have : i < listed.size := by omega
      simp only [Array.getElem?_eq_getElem this, Option.getD_some] at hn ⊢
      exact hn
    · simp only [List.getElem?_toArray, ho, Option.map_some, Option.getD_some]
      exact all_of_deps hd
  have ready_inv : ∀ (listed : Array Bool) (i : Nat), i ∈ Region.ready .any l.toArray listed → ∃ o, l[i]? = some o ∧ listed.getD i false = false ∧ ∀ j ∈ deps o, listed.getD j false = true := by
    intro listed i hi
    simp only [Region.ready, List.mem_filter, List.mem_range, Bool.and_eq_true, Bool.not_eq_true'] at hi
    obtain ⟨hi, hn, hd⟩ := hi
    have hi' : i < l.length := by simpa using hi
    refine ⟨l[i], List.getElem?_eq_getElem hi', ?_, ?_⟩
    · simp only [Array.getD_eq_getD_getElem?] at hn ⊢
      cases hq : listed[i]? with
      | none => rfl
      | some b => simpa [hq] using hn
    · simp only [List.getElem?_toArray, List.getElem?_eq_getElem hi', Option.map_some, Option.getD_some] at hd
      exact deps_mem hd
  have key : ∀ (fuel : Nat) (listed : Array Bool) (f' : Fr) (w' : World) (la ha : Nat → Nat), listed.size = l.length → Dn l listed → (∀ t, m ≤ t → listed.getD t false = false) → Same [] w w' → Ag S f' f → (∀ i, i < m → listed.getD i false = true → R (listed.getD s false) i (f' (dstOf l.toArray i)) (la i) (ha i) w') → (∀ i, i < m → listed.getD i false = true → ha i ≤ w'.heap.size) → (∀ i j, i < m → j < m → i ≠ j → listed.getD i false = true → listed.getD j false = true → ha i ≤ la j ∨ ha j ≤ la i) →
      (List.range m).countP (fun i => !listed.getD i false) + (l.length - m) ≤ fuel → wpAny P .any l.toArray Q fuel listed (AF n f') w' := by
    intro fuel
    induction fuel with
    | zero =>
      intro listed f' w' la ha hs hD ht hSX hag hR hH hI hc
      have hlm : l.length = m := by omega
      have hall : ∀ i, i < m → listed.getD i false = true := by
        intro i hi
        have h0 : (List.range m).countP (fun i => !listed.getD i false) = 0 := by omega
        rw [List.countP_eq_zero] at h0
        have := h0 i (List.mem_range.2 hi)
        simpa using this
      refine ⟨?_, ?_⟩
      · cases hr : Region.ready .any l.toArray listed with
        | nil => rfl
        | cons i r =>
          have hi : i ∈ Region.ready .any l.toArray listed := by rw [hr]; simp
          obtain ⟨o, ho, hn, _⟩ := ready_inv listed i hi
          have : i < l.length := (List.getElem?_eq_some_iff.1 ho).1
          rw [hall i (by omega)] at hn; cases hn
      · have := fin f' w' la ha hSX hag (fun i hi => by have := hR i hi (hall i hi); rwa [hall s hsm] at this)
        rw [List.drop_eq_nil_of_le (by omega)] at this
        unfold WL at this; exact this
    | succ fuel ih =>
      intro listed f' w' la ha hs hD ht hSX hag hR hH hI hc
      refine ⟨fun hr => ?_, fun i hi => ?_⟩
      · -- nothing is ready: all is done
        have hall : ∀ k, k ≤ m → ∀ i, i < k → listed.getD i false = true := by
          intro k
          induction k with
          | zero => intro _ i hi; omega
          | succ k ihk =>
            intro hk i hi
            have ihk' := ihk (by omega)
            by_cases hik : i < k
            · exact ihk' i hik
            · have : i = k := by omega
              subst this
              cases hb : listed.getD i false with
              | true => rfl
              | false =>
                obtain ⟨o, d, ho, _, _, _, hd, _, _⟩ := hget i (by omega)
                have := ready_of listed i o hs ho hb (fun j hj => ihk' j (hd j hj))
                rw [hr] at this; cases this
        have hlm : l.length = m := by
          rcases Nat.lt_or_ge m l.length with hm' | hm'
          · exfalso
            have ho : l[m]? = some l[m] := List.getElem?_eq_getElem hm'
            have hd : ∀ j ∈ deps l[m], listed.getD j false = true := fun j hj => hall m (Nat.le_refl _) j (tail_dep (hl m hm') (by omega) ho j hj)
            have := ready_of listed m _ hs ho (ht m (Nat.le_refl _)) hd
            rw [hr] at this; cases this
          · omega
        have := fin f' w' la ha hSX hag (fun i hi => by have := hR i hi (hall m (Nat.le_refl _) i hi); rwa [hall m (Nat.le_refl _) s hsm] at this)
        rw [List.drop_eq_nil_of_le (by omega)] at this
        unfold WL at this; exact this
      · obtain ⟨o, ho, hn, hd⟩ := ready_inv listed i hi
        have hil : i < l.length := (List.getElem?_eq_some_iff.1 ho).1
        unfold wpOp
        simp only [List.getElem?_toArray, ho]
        by_cases him : i < m
        · obtain ⟨o', d, ho', hdst, hSd, hg, hdl, hdd, hde⟩ := hget i him
          rw [ho] at ho'
          cases ho'
          have hnw : o.guard = none := hg
          rw [if_pos (by simp [Region.wanted, hnw])]
          left
          have next : ∀ v w'' (bb : Bool), Same [] w w'' → w'.heap.size ≤ w''.heap.size → bb = (listed.setIfInBounds i true).getD s false → R bb i v w'.heap.size w''.heap.size w'' → (∀ k v la ha, k ≠ i → R (listed.getD s false) k v la ha w' → R bb k v la ha w'') → wpAny P .any l.toArray Q fuel (listed.setIfInBounds i true) (AF n (upd f' d v)) w'' := by
            intro v w'' bb hsX hsz hbb hr1 hro
            have hother : ∀ j, j < m → i ≠ j → upd f' d v (dstOf l.toArray j) = f' (dstOf l.toArray j) := fun j hj hij => by
              have hne := hdd j hj hij
              rw [hde] at hne
              simp only [upd]
              have : Nat.beq (dstOf l.toArray j) d = false := by
                cases hb : Nat.beq (dstOf l.toArray j) d
                · rfl
                · exact absurd (Nat.eq_of_beq_eq_true hb).symm hne
              simp [this]
            have hli : ∀ j, i ≠ j → (listed.setIfInBounds i true).getD j false = listed.getD j false := fun j hij => by
              simp only [Array.getD_eq_getD_getElem?, Array.getElem?_setIfInBounds_ne hij]
            have hii : (listed.setIfInBounds i true).getD i false = true := by
              have : i < listed.size := by omega
              simp [this]
            rw [hbb] at hr1 hro
            refine ih _ _ _ (fun k => if k = i then w'.heap.size else la k) (fun k => if k = i then w''.heap.size else ha k) (by simpa using hs) (hD.set (by omega) ho hd) ?_ hsX (ag_upd hSd hag) ?_ ?_ ?_ ?_
            · intro t hmt
              have : i ≠ t := by omega
              rw [hli t this]; exact ht t hmt
            · intro j hj hl'
              by_cases hij : i = j
              · subst hij
                rw [hde]
                have : upd f' d v d = v := by simp [upd]
                rw [this]; simp only [if_true]; exact hr1
              · rw [hother j hj hij]
                rw [hli j hij] at hl'
                simp only [if_neg (Ne.symm hij)]
                exact hro j _ _ _ (Ne.symm hij) (hR j hj hl')
            · intro j hj hl'
              by_cases hij : i = j
              · subst hij; simp
              · rw [hli j hij] at hl'
                simp only [if_neg (Ne.symm hij)]
                exact Nat.le_trans (hH j hj hl') hsz
            · intro j1 j2 hj1 hj2 hne hl1 hl2
              by_cases e1 : i = j1
              · subst e1
                rw [hli j2 hne] at hl2
                have := hH j2 hj2 hl2
                simp only [if_true, if_neg (Ne.symm hne)]
                exact .inr this
              · rw [hli j1 e1] at hl1
                by_cases e2 : i = j2
                · subst e2
                  have := hH j1 hj1 hl1
                  simp only [if_true, if_neg (Ne.symm e1)]
                  exact .inl this
                · rw [hli j2 e2] at hl2
                  simp only [if_neg (Ne.symm e1), if_neg (Ne.symm e2)]
                  exact hI j1 j2 hj1 hj2 hne hl1 hl2
            · have hlt := countP_lt (p := fun i => !listed.getD i false) (q := fun k => !(listed.setIfInBounds i true).getD k false) (fun x hx => by
                by_cases hix : i = x
                · subst hix; simp [hn]
                · simpa only [Array.getD_eq_getD_getElem?, Array.getElem?_setIfInBounds_ne hix] using hx) (List.range m) i (List.mem_range.2 him) (by simp [hn]) (by rw [hii]; rfl)
              omega
          by_cases e : i = s
          · subst e
            have h1 := stepS o ho f' w' la ha hSX hag (fun j hj => by have := hR j (Nat.lt_trans (hdl j hj) him) (hd j hj); rwa [hn] at this) (fun i1 j1 hi1 hj1 hne => hI i1 j1 (Nat.lt_trans (hdl i1 hi1) him) (Nat.lt_trans (hdl j1 hj1) him) hne (hd i1 hi1) (hd j1 hj1))
            unfold OS at h1
            refine h1 _ _ ?_
            rintro v w'' ⟨hsX, hsz, hr1, hro⟩
            rw [hdst, put_AF]
            have hii : (listed.setIfInBounds i true).getD i false = true := by
              have : i < listed.size := by omega
              simp [this]
            exact next v w'' true hsX hsz hii.symm hr1 (fun k v la ha hk h => hro k v la ha hk (by rwa [hn] at h))
          · have h1 := step _ i o him e ho f' w' la ha hSX hag (fun j hj => hR j (Nat.lt_trans (hdl j hj) him) (hd j hj))
            unfold OS at h1
            refine h1 _ _ ?_
            rintro v w'' ⟨hs1, hr1⟩
            rw [hdst, put_AF]
            have hls : (listed.setIfInBounds i true).getD s false = listed.getD s false := by
              simp only [Array.getD_eq_getD_getElem?, Array.getElem?_setIfInBounds_ne e]
            exact next v w'' _ (hSX.trans hs1) hs1.size hls.symm hr1 (fun k v la ha _ h => hst _ k v la ha _ _ h hs1)
        · -- the tail
          have hall := tail_all (hl i hil) (by omega) ho hD hd
          have : i = m := by
            rcases Nat.lt_or_ge m i with h | h
            · have h1 := hall m h
              rw [ht m (Nat.le_refl _)] at h1; cases h1
            · omega
          subst this
          have hW := fin f' w' la ha hSX hag (fun j hj => by have := hR j hj (hall j hj); rwa [hall s (by omega)] at this)
          have hT := any_tail (Q := Q) hl (l.length - i) (fuel + 1) i listed (AF n f') w' (by omega) (by omega) (Nat.le_refl _) hs hD hall ht (by unfold WL at hW; exact hW)
          have := hT.2 i hi
          unfold wpOp at this
          simp only [List.getElem?_toArray, ho] at this
          exact this
  have h0 := key l.length (Array.replicate l.length false) f { w with drawn := w.drawn + 1 } (fun _ => 0) (fun _ => 0) (by simp) (fun j o _ h => by
    simp only [Array.getD_eq_getD_getElem?, Array.getElem?_replicate] at h
    split at h <;> cases h) (fun t _ => by
    simp only [Array.getD_eq_getD_getElem?, Array.getElem?_replicate]; split <;> rfl) (Same.drew w 1) ag_refl (fun i hi h => by
    simp only [Array.getD_eq_getD_getElem?, Array.getElem?_replicate] at h
    split at h <;> cases h) (fun _ _ _ => Nat.zero_le _) (fun _ _ _ _ _ _ _ => .inl (Nat.le_refl _)) (by
      have := List.countP_le_length (p := fun i => !(Array.replicate l.length false).getD i false) (l := List.range m)
      simp only [List.length_range] at this
      omega)
  simpa using h0
theorem c_monoZO {id : Nat} {l : List Oper} (m : Nat) (S : List Nat) (s : Nat) (R : Bool → Nat → Value → Nat → Nat → World → Prop) (hm : P.follows .mixedOrders = true) (hB : monoT l m S = true)
    (hst : ∀ b i v la ha w1 w2, R b i v la ha w1 → Same [] w1 w2 → R b i v la ha w2)
    (step : ∀ b i o, i < m → i ≠ s → l[i]? = some o → ∀ g w' (la ha : Nat → Nat), Same [] w w' → (∀ j ∈ deps o, R b j (g (dstOf l.toArray j)) (la j) (ha j) w') → OS P n (ovr S g f) w' o (fun v w'' => Same [] w' w'' ∧ R b i v w'.heap.size w''.heap.size w''))
    (stepS : ∀ o, l[s]? = some o → ∀ g w' (la ha : Nat → Nat), Same [] w w' → (∀ j ∈ deps o, R false j (g (dstOf l.toArray j)) (la j) (ha j) w') → (∀ i j, i ∈ deps o → j ∈ deps o → i ≠ j → ha i ≤ la j ∨ ha j ≤ la i) → OS P n (ovr S g f) w' o (fun v w'' => Same [] w w'' ∧ w'.heap.size ≤ w''.heap.size ∧ R true s v w'.heap.size w''.heap.size w'' ∧ ∀ k v x y, k ≠ s → R false k v x y w' → R true k v x y w''))
    (hsm : s < m)
    (fin : ∀ g w' (la ha : Nat → Nat), Same [] w w' → (∀ i, i < m → R true i (g (dstOf l.toArray i)) (la i) (ha i) w') → WL P l.toArray Q (l.drop m) n (ovr S g f) w') : WC P (.region id l.toArray true) Q n f w := by
  refine c_monoZ m S s R hm hB hst (fun b i o hi hne ho f' w' la ha hs hag hd => ?_) (fun o ho f' w' la ha hs hag hd hI => ?_) hsm (fun f' w' la ha hs hag hR => ?_)
  · have := step b i o hi hne ho f' w' la ha hs hd
    rwa [← ag_ovr hag] at this
  · have := stepS o ho f' w' la ha hs hd hI
    rwa [← ag_ovr hag] at this
  · have := fin f' w' la ha hs hR
    rwa [← ag_ovr hag] at this
theorem r_slM {dst : Option Tmp} {gd : Option (Nat × Bool)} {g o m c l l2 : Nat} {sz : Nat} (hu : P.underlying t = some (.slice e)) (hs : (P.info? e).map (·.size) = some sz) (hx : ev n f x = .slice (some ⟨g, o, none⟩) m c) (hy : ev n f y = .int .i64 (l : Int)) (hl : l ≤ m) (hc : l < c) (hl2 : m - l = l2) :
    RV P n f w ⟨dst, .slice t x (some y) none none, ty, pos, af, gd⟩ (.slice (some ⟨g, o + l * sz, none⟩) l2 (c - l)) w := by
  have h := r_slL (w := w) (dst := dst) (gd := gd) (ty := ty) (pos := pos) (af := af) hu hs hx hy hl
  rw [if_neg (by omega)] at h
  subst hl2
  have e1 : Option.map (fun z : Addr => z.add (l * sz)) (some (⟨g, o, none⟩ : Addr)) = some ⟨g, o + l * sz, none⟩ := by
    show some (Addr.add _ _) = _
    rw [Addr.add_mid]
  rw [e1] at h; exact h
theorem Own.whole {base sz k cap : Nat} {A : Option Addr} {xs : List Value} (h : Own w base e sz A k cap xs) (hk : 0 < k) : ∃ (g : Nat) (cur : Array Value), A = some ⟨g, 0, none⟩ ∧ base ≤ g ∧ Blk w g e cur ∧ cap ≤ 9223372036854775807 ∧ cur.size = cap * sz ∧ cur.toList.take (k * sz) = xs := by
  rcases h.2 with ⟨_, h0⟩ | ⟨g, c, cur, hv, hb, hg, hkc, hm, hs, ht⟩
  · omega
  · cases hv
    exact ⟨g, cur, rfl, hb, hg, by simpa [maxLen] using hm, hs, ht⟩
theorem own_mk {base sz k cap g : Nat} {cur : Array Value} {xs : List Value} (hb : Blk w g e cur) (hbase : base ≤ g) (hk : k ≤ cap) (hm : cap ≤ 9223372036854775807) (hs : cur.size = cap * sz) (hx : cur.toList.take (k * sz) = xs) : Own w base e sz (some ⟨g, 0, none⟩) k cap xs := by
  have hle : k * sz ≤ cap * sz := Nat.mul_le_mul_right sz hk
  subst hx
  exact ⟨by rw [List.length_take, Array.length_toList]; omega, .inr ⟨g, cap, cur, rfl, hbase, hb, hk, by simpa [maxLen] using hm, hs, rfl⟩⟩
theorem cpy_list (cur : Array Value) (o : Nat) (cs : List Value) : (cpy cur o cs).toList = cur.toList.take o ++ (cs ++ cur.toList.drop (o + cs.length)) := by simp [cpy]
/-- two copies that lay X and Y behind P -/
theorem cpy_new {cur : Array Value} {Ps Zs Xs Ys : List Value} {o1 o2 : Nat} (h : cur.toList = Ps ++ Zs) (h1 : o1 = Ps.length) (h2 : o2 = Ps.length + Xs.length) : (cpy (cpy cur o1 Xs) o2 Ys).toList.take (Ps.length + Xs.length + Ys.length) = Ps ++ (Xs ++ Ys) := by
  subst h1 h2
  have e1 : (cpy cur Ps.length Xs).toList = (Ps ++ Xs) ++ Zs.drop Xs.length := by
    rw [cpy_list, h, List.take_append_of_le_length (Nat.le_refl _), List.take_length, List.drop_append, List.drop_eq_nil_of_le (Nat.le_add_right _ _), Nat.add_sub_cancel_left]
    simp
  have e2 : Ps.length + Xs.length = (Ps ++ Xs).length := by simp
  rw [cpy_list, e1, e2, List.take_append_of_le_length (Nat.le_refl _), List.take_length, ← List.append_assoc, ← List.length_append, List.take_append_of_le_length (Nat.le_refl _), List.take_length]
  simp
/-- Y moved up, and X laid behind P -/
theorem cpy_move {cur : Array Value} {Ps Zs Xs Ys : List Value} {o1 o2 : Nat} (h : cur.toList = Ps ++ (Ys ++ Zs)) (h1 : o1 = Ps.length) (h2 : o2 = Ps.length + Xs.length) (hz : Xs.length ≤ Zs.length) : (cpy (cpy cur o2 Ys) o1 Xs).toList.take (Ps.length + Xs.length + Ys.length) = Ps ++ (Xs ++ Ys) := by
  subst h1 h2
  have hc : (cpy cur (Ps.length + Xs.length) Ys).toList = cur.toList.take (Ps.length + Xs.length) ++ (Ys ++ cur.toList.drop (Ps.length + Xs.length + Ys.length)) := cpy_list _ _ _
  have hl : (cur.toList.take (Ps.length + Xs.length)).length = Ps.length + Xs.length := by
    rw [List.length_take, h]; simp only [List.length_append]; omega
  have ht : (cur.toList.take (Ps.length + Xs.length)).take Ps.length = Ps := by
    rw [List.take_take, Nat.min_eq_left (Nat.le_add_right _ _), h, List.take_append_of_le_length (Nat.le_refl _), List.take_length]
  have e1 : (cpy cur (Ps.length + Xs.length) Ys).toList.take Ps.length = Ps := by
    rw [hc, List.take_append_of_le_length (by omega), ht]
  have e2 : (cpy cur (Ps.length + Xs.length) Ys).toList.drop (Ps.length + Xs.length) = Ys ++ cur.toList.drop (Ps.length + Xs.length + Ys.length) := by
    rw [hc, List.drop_append, List.drop_eq_nil_of_le (by omega), hl, Nat.sub_self]; simp
  rw [cpy_list, e1, e2]
  have e3 : Ps ++ (Xs ++ (Ys ++ cur.toList.drop (Ps.length + Xs.length + Ys.length))) = (Ps ++ (Xs ++ Ys)) ++ cur.toList.drop (Ps.length + Xs.length + Ys.length) := by simp
  have e4 : Ps.length + Xs.length + Ys.length = (Ps ++ (Xs ++ Ys)).length := by simp [Nat.add_assoc]
  rw [e3, e4, List.take_append_of_le_length (Nat.le_refl _), List.take_length]
end six
end Go.Proofs.YteoncmfiiknfbaaDoor
namespace Go.Proofs.YteoncmfiiknfbaaDoor
open Go.RowKit
def nameCh (c : UInt8) : Bool := decide (97 ≤ c.toNat ∧ c.toNat ≤ 122) || decide (48 ≤ c.toNat ∧ c.toNat ≤ 57) || decide (c.toNat = 95) || decide (c.toNat = 45)
theorem nameCh_iff (c : UInt8) : nameCh c = true ↔ ((97 ≤ c.toNat ∧ c.toNat ≤ 122) ∨ (48 ≤ c.toNat ∧ c.toNat ≤ 57) ∨ c.toNat = 95 ∨ c.toNat = 45) := by simp [nameCh, or_assoc]
def nameHd : List UInt8 → Bool
  | [] => false
  | c :: _ => decide (97 ≤ c.toNat ∧ c.toNat ≤ 122)
def isName (s : ByteArray) : Bool := decide (s.size ≤ 30) && nameHd s.data.toList && s.data.toList.all nameCh
theorem ret_bool {a b : Bool} (h : a = b) : Ending.returned (.bool b) = .returned (.bool a) := by rw [h]
theorem hd_num (s : ByteArray) : ∃ c0 : Nat, ∀ h : 0 < s.size, (s[0]'h).toNat = c0 := by
  by_cases h : 0 < s.size
  · exact ⟨(s[0]'h).toNat, fun _ => rfl⟩
  · exact ⟨0, fun h' => absurd h' h⟩
theorem isName_eq (s : ByteArray) (c0 : Nat) (e0 : ∀ h : 0 < s.size, (s[0]'h).toNat = c0) :
    isName s = decide ((s.size ≠ 0 ∧ s.size ≤ 30) ∧ (97 ≤ c0 ∧ c0 ≤ 122) ∧ (∀ k (hk : k < s.size), nameCh (s[k]'hk) = true)) := by
  have ha : (s.data.toList.all nameCh = true) ↔ (∀ k (hk : k < s.size), nameCh (s[k]'hk) = true) := by
    rw [List.all_eq_true]
    constructor
    · intro h k hk
      exact h _ (List.getElem_mem (l := s.data.toList) (n := k) (by simpa using hk))
    · intro h x hx
      obtain ⟨k, hk, rfl⟩ := List.mem_iff_getElem.1 hx
      exact h k (by simpa using hk)
  have hh : ∀ h : 0 < s.size, nameHd s.data.toList = decide (97 ≤ c0 ∧ c0 ≤ 122) := by
    intro h
    rw [← e0 h]
    obtain ⟨⟨l⟩⟩ := s
    cases l with
    | nil => exact absurd h (by decide)
    | cons c l => rfl
  by_cases h0 : s.size = 0
  · have : s.data.toList = [] := by
      apply List.eq_nil_of_length_eq_zero; simpa using h0
    simp [isName, this, nameHd, h0]
  · have h := hh (by omega)
    rw [Bool.eq_iff_iff]
    simp only [isName, h, Bool.and_eq_true, decide_eq_true_eq, ha]
    constructor
    · rintro ⟨⟨a, b⟩, c⟩; exact ⟨⟨h0, a⟩, b, c⟩
    · rintro ⟨⟨_, a⟩, b, c⟩; exact ⟨⟨a, b⟩, c⟩

theorem sz30 : (Tryd.prog.info? 30).map (·.size) = some 2 := by kernel_rfl
theorem ze30 : (Tryd.prog.info? 30).map (·.zero) = some (some (.agg #[.int .i64 0, .int .i64 0])) := by kernel_rfl
theorem name_any (s : ByteArray) (w : World) : Calls Tryd.prog 54 #[.string s] w fun e w' => e = .returned (.bool (isName s)) ∧ w = w' := by
 obtain ⟨c0, e0⟩ := hd_num s
 have hN := Lib.hid (isName_eq s c0 e0)
 refine enter Tryd.func54 Tryd.ntmps54 rfl (Nat.le_of_ble_eq_true rfl) (c_seq (c_region (wl (r_as (v := .bool _) rfl) (x_nil (e_S ?_)))))
 refine c_seq (c_seq ?_)
 refine c_cut1 [5, 6, 7, 8, 9, 10, 11, 12, 13, 14, 15, 16, 17, 18, 19, 20, 21, 22] 22 (.bool (decide (s.size = 0 ∨ 30 < s.size ∨ c0 < 97 ∨ 122 < c0))) (by simp [undef]) ?_ (fun gq => ?_)
 ·
  refine c_region (wl (r_mv (v := .string _) rfl) (wl (r_lenS Tryd.underlying9 rfl) (wl (r_eql rfl rfl) (wl (r_mv (v := .bool _) rfl) ?_))))
  refine wl_casesd 8 rfl (fun g8 => ?_) (fun g8 => ?_)
  ·
   refine wlgn 8 rfl rfl rfl (wlgn 8 rfl rfl rfl (wlgn 8 rfl rfl rfl (wl (r_pt (v := .bool _) rfl rfl) (wl (r_mv (v := .bool _) rfl) (wlgn 13 rfl rfl rfl ?_)))))
   refine wlgn 13 rfl rfl rfl (wlgn 13 rfl rfl rfl (wl (r_pt (v := .bool _) rfl rfl) (wl (r_mv (v := .bool _) rfl) (wlgn 18 rfl rfl rfl (wlgn 18 rfl rfl rfl ?_)))))
   refine wlgn 18 rfl rfl rfl (wl (r_pt (v := .bool _) rfl rfl) ?_)
   refine x_nil (e_R ⟨rfl, agA, ?_⟩)
   show Value.bool _ = Value.bool _
   try have e0' := e0 (by omega)
   first | exact congrArg Value.bool (decide_eq_true (by omega)).symm | exact congrArg Value.bool (decide_eq_false (by omega)).symm | exact congrArg Value.bool (decide_eq_decide.2 (by omega)) | exact congrArg Value.bool ((decide_not).symm.trans (decide_eq_decide.2 (by omega)))
  refine wl_gd 8 rfl rfl (wl (r_mv (v := .string _) rfl) (wl_gd 8 rfl rfl (wl (r_lenS Tryd.underlying9 rfl) (wl_gd 8 rfl rfl (wl (r_gtr rfl rfl) ?_)))))
  refine wl (r_pf (v := .bool _) rfl rfl) (wl (r_mv (v := .bool _) rfl) ?_)
  refine wl_casesd 13 rfl (fun g13 => ?_) (fun g13 => ?_)
  ·
   refine wlgn 13 rfl rfl rfl (wlgn 13 rfl rfl rfl (wlgn 13 rfl rfl rfl (wl (r_pt (v := .bool _) rfl rfl) (wl (r_mv (v := .bool _) rfl) (wlgn 18 rfl rfl rfl ?_)))))
   refine wlgn 18 rfl rfl rfl (wlgn 18 rfl rfl rfl (wl (r_pt (v := .bool _) rfl rfl) ?_))
   refine x_nil (e_R ⟨rfl, agA, ?_⟩)
   show Value.bool _ = Value.bool _
   try have e0' := e0 (by omega)
   first | exact congrArg Value.bool (decide_eq_true (by omega)).symm | exact congrArg Value.bool (decide_eq_false (by omega)).symm | exact congrArg Value.bool (decide_eq_decide.2 (by omega)) | exact congrArg Value.bool ((decide_not).symm.trans (decide_eq_decide.2 (by omega)))
  refine wl_gd 13 rfl rfl (wl (r_mv (v := .string _) rfl) (wl_gd 13 rfl rfl (wl (r_ixS (i := 0) Tryd.underlying9 rfl rfl (by omega)) (wl_gd 13 rfl rfl (wl (r_lss rfl rfl) ?_)))))
  refine wl (r_pf (v := .bool _) rfl rfl) (wl (r_mv (v := .bool _) rfl) ?_)
  refine wl_casesd 18 rfl (fun g18 => ?_) (fun g18 => ?_)
  ·
   refine wlgn 18 rfl rfl rfl (wlgn 18 rfl rfl rfl (wlgn 18 rfl rfl rfl (wl (r_pt (v := .bool _) rfl rfl) ?_)))
   refine x_nil (e_R ⟨rfl, agA, ?_⟩)
   show Value.bool _ = Value.bool _
   try have e0' := e0 (by omega)
   first | exact congrArg Value.bool (decide_eq_true (by omega)).symm | exact congrArg Value.bool (decide_eq_false (by omega)).symm | exact congrArg Value.bool (decide_eq_decide.2 (by omega)) | exact congrArg Value.bool ((decide_not).symm.trans (decide_eq_decide.2 (by omega)))
  refine wl_gd 18 rfl rfl (wl (r_mv (v := .string _) rfl) (wl_gd 18 rfl rfl (wl (r_ixS (i := 0) Tryd.underlying9 rfl rfl (by omega)) (wl_gd 18 rfl rfl (wl (r_gtr rfl rfl) ?_)))))
  refine wl (r_pf (v := .bool _) rfl rfl) ?_
  refine x_nil (e_R ⟨rfl, agA, ?_⟩)
  show Value.bool _ = Value.bool _
  try have e0' := e0 (by omega)
  first | exact congrArg Value.bool (decide_eq_true (by omega)).symm | exact congrArg Value.bool (decide_eq_false (by omega)).symm | exact congrArg Value.bool (decide_eq_decide.2 (by omega)) | exact congrArg Value.bool ((decide_not).symm.trans (decide_eq_decide.2 (by omega)))
 refine e_S ?_
 refine c_ifd rfl (fun c22 => ?_) (fun c22 => ?_)
 ·
  refine c_seq (c_region (wl (r_as (v := .bool _) rfl) (x_nil (e_S (c_ret ?_)))))
  refine e_Sr (fin1 (.inl rfl) rfl rfl ?_)
  exact ⟨ret_bool (by rw [hN.out]; exact decide_eq_false (fun h => by omega)), rfl⟩
 refine c_skip (e_S (c_seq (c_seq (c_region (wl (r_mv (v := .string _) rfl) ?_)))))
 refine wl (r_lenS Tryd.underlying9 rfl) (wl (r_mv (v := .int _ _) rfl) (x_nil (e_S (c_block ?_))))
 refine c_loopS [2, 3, 4, 25, 26, 27, 28, 29, 30, 31, 32, 33, 34, 35, 36, 37, 38, 39, 40, 41, 42, 43, 44, 45, 46, 47, 48, 49, 50, 51, 52, 53, 54] (fun m g w' => ∃ k : Nat, k ≤ s.size ∧ m = s.size - k ∧ g 25 = .int .i64 k ∧ w = w' ∧ (∀ j (hj : j < s.size), j < k → nameCh (s[j]'hj) = true)) (s.size) ?_ (fun m g4 w1 hI => ?_)
 ·
  exact ⟨0, Nat.zero_le _, rfl, rfl, rfl, fun j hj h => by omega⟩
 obtain ⟨k, hk, hm, h25, rfl, hall⟩ := hI
 refine c_know 25 (.int .i64 k) h25 (by simp [undef]) (c_seq (c_region (wl (r_lss rfl rfl) (x_nil (e_S ?_)))))
 refine c_seq ?_
 refine c_ifd rfl (fun c26 => ?_) (fun c26 => ?_)
 ·
  refine c_skip (e_S (c_seq (c_block (c_seq (c_region ?_)))))
  refine wl (r_mv (v := .int _ _) rfl) (wl (r_as (v := .int _ _) rfl) (x_nil (e_S (c_seq (c_region ?_)))))
  refine wl (r_mv (v := .string _) rfl) (wl (r_mv (v := .int _ _) rfl) (wl (r_ixS (i := k) Tryd.underlying9 rfl rfl (by omega)) (wl (r_as (v := .int _ _) rfl) (x_nil (e_S ?_)))))
  refine c_seq ?_
  refine c_cut1 [31, 32, 33, 34, 35, 36, 37, 38, 39, 40, 41, 42, 43, 44, 45, 46, 47, 48, 49, 50, 51, 52, 53] 53 (.bool (decide (¬ ((97 ≤ (s[k]'(by omega)).toNat ∧ (s[k]'(by omega)).toNat ≤ 122) ∨ (48 ≤ (s[k]'(by omega)).toNat ∧ (s[k]'(by omega)).toNat ≤ 57) ∨ (s[k]'(by omega)).toNat = 95 ∨ (s[k]'(by omega)).toNat = 45)))) (by simp [undef]) ?_ (fun gq => ?_)
  ·
   refine c_region (wl (r_mv (v := .int _ _) rfl) (wl (r_geq rfl rfl) (wl (r_mv (v := .bool _) rfl) ?_)))
   refine wl_casesd 33 rfl (fun g33 => ?_) (fun g33 => ?_)
   ·
    refine wl_gd 33 rfl rfl (wl (r_mv (v := .int _ _) rfl) (wl_gd 33 rfl rfl (wl (r_leq rfl rfl) (wl (r_pt (v := .bool _) rfl rfl) (wl (r_mv (v := .bool _) rfl) ?_)))))
    refine wl_casesd 37 rfl (fun g37 => ?_) (fun g37 => ?_)
    ·
     refine wlgn 37 rfl rfl rfl (wlgn 37 rfl rfl rfl (wlgn 37 rfl rfl rfl (wlgu 40 rfl rfl (wlgu 40 rfl rfl (wlgn 37 rfl rfl rfl ?_)))))
     refine wl (r_pt (v := .bool _) rfl rfl) (wl (r_mv (v := .bool _) rfl) (wlgn 45 rfl rfl rfl (wlgn 45 rfl rfl rfl (wl (r_pt (v := .bool _) rfl rfl) (wl (r_mv (v := .bool _) rfl) ?_)))))
     refine wlgn 49 rfl rfl rfl (wlgn 49 rfl rfl rfl (wl (r_pt (v := .bool _) rfl rfl) (wl (r_not rfl) ?_)))
     refine x_nil (e_R ⟨rfl, agA, ?_⟩)
     exact clA
    refine wl_gd 37 rfl rfl (wl (r_mv (v := .int _ _) rfl) (wl_gd 37 rfl rfl (wl (r_geq rfl rfl) (wl_gd 37 rfl rfl (wl (r_mv (v := .bool _) rfl) ?_)))))
    refine wl_casesd 40 rfl (fun g40 => ?_) (fun g40 => ?_)
    ·
     refine wl_gd 40 rfl rfl (wl (r_mv (v := .int _ _) rfl) (wl_gd 40 rfl rfl (wl (r_leq rfl rfl) (wl_gd 37 rfl rfl (wl (r_pt (v := .bool _) rfl rfl) ?_)))))
     refine wl (r_pf (v := .bool _) rfl rfl) (wl (r_mv (v := .bool _) rfl) ?_)
     refine wl_casesd 45 rfl (fun g45 => ?_) (fun g45 => ?_)
     ·
      refine wlgn 45 rfl rfl rfl (wlgn 45 rfl rfl rfl (wl (r_pt (v := .bool _) rfl rfl) (wl (r_mv (v := .bool _) rfl) (wlgn 49 rfl rfl rfl (wlgn 49 rfl rfl rfl ?_)))))
      refine wl (r_pt (v := .bool _) rfl rfl) (wl (r_not rfl) ?_)
      refine x_nil (e_R ⟨rfl, agA, ?_⟩)
      exact clA
     refine wl_gd 45 rfl rfl (wl (r_mv (v := .int _ _) rfl) (wl_gd 45 rfl rfl (wl (r_eql rfl rfl) (wl (r_pf (v := .bool _) rfl rfl) (wl (r_mv (v := .bool _) rfl) ?_)))))
     refine wl_casesd 49 rfl (fun g49 => ?_) (fun g49 => ?_)
     ·
      refine wlgn 49 rfl rfl rfl (wlgn 49 rfl rfl rfl (wl (r_pt (v := .bool _) rfl rfl) (wl (r_not rfl) ?_)))
      refine x_nil (e_R ⟨rfl, agA, ?_⟩)
      exact clA
     refine wl_gd 49 rfl rfl (wl (r_mv (v := .int _ _) rfl) (wl_gd 49 rfl rfl (wl (r_eql rfl rfl) (wl (r_pf (v := .bool _) rfl rfl) (wl (r_notd rfl) ?_)))))
     refine x_nil (e_R ⟨rfl, agA, ?_⟩)
     exact clA
    refine wlgn 40 rfl rfl rfl (wlgn 40 rfl rfl rfl (wl_gd 37 rfl rfl (wl (r_pf (v := .bool _) rfl rfl) (wl (r_pf (v := .bool _) rfl rfl) (wl (r_mv (v := .bool _) rfl) ?_)))))
    refine wl_gd 45 rfl rfl (wl (r_mv (v := .int _ _) rfl) (wl_gd 45 rfl rfl (wl (r_eql rfl rfl) (wl (r_pf (v := .bool _) rfl rfl) (wl (r_mv (v := .bool _) rfl) ?_)))))
    refine wl_casesd 49 rfl (fun g49 => ?_) (fun g49 => ?_)
    ·
     refine wlgn 49 rfl rfl rfl (wlgn 49 rfl rfl rfl (wl (r_pt (v := .bool _) rfl rfl) (wl (r_not rfl) ?_)))
     refine x_nil (e_R ⟨rfl, agA, ?_⟩)
     exact clA
    refine wl_gd 49 rfl rfl (wl (r_mv (v := .int _ _) rfl) (wl_gd 49 rfl rfl (wl (r_eql rfl rfl) (wl (r_pf (v := .bool _) rfl rfl) (wl (r_notd rfl) ?_)))))
    refine x_nil (e_R ⟨rfl, agA, ?_⟩)
    exact clA
   refine wlgn 33 rfl rfl rfl (wlgn 33 rfl rfl rfl (wl (r_pf (v := .bool _) rfl rfl) (wl (r_mv (v := .bool _) rfl) (wl_gd 37 rfl rfl (wl (r_mv (v := .int _ _) rfl) ?_)))))
   refine wl_gd 37 rfl rfl (wl (r_geq rfl rfl) (wl_gd 37 rfl rfl (wl (r_mv (v := .bool _) rfl) ?_)))
   refine wl_casesd 40 rfl (fun g40 => ?_) (fun g40 => ?_)
   ·
    refine wl_gd 40 rfl rfl (wl (r_mv (v := .int _ _) rfl) (wl_gd 40 rfl rfl (wl (r_leq rfl rfl) (wl_gd 37 rfl rfl (wl (r_pt (v := .bool _) rfl rfl) ?_)))))
    refine wl (r_pf (v := .bool _) rfl rfl) (wl (r_mv (v := .bool _) rfl) ?_)
    refine wl_casesd 45 rfl (fun g45 => ?_) (fun g45 => ?_)
    ·
     refine wlgn 45 rfl rfl rfl (wlgn 45 rfl rfl rfl (wl (r_pt (v := .bool _) rfl rfl) (wl (r_mv (v := .bool _) rfl) (wlgn 49 rfl rfl rfl (wlgn 49 rfl rfl rfl ?_)))))
     refine wl (r_pt (v := .bool _) rfl rfl) (wl (r_not rfl) ?_)
     refine x_nil (e_R ⟨rfl, agA, ?_⟩)
     exact clA
    refine wl_gd 45 rfl rfl (wl (r_mv (v := .int _ _) rfl) (wl_gd 45 rfl rfl (wl (r_eql rfl rfl) (wl (r_pf (v := .bool _) rfl rfl) (wl (r_mv (v := .bool _) rfl) ?_)))))
    refine wl_casesd 49 rfl (fun g49 => ?_) (fun g49 => ?_)
    ·
     refine wlgn 49 rfl rfl rfl (wlgn 49 rfl rfl rfl (wl (r_pt (v := .bool _) rfl rfl) (wl (r_not rfl) ?_)))
     refine x_nil (e_R ⟨rfl, agA, ?_⟩)
     exact clA
    refine wl_gd 49 rfl rfl (wl (r_mv (v := .int _ _) rfl) (wl_gd 49 rfl rfl (wl (r_eql rfl rfl) (wl (r_pf (v := .bool _) rfl rfl) (wl (r_notd rfl) ?_)))))
    refine x_nil (e_R ⟨rfl, agA, ?_⟩)
    exact clA
   refine wlgn 40 rfl rfl rfl (wlgn 40 rfl rfl rfl (wl_gd 37 rfl rfl (wl (r_pf (v := .bool _) rfl rfl) (wl (r_pf (v := .bool _) rfl rfl) (wl (r_mv (v := .bool _) rfl) ?_)))))
   refine wl_gd 45 rfl rfl (wl (r_mv (v := .int _ _) rfl) (wl_gd 45 rfl rfl (wl (r_eql rfl rfl) (wl (r_pf (v := .bool _) rfl rfl) (wl (r_mv (v := .bool _) rfl) ?_)))))
   refine wl_casesd 49 rfl (fun g49 => ?_) (fun g49 => ?_)
   ·
    refine wlgn 49 rfl rfl rfl (wlgn 49 rfl rfl rfl (wl (r_pt (v := .bool _) rfl rfl) (wl (r_not rfl) ?_)))
    refine x_nil (e_R ⟨rfl, agA, ?_⟩)
    exact clA
   refine wl_gd 49 rfl rfl (wl (r_mv (v := .int _ _) rfl) (wl_gd 49 rfl rfl (wl (r_eql rfl rfl) (wl (r_pf (v := .bool _) rfl rfl) (wl (r_notd rfl) ?_)))))
   refine x_nil (e_R ⟨rfl, agA, ?_⟩)
   exact clA
  refine e_S ?_
  refine c_ifd rfl (fun c53 => ?_) (fun c53 => ?_)
  ·
   refine c_seq (c_region (wl (r_as (v := .bool _) rfl) (x_nil (e_S (c_ret ?_)))))
   refine e_Br (e_Sr (e_LSr (e_Br (e_Sr (fin1 (.inl rfl) rfl rfl ?_)))))
   exact ⟨ret_bool (by rw [hN.out]; exact decide_eq_false (fun h => c53 ((nameCh_iff _).1 (h.2.2 k (by omega))))), rfl⟩
  have hall' : ∀ j (hj : j < s.size), j < k + 1 → nameCh (s[j]'hj) = true := fun j hj h => by
    by_cases e : j = k
    · subst e; exact (nameCh_iff _).2 (by omega)
    · exact hall j hj (by omega)
  refine c_skip (e_B (e_S (c_region (wl (r_add rfl rfl rfl (by omega)) (wl (r_mv (v := .int _ _) rfl) ?_)))))
  refine x_nil (e_LS (s.size - (k + 1)) (by omega) agA ?_)
  exact ⟨k + 1, by omega, rfl, rfl, rfl, fun j hj h => hall' j hj h⟩
 refine c_exit (e_Sx (e_LSx (e_Bx (e_S (c_seq ?_)))))
 refine c_region (wl (r_as (v := .bool _) rfl) (x_nil (e_S (c_ret (fin1 (.inl rfl) rfl rfl ?_)))))
 exact ⟨ret_bool (by rw [hN.out]; exact decide_eq_true ⟨by omega, by omega, fun j hj => hall j hj (by omega)⟩), rfl⟩

theorem fault_any (a b : Int) (w : World) : Calls Tryd.prog 51 #[.int .i64 a, .int .i64 b] w fun e w' => e = .returned (flV (a, b)) ∧ Bel w w' := by
 refine enter Tryd.func51 Tryd.ntmps51 rfl (Nat.le_of_ble_eq_true rfl) ?_
 have hB : Bel w w := Below.refl _ _
 refine c_seq (c_region ?_)
 refine wl_al (cs := #[.int .i64 0, .int .i64 0]) ze30 rfl (fun b4 w1 hb4 hs hr => ?_)
 have lo4 := Nat.le_trans (Bel.size hB) hr
 replace hB := hB.tr0 hs
 clear hs
 clear hr
 refine x_nil (e_S (c_seq (c_region (wl (r_mv (v := .int _ _) rfl) (wl (r_mv (v := .int _ _) rfl) ?_)))))
 refine wl (r_bd2 (v0 := .int _ _) (v1 := .int _ _) (fun v0 v1 => #[v0, v1]) rfl rfl (by kernel_rfl)) ?_
 refine wl_stW hb4 rfl rfl sz30 rfl oneA (fun w2 hq hs => ?_)
 replace hB := hB.tr1 hs lo4
 clear hs
 replace hb4 := hq
 refine x_nil (e_S (c_ret (fin1 (.inl rfl) rfl (rr_cell Tryd.underlying30 rfl rfl hb4.range0 sz30) ?_)))
 exact ⟨rfl, hB⟩
end Go.Proofs.YteoncmfiiknfbaaDoor
