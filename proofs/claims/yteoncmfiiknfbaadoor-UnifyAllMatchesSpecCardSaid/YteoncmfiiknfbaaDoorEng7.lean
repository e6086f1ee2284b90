/- The engine's sixth part: copy, zeros appended to a slice, functions that the model has itself, a drawn region in which an operation changes what another one has made. The engine's seventh part: a drawn region of whatever operations. -/
import Derived.Test.YteoncmfiiknfbaaDoorEng4
import Derived.Laws.CopyRow
import Derived.Laws.Externs
import Derived.Lib.Overlaps
namespace Go.Proofs.YteoncmfiiknfbaaDoor
open Go.RowKit
section six
variable {P : Program} {Q : Exit → Act → World → Prop} {n : Nat} {f : Fr} {w : World} {ops : Array Oper} {rest : List Oper} {d : Tmp} {ty t e : TypeId} {pos : String} {af : Array Edge} {x y : Operand} {v : Value}
def cpy (cur : Array Value) (o : Nat) (cs : List Value) : Array Value := (cur.toList.take o ++ cs ++ cur.toList.drop (o + cs.length)).toArray
theorem cpy_size {cur : Array Value} {o : Nat} {cs : List Value} (h : o + cs.length ≤ cur.size) : (cpy cur o cs).size = cur.size := by
  unfold cpy
  simp only [List.size_toArray, List.length_append, List.length_take, List.length_drop, Array.length_toList]
  omega
theorem run_copyC {sz g o dLen dCap sLen sCap m : Nat} {a : Addr} {cur : Array Value} {cs : List Value} {e' sT : TypeId} (hu : P.underlying t = some (.slice e)) (hs : (P.info? e).map (·.size) = some sz)
    (hg : Blk w g e' cur) (hn : Nat.min sLen dLen = m) (hl : cs.length = m * sz) (hsrc : ∀ j v, cs[j]? = some v → w.cell? (a.add j) = some v) (hfit : o + cs.length ≤ cur.size) (h1 : ∀ v ∈ cs, v.oneCell' = true) :
    (Builtin.copy_ #[t, sT] ty #[.slice (some ⟨g, o, none⟩) dLen dCap, .slice (some a) sLen sCap]).run P w = .ok (goInt m) (w.setRow g (cpy cur o cs)) := by
  have hld := run_loadCells_list (P := P) w a cs hsrc
  have hst := run_storeCells_at P g o e' cs 0 cur w hg (by simpa using hfit) h1
  cases hq : P.info? e with
  | none => simp [hq] at hs
  | some i =>
    have hi : i.size = sz := by simpa [hq] using hs
    simp [Builtin.copy_, run_underlying hu, Builtin.lenOf, Builtin.firstCells, sizeOf, typeInfo, hq, hi, hn, ← hl, hld, hst, cpy]
theorem wl_cp {sz g o dLen dCap sLen sCap m : Nat} {a : Addr} {cur : Array Value} {cs : List Value} {e' : TypeId} (hu : P.underlying t = some (.slice e)) (hs : (P.info? e).map (·.size) = some sz) (hx : ev n f x = .slice (some ⟨g, o, none⟩) dLen dCap) (hy : ev n f y = .slice (some a) sLen sCap)
    (hg : Blk w g e' cur) (hn : Nat.min sLen dLen = m) (hl : cs.length = m * sz) (hsrc : ∀ j v, cs[j]? = some v → w.cell? (a.add j) = some v) (hfit : o + cs.length ≤ cur.size) (h1 : ∀ v ∈ cs, v.oneCell' = true)
    (K : ∀ w1, Blk w1 g e' (cpy cur o cs) → Same [g] w w1 → WL P ops Q rest n (upd f d (goInt m)) w1) :
    WL P ops Q (⟨some d, .call { callee := .builtin .copy, args := #[x, y], argTypes := #[t, t] }, ty, pos, af, none⟩ :: rest) n f w := by
  have hr := run_copyC (P := P) (ty := ty) (sT := t) (dCap := dCap) (sCap := sCap) hu hs hg hn hl hsrc hfit h1
  refine wl (v := goInt m) (w' := w.setRow g (cpy cur o cs)) ?_ (K _ (setRow_heap w g cur _ e' _ hg) (same_setRow w g _))
  simp only [RV, execOp, resolve, invoke, builtin, Sem.run_bind, Sem.run_pure, Result.andThen_ok, List.map_toArray, List.map_cons, List.map_nil, hx, hy, hr]
theorem wl_appZ2 {tn : TypeId} {zv : Value} {sz by' k m cap g : Nat} {olds : List Value} (hu : P.underlying t = some (.slice e)) (hn : P.underlying tn = some (.int .i64)) (hi : (P.info? e).map (fun i => (i.zero, i.size, i.bytes)) = some (some zv, sz, by')) (h0 : 0 < k) (hs : 0 < sz) (hroom : cap < m + k) (hb : (m + k) * by' ≤ 140737488355328) (h63 : m + k ≤ 4611686018427387904)
    (hx : ev n f x = .slice (some ⟨g, 0, none⟩) m cap) (hy : ev n f y = .int .i64 (k : Int)) (hl : olds.length = m * sz) (hsrc : ∀ j v, olds[j]? = some v → w.cell? ⟨g, j, none⟩ = some v)
    (K : ∀ b cap' w1, Blk w1 b e (olds.toArray ++ Builtin.zeroCells zv.cells k ++ Builtin.zeroCells zv.cells (cap' - (m + k))) → Same [] w w1 → w.heap.size ≤ b → m + k ≤ cap' → cap' ≤ 9223372036854775807 → WL P ops Q rest n (upd f d (.slice (some ⟨b, 0, none⟩) (m + k) cap')) w1) :
    WL P ops Q (⟨some d, .call { callee := .builtin .append, args := #[x, y], argTypes := #[t, tn] }, ty, pos, af, none⟩ :: rest) n f w := by
  obtain ⟨i, hq, hzz⟩ := Option.map_eq_some_iff.1 hi
  simp only [Prod.mk.injEq] at hzz
  obtain ⟨z1, z2, z3⟩ := hzz
  have hld := run_loadCells_list (P := P) w.drew ⟨g, 0, none⟩ olds (fun j v hj => by
    rw [Addr.add_mid, Nat.zero_add]; exact hsrc j v hj)
  have hold : (Builtin.firstCells i.size m (.slice (some ⟨g, 0, none⟩) m cap)).run P w.drew = .ok olds.toArray w.drew := by
    simp only [Builtin.firstCells, z2, ← hl, hld]
  have hfit := growslice_fits (need := m + k) (old := cap) (bytes := i.bytes) hroom (by rw [z3]; exact hb)
  have hkb : k * by' ≤ (m + k) * by' := Nat.mul_le_mul_right _ (Nat.le_add_left _ _)
  have hr := Lib.run_append_grow_zeros w t tn ty e i zv .i64 .i64 hu hn hq z1 (some ⟨g, 0, none⟩) m cap olds hold k h0 om hroom om (by rw [z3]; omega) hfit
  have hge := grownCap_ge w (m + k) cap e
  have hle := grownCap_le_maxLen w (m + k) cap e (by unfold maxLen; omega)
  generalize grownCap w (m + k) cap e = C at hr hge hle
  refine wl (v := .slice (some ⟨w.heap.size, 0, none⟩) (m + k) C) (w' := w.drew.alloc (.cells (olds.toArray ++ Builtin.zeroCells zv.cells k ++ Builtin.zeroCells zv.cells (C - (m + k))) e)) ?_ (K _ _ _ ?_ ?_ (Nat.le_refl _) hge (by unfold maxLen at hle; omega))
  · simp only [RV, execOp, resolve, invoke, builtin, Sem.run_bind, Sem.run_pure, Result.andThen_ok, List.map_toArray, List.map_cons, List.map_nil, hx, hy, hr]
  · exact heap_alloc_new w.drew _
  · have hd : Same [] w w.drew := ⟨rfl, rfl, rfl, Nat.le_refl _, fun _ _ _ => rfl⟩
    exact hd.trans (same_alloc w.drew _)
theorem r_ext {F : FuncId} {xs : Array Operand} {ats : Array TypeId} {args : List Value} {dst : Option Nat} {gd : Option (Nat × Bool)} (h : (callFunc F args.toArray).run P w = .ok (.value v) w) (hargs : xs.toList.map (ev n f) = args) :
    RV P n f w ⟨dst, .call { callee := .value (.func F), args := xs, argTypes := ats }, ty, pos, af, gd⟩ v w := by
  subst hargs
  have hm : (xs.toList.map (ev n f)).toArray = xs.map (ev n f) := by rw [← Array.toList_map, Array.toArray_toList]
  rw [hm] at h
  simp [RV, execOp, resolve, ev, Deferred.ofValue, invoke, h]
theorem shape_blk {b : Nat} {cs : Array Value} (h : Blk w b t cs) : w.shape? b = some (t, cs.size) := by
  unfold Blk at h; simp [World.shape?, h]
theorem frozen_blk {b o : Nat} {cs : Array Value} (h : Blk w b t cs) : w.frozen? ⟨b, o, none⟩ = false := by
  unfold Blk at h; simp [World.frozen?, h]
theorem run_apart {F : FuncId} {fn : Func} {tR tA tB : TypeId} {a b la ca lb cb oa ob sz : Nat} {ka kb : Array Value} (hf : P.funcs[F]? = some fn) (hname : (fn.name == "runtime.NumGoroutine") = false) (hb : fn.body.isNone = true) (hn : Extern.findNext fn = none) (he : Extern.find fn = some (Extern.SlicesOverlaps.overlaps #[t, t] #[tR]))
    (hu : P.underlying t = some (.slice e)) (hz : (P.info? e).map (·.size) = some sz) (ha : Blk w a tA ka) (hb2 : Blk w b tB kb) (hne : a ≠ b) (hk : kb.size ≠ 0) :
    (callFunc F #[.slice (some ⟨a, oa, none⟩) la ca, .slice (some ⟨b, ob, none⟩) lb cb]).run P w = .ok (.value (.bool false)) w := by
  have hsz : ∀ w, (Go.sizeOf e).run P w = .ok sz w := fun w => by
    cases hq : P.info? e with
    | none => simp [hq] at hz
    | some i =>
      have hi : i.size = sz := by simpa [hq] using hz
      simp [Go.sizeOf, typeInfo, hq, hi]
  rw [run_callFunc_extern hf hname hb hn he, Lib.run_overlaps_apart w t tR e hu sz hsz ⟨a, oa, none⟩ ⟨b, ob, none⟩ la ca lb cb hne tA tB ka.size kb.size (shape_blk ha) (shape_blk hb2) hk (frozen_blk ha) (frozen_blk ha)]
  rfl
theorem c_monoZ {id : Nat} {l : List Oper} (m : Nat) (S : List Nat) (s : Nat) (R : Bool → Nat → Value → Nat → Nat → World → Prop) (hm : P.follows .mixedOrders = true) (hB : monoT l m S = true)
    (hst : ∀ b i v la ha w w', R b i v la ha w → Same [] w w' → R b i v la ha w')
    (step : ∀ b i o, i < m → i ≠ s → l[i]? = some o → ∀ f' w' (la ha : Nat → Nat), Same [] w w' → Ag S f' f → (∀ j ∈ deps o, R b j (f' (dstOf l.toArray j)) (la j) (ha j) w') → OS P n f' w' o (fun v w'' => Same [] w' w'' ∧ R b i v w'.heap.size w''.heap.size w''))
    (stepS : ∀ o, l[s]? = some o → ∀ f' w' (la ha : Nat → Nat), Same [] w w' → Ag S f' f → (∀ j ∈ deps o, R false j (f' (dstOf l.toArray j)) (la j) (ha j) w') → (∀ i j, i ∈ deps o → j ∈ deps o → i ≠ j → ha i ≤ la j ∨ ha j ≤ la i) → OS P n f' w' o (fun v w'' => Same [] w w'' ∧ w'.heap.size ≤ w''.heap.size ∧ R true s v w'.heap.size w''.heap.size w'' ∧ ∀ k v x y, k ≠ s → R false k v x y w' → R true k v x y w''))
    (hsm : s < m)
    (fin : ∀ f' w' (la ha : Nat → Nat), Same [] w w' → Ag S f' f → (∀ i, i < m → R true i (f' (dstOf l.toArray i)) (la i) (ha i) w') → WL P l.toArray Q (l.drop m) n f' w') : WC P (.region id l.toArray true) Q n f w := by
  unfold WC
  refine wp_region_any hm ?_
  simp only [monoT, Bool.and_eq_true, List.all_eq_true, List.mem_range, decide_eq_true_eq] at hB
  obtain ⟨⟨hh, hlen⟩, hl⟩ := hB
  have hget : ∀ i, i < m → ∃ o d, l[i]? = some o ∧ o.dst = some d ∧ mem S d = true ∧ o.guard = none ∧ (∀ j ∈ deps o, j < i) ∧ (∀ j, j < m → i ≠ j → dstOf l.toArray i ≠ dstOf l.toArray j) ∧ dstOf l.toArray i = d := by
    intro i hi
    have h := hh i hi
    cases ho : l[i]? with
    | none => simp [ho] at h
    | some o =>
      simp only [ho, Bool.and_eq_true] at h
      obtain ⟨⟨⟨h1, h2⟩, h3⟩, h4⟩ := h
      cases hd : o.dst with
      | none => simp [hd] at h1
      | some d =>
        simp only [hd] at h1
        refine ⟨o, d, rfl, hd, h1, by simpa using h2, fun j hj => by simpa using List.all_eq_true.1 h3 j hj, fun j hj hne => ?_, by simp [dstOf, ho, hd]⟩
        have := List.all_eq_true.1 h4 j (List.mem_range.2 hj)
        simpa [hne] using this
  have ready_of : ∀ (listed : Array Bool) (i : Nat) (o : Oper), listed.size = l.length → l[i]? = some o → listed.getD i false = false → (∀ j ∈ deps o, listed.getD j false = true) → i ∈ Region.ready .any l.toArray listed := by
    intro listed i o hs ho hn hd
    have hi : i < l.length := (List.getElem?_eq_some_iff.1 ho).1
    simp only [Region.ready, List.mem_filter, List.mem_range, Bool.and_eq_true, Bool.not_eq_true']
    refine ⟨by simpa using hi, ?_, ?_⟩
    · simp only [Array.getD_eq_getD_getElem?] at hn ⊢
      have : i < listed.size := by omega
      simp only [Array.getElem?_eq_getElem this, Option.getD_some] at hn ⊢
      exact hn
    · simp only [List.getElem?_toArray, ho, Option.map_some, Option.getD_some]
      exact all_of_deps hd
  have ready_inv : ∀ (listed : Array Bool) (i : Nat), i ∈ Region.ready .any l.toArray listed → ∃ o, l[i]? = some o ∧ listed.getD i false = false ∧ ∀ j ∈ deps o, listed.getD j false = true := by
    intro listed i hi
    simp only [Region.ready, List.mem_filter, List.mem_range, Bool.and_eq_true, Bool.not_eq_true'] at hi
    obtain ⟨hi, hn, hd⟩ := hi
    have hi' : i < l.length := by simpa using hi
    refine ⟨l[i], List.getElem?_eq_getElem hi', ?_, ?_⟩
    · simp only [Array.getD_eq_getD_getElem?] at hn ⊢
      cases hq : listed[i]? with
      | none => rfl
      | some b => simpa [hq] using hn
    · simp only [List.getElem?_toArray, List.getElem?_eq_getElem hi', Option.map_some, Option.getD_some] at hd
      exact deps_mem hd
  have key : ∀ (fuel : Nat) (listed : Array Bool) (f' : Fr) (w' : World) (la ha : Nat → Nat), listed.size = l.length → Dn l listed → (∀ t, m ≤ t → listed.getD t false = false) → Same [] w w' → Ag S f' f → (∀ i, i < m → listed.getD i false = true → R (listed.getD s false) i (f' (dstOf l.toArray i)) (la i) (ha i) w') → (∀ i, i < m → listed.getD i false = true → ha i ≤ w'.heap.size) → (∀ i j, i < m → j < m → i ≠ j → listed.getD i false = true → listed.getD j false = true → ha i ≤ la j ∨ ha j ≤ la i) →
      (List.range m).countP (fun i => !listed.getD i false) + (l.length - m) ≤ fuel → wpAny P .any l.toArray Q fuel listed (AF n f') w' := by
    intro fuel
    induction fuel with
    | zero =>
      intro listed f' w' la ha hs hD ht hSX hag hR hH hI hc
      have hlm : l.length = m := by omega
      have hall : ∀ i, i < m → listed.getD i false = true := by
        intro i hi
        have h0 : (List.range m).countP (fun i => !listed.getD i false) = 0 := by omega
        rw [List.countP_eq_zero] at h0
        have := h0 i (List.mem_range.2 hi)
        simpa using this
      refine ⟨?_, ?_⟩
      · cases hr : Region.ready .any l.toArray listed with
        | nil => rfl
        | cons i r =>
          have hi : i ∈ Region.ready .any l.toArray listed := by rw [hr]; simp
          obtain ⟨o, ho, hn, _⟩ := ready_inv listed i hi
          have : i < l.length := (List.getElem?_eq_some_iff.1 ho).1
          rw [hall i om] at hn; cases hn
      · have := fin f' w' la ha hSX hag (fun i hi => by have := hR i hi (hall i hi); rwa [hall s hsm] at this)
        rw [List.drop_eq_nil_of_le om] at this
        unfold WL at this; exact this
    | succ fuel ih =>
      intro listed f' w' la ha hs hD ht hSX hag hR hH hI hc
      refine ⟨fun hr => ?_, fun i hi => ?_⟩
      · -- nothing is ready: all is done
        have hall : ∀ k, k ≤ m → ∀ i, i < k → listed.getD i false = true := by
          intro k
          induction k with
          | zero => intro _ i hi; omega
          | succ k ihk =>
            intro hk i hi
            have ihk' := ihk om
            by_cases hik : i < k
            · exact ihk' i hik
            · have : i = k := by omega
              subst this
              cases hb : listed.getD i false with
              | true => rfl
              | false =>
                obtain ⟨o, d, ho, _, _, _, hd, _, _⟩ := hget i om
                have := ready_of listed i o hs ho hb (fun j hj => ihk' j (hd j hj))
                rw [hr] at this; cases this
        have hlm : l.length = m := by
          rcases Nat.lt_or_ge m l.length with hm' | hm'
          · exfalso
            have ho : l[m]? = some l[m] := List.getElem?_eq_getElem hm'
            have hd : ∀ j ∈ deps l[m], listed.getD j false = true := fun j hj => hall m (Nat.le_refl _) j (tail_dep (hl m hm') om ho j hj)
            have := ready_of listed m _ hs ho (ht m (Nat.le_refl _)) hd
            rw [hr] at this; cases this
          · omega
        have := fin f' w' la ha hSX hag (fun i hi => by have := hR i hi (hall m (Nat.le_refl _) i hi); rwa [hall m (Nat.le_refl _) s hsm] at this)
        rw [List.drop_eq_nil_of_le om] at this
        unfold WL at this; exact this
      · obtain ⟨o, ho, hn, hd⟩ := ready_inv listed i hi
        have hil : i < l.length := (List.getElem?_eq_some_iff.1 ho).1
        unfold wpOp
        simp only [List.getElem?_toArray, ho]
        by_cases him : i < m
        · obtain ⟨o', d, ho', hdst, hSd, hg, hdl, hdd, hde⟩ := hget i him
          rw [ho] at ho'
          cases ho'
          have hnw : o.guard = none := hg
          rw [if_pos (by simp [Region.wanted, hnw])]
          left
          have next : ∀ v w'' (bb : Bool), Same [] w w'' → w'.heap.size ≤ w''.heap.size → bb = (listed.setIfInBounds i true).getD s false → R bb i v w'.heap.size w''.heap.size w'' → (∀ k v la ha, k ≠ i → R (listed.getD s false) k v la ha w' → R bb k v la ha w'') → wpAny P .any l.toArray Q fuel (listed.setIfInBounds i true) (AF n (upd f' d v)) w'' := by
            intro v w'' bb hsX hsz hbb hr1 hro
            have hother : ∀ j, j < m → i ≠ j → upd f' d v (dstOf l.toArray j) = f' (dstOf l.toArray j) := fun j hj hij => by
              have hne := hdd j hj hij
              rw [hde] at hne
              simp only [upd]
              have : Nat.beq (dstOf l.toArray j) d = false := by
                cases hb : Nat.beq (dstOf l.toArray j) d
                · rfl
                · exact absurd (Nat.eq_of_beq_eq_true hb).symm hne
              simp [this]
            have hli : ∀ j, i ≠ j → (listed.setIfInBounds i true).getD j false = listed.getD j false := fun j hij => by
              simp only [Array.getD_eq_getD_getElem?, Array.getElem?_setIfInBounds_ne hij]
            have hii : (listed.setIfInBounds i true).getD i false = true := by
              have : i < listed.size := by omega
              simp [this]
            rw [hbb] at hr1 hro
            refine ih _ _ _ (fun k => if k = i then w'.heap.size else la k) (fun k => if k = i then w''.heap.size else ha k) (by simpa using hs) (hD.set om ho hd) ?_ hsX (ag_upd hSd hag) ?_ ?_ ?_ ?_
            · intro t hmt
              have : i ≠ t := by omega
              rw [hli t this]; exact ht t hmt
            · intro j hj hl'
              by_cases hij : i = j
              · subst hij
                rw [hde]
                have : upd f' d v d = v := by simp [upd]
                rw [this]; simp only [if_true]; exact hr1
              · rw [hother j hj hij]
                rw [hli j hij] at hl'
                simp only [if_neg (Ne.symm hij)]
                exact hro j _ _ _ (Ne.symm hij) (hR j hj hl')
            · intro j hj hl'
              by_cases hij : i = j
              · subst hij; simp
              · rw [hli j hij] at hl'
                simp only [if_neg (Ne.symm hij)]
                exact lT (hH j hj hl') hsz
            · intro j1 j2 hj1 hj2 hne hl1 hl2
              by_cases e1 : i = j1
              · subst e1
                rw [hli j2 hne] at hl2
                have := hH j2 hj2 hl2
                simp only [if_true, if_neg (Ne.symm hne)]
                exact .inr this
              · rw [hli j1 e1] at hl1
                by_cases e2 : i = j2
                · subst e2
                  have := hH j1 hj1 hl1
                  simp only [if_true, if_neg (Ne.symm e1)]
                  exact .inl this
                · rw [hli j2 e2] at hl2
                  simp only [if_neg (Ne.symm e1), if_neg (Ne.symm e2)]
                  exact hI j1 j2 hj1 hj2 hne hl1 hl2
            · have hlt := countP_lt (p := fun i => !listed.getD i false) (q := fun k => !(listed.setIfInBounds i true).getD k false) (fun x hx => by
                by_cases hix : i = x
                · subst hix; simp [hn]
                · simpa only [Array.getD_eq_getD_getElem?, Array.getElem?_setIfInBounds_ne hix] using hx) (List.range m) i (List.mem_range.2 him) (by simp [hn]) (by rw [hii]; rfl)
              omega
          by_cases e : i = s
          · subst e
            have h1 := stepS o ho f' w' la ha hSX hag (fun j hj => by have := hR j (Nat.lt_trans (hdl j hj) him) (hd j hj); rwa [hn] at this) (fun i1 j1 hi1 hj1 hne => hI i1 j1 (Nat.lt_trans (hdl i1 hi1) him) (Nat.lt_trans (hdl j1 hj1) him) hne (hd i1 hi1) (hd j1 hj1))
            unfold OS at h1
            refine h1 _ _ ?_
            rintro v w'' ⟨hsX, hsz, hr1, hro⟩
            rw [hdst, put_AF]
            have hii : (listed.setIfInBounds i true).getD i false = true := by
              have : i < listed.size := by omega
              simp [this]
            exact next v w'' true hsX hsz hii.symm hr1 (fun k v la ha hk h => hro k v la ha hk (by rwa [hn] at h))
          · have h1 := step _ i o him e ho f' w' la ha hSX hag (fun j hj => hR j (Nat.lt_trans (hdl j hj) him) (hd j hj))
            unfold OS at h1
            refine h1 _ _ ?_
            rintro v w'' ⟨hs1, hr1⟩
            rw [hdst, put_AF]
            have hls : (listed.setIfInBounds i true).getD s false = listed.getD s false := by
              simp only [Array.getD_eq_getD_getElem?, Array.getElem?_setIfInBounds_ne e]
            exact next v w'' _ (hSX.trans hs1) hs1.size hls.symm hr1 (fun k v la ha _ h => hst _ k v la ha _ _ h hs1)
        · -- the tail
          have hall := tail_all (hl i hil) om ho hD hd
          have : i = m := by
            rcases Nat.lt_or_ge m i with h | h
            · have h1 := hall m h
              rw [ht m (Nat.le_refl _)] at h1; cases h1
            · omega
          subst this
          have hW := fin f' w' la ha hSX hag (fun j hj => by have := hR j hj (hall j hj); rwa [hall s om] at this)
          have hT := any_tail (Q := Q) hl (l.length - i) (fuel + 1) i listed (AF n f') w' om om (Nat.le_refl _) hs hD hall ht (by unfold WL at hW; exact hW)
          have := hT.2 i hi
          unfold wpOp at this
          simp only [List.getElem?_toArray, ho] at this
          exact this
  have h0 := key l.length (Array.replicate l.length false) f { w with drawn := w.drawn + 1 } (fun _ => 0) (fun _ => 0) (by simp) (fun j o _ h => by
    simp only [Array.getD_eq_getD_getElem?, Array.getElem?_replicate] at h
    split at h <;> cases h) (fun t _ => by
    simp only [Array.getD_eq_getD_getElem?, Array.getElem?_replicate]; split <;> rfl) (Same.drew w 1) ag_refl (fun i hi h => by
    simp only [Array.getD_eq_getD_getElem?, Array.getElem?_replicate] at h
    split at h <;> cases h) (fun _ _ _ => Nat.zero_le _) (fun _ _ _ _ _ _ _ => .inl (Nat.le_refl _)) (by
      have := List.countP_le_length (p := fun i => !(Array.replicate l.length false).getD i false) (l := List.range m)
      simp only [List.length_range] at this
      omega)
  simpa using h0
theorem c_monoZO {id : Nat} {l : List Oper} (m : Nat) (S : List Nat) (s : Nat) (R : Bool → Nat → Value → Nat → Nat → World → Prop) (hm : P.follows .mixedOrders = true) (hB : monoT l m S = true)
    (hst : ∀ b i v la ha w1 w2, R b i v la ha w1 → Same [] w1 w2 → R b i v la ha w2)
    (step : ∀ b i o, i < m → i ≠ s → l[i]? = some o → ∀ g w' (la ha : Nat → Nat), Same [] w w' → (∀ j ∈ deps o, R b j (g (dstOf l.toArray j)) (la j) (ha j) w') → OS P n (ovr S g f) w' o (fun v w'' => Same [] w' w'' ∧ R b i v w'.heap.size w''.heap.size w''))
    (stepS : ∀ o, l[s]? = some o → ∀ g w' (la ha : Nat → Nat), Same [] w w' → (∀ j ∈ deps o, R false j (g (dstOf l.toArray j)) (la j) (ha j) w') → (∀ i j, i ∈ deps o → j ∈ deps o → i ≠ j → ha i ≤ la j ∨ ha j ≤ la i) → OS P n (ovr S g f) w' o (fun v w'' => Same [] w w'' ∧ w'.heap.size ≤ w''.heap.size ∧ R true s v w'.heap.size w''.heap.size w'' ∧ ∀ k v x y, k ≠ s → R false k v x y w' → R true k v x y w''))
    (hsm : s < m)
    (fin : ∀ g w' (la ha : Nat → Nat), Same [] w w' → (∀ i, i < m → R true i (g (dstOf l.toArray i)) (la i) (ha i) w') → WL P l.toArray Q (l.drop m) n (ovr S g f) w') : WC P (.region id l.toArray true) Q n f w := by
  refine c_monoZ m S s R hm hB hst (fun b i o hi hne ho f' w' la ha hs hag hd => ?_) (fun o ho f' w' la ha hs hag hd hI => ?_) hsm (fun f' w' la ha hs hag hR => ?_)
  · have := step b i o hi hne ho f' w' la ha hs hd
    rwa [← ag_ovr hag] at this
  · have := stepS o ho f' w' la ha hs hd hI
    rwa [← ag_ovr hag] at this
  · have := fin f' w' la ha hs hR
    rwa [← ag_ovr hag] at this
theorem r_slM {dst : Option Tmp} {gd : Option (Nat × Bool)} {g o m c l l2 : Nat} {sz : Nat} (hu : P.underlying t = some (.slice e)) (hs : (P.info? e).map (·.size) = some sz) (hx : ev n f x = .slice (some ⟨g, o, none⟩) m c) (hy : ev n f y = .int .i64 (l : Int)) (hl : l ≤ m) (hc : l < c) (hl2 : m - l = l2) :
    RV P n f w ⟨dst, .slice t x (some y) none none, ty, pos, af, gd⟩ (.slice (some ⟨g, o + l * sz, none⟩) l2 (c - l)) w := by
  have h := r_slL (w := w) (dst := dst) (gd := gd) (ty := ty) (pos := pos) (af := af) hu hs hx hy hl
  rw [if_neg om] at h
  subst hl2
  have e1 : Option.map (fun z : Addr => z.add (l * sz)) (some (⟨g, o, none⟩ : Addr)) = some ⟨g, o + l * sz, none⟩ := by
    show some (Addr.add _ _) = _
    rw [Addr.add_mid]
  rw [e1] at h; exact h
theorem Own.whole {base sz k cap : Nat} {A : Option Addr} {xs : List Value} (h : Own w base e sz A k cap xs) (hk : 0 < k) : ∃ (g : Nat) (cur : Array Value), A = some ⟨g, 0, none⟩ ∧ base ≤ g ∧ Blk w g e cur ∧ cap ≤ 9223372036854775807 ∧ cur.size = cap * sz ∧ cur.toList.take (k * sz) = xs := by
  rcases h.2 with ⟨_, h0⟩ | ⟨g, c, cur, hv, hb, hg, hkc, hm, hs, ht⟩
  · omega
  · cases hv
    exact ⟨g, cur, rfl, hb, hg, by simpa [maxLen] using hm, hs, ht⟩
theorem own_mk {base sz k cap g : Nat} {cur : Array Value} {xs : List Value} (hb : Blk w g e cur) (hbase : base ≤ g) (hk : k ≤ cap) (hm : cap ≤ 9223372036854775807) (hs : cur.size = cap * sz) (hx : cur.toList.take (k * sz) = xs) : Own w base e sz (some ⟨g, 0, none⟩) k cap xs := by
  have hle : k * sz ≤ cap * sz := Nat.mul_le_mul_right sz hk
  subst hx
  exact ⟨by rw [List.length_take, Array.length_toList]; omega, .inr ⟨g, cap, cur, rfl, hbase, hb, hk, by simpa [maxLen] using hm, hs, rfl⟩⟩
theorem cpy_list (cur : Array Value) (o : Nat) (cs : List Value) : (cpy cur o cs).toList = cur.toList.take o ++ (cs ++ cur.toList.drop (o + cs.length)) := by simp [cpy]
theorem cpy_new {cur : Array Value} {Ps Zs Xs Ys : List Value} {o1 o2 : Nat} (h : cur.toList = Ps ++ Zs) (h1 : o1 = Ps.length) (h2 : o2 = Ps.length + Xs.length) : (cpy (cpy cur o1 Xs) o2 Ys).toList.take (Ps.length + Xs.length + Ys.length) = Ps ++ (Xs ++ Ys) := by
  subst h1 h2
  have e1 : (cpy cur Ps.length Xs).toList = (Ps ++ Xs) ++ Zs.drop Xs.length := by
    rw [cpy_list, h, List.take_append_of_le_length (Nat.le_refl _), List.take_length, List.drop_append, List.drop_eq_nil_of_le (Nat.le_add_right _ _), Nat.add_sub_cancel_left]
    simp
  have e2 : Ps.length + Xs.length = (Ps ++ Xs).length := by simp
  rw [cpy_list, e1, e2, List.take_append_of_le_length (Nat.le_refl _), List.take_length, ← List.append_assoc, ← List.length_append, List.take_append_of_le_length (Nat.le_refl _), List.take_length]
  simp
theorem cpy_move {cur : Array Value} {Ps Zs Xs Ys : List Value} {o1 o2 : Nat} (h : cur.toList = Ps ++ (Ys ++ Zs)) (h1 : o1 = Ps.length) (h2 : o2 = Ps.length + Xs.length) (hz : Xs.length ≤ Zs.length) : (cpy (cpy cur o2 Ys) o1 Xs).toList.take (Ps.length + Xs.length + Ys.length) = Ps ++ (Xs ++ Ys) := by
  subst h1 h2
  have hc : (cpy cur (Ps.length + Xs.length) Ys).toList = cur.toList.take (Ps.length + Xs.length) ++ (Ys ++ cur.toList.drop (Ps.length + Xs.length + Ys.length)) := cpy_list _ _ _
  have hl : (cur.toList.take (Ps.length + Xs.length)).length = Ps.length + Xs.length := by
    rw [List.length_take, h]; simp only [List.length_append]; omega
  have ht : (cur.toList.take (Ps.length + Xs.length)).take Ps.length = Ps := by
    rw [List.take_take, Nat.min_eq_left (Nat.le_add_right _ _), h, List.take_append_of_le_length (Nat.le_refl _), List.take_length]
  have e1 : (cpy cur (Ps.length + Xs.length) Ys).toList.take Ps.length = Ps := by
    rw [hc, List.take_append_of_le_length om, ht]
  have e2 : (cpy cur (Ps.length + Xs.length) Ys).toList.drop (Ps.length + Xs.length) = Ys ++ cur.toList.drop (Ps.length + Xs.length + Ys.length) := by
    rw [hc, List.drop_append, List.drop_eq_nil_of_le om, hl, Nat.sub_self]; simp
  rw [cpy_list, e1, e2]
  have e3 : Ps ++ (Xs ++ (Ys ++ cur.toList.drop (Ps.length + Xs.length + Ys.length))) = (Ps ++ (Xs ++ Ys)) ++ cur.toList.drop (Ps.length + Xs.length + Ys.length) := by simp
  have e4 : Ps.length + Xs.length + Ys.length = (Ps ++ (Xs ++ Ys)).length := by simp [Nat.add_assoc]
  rw [e3, e4, List.take_append_of_le_length (Nat.le_refl _), List.take_length]
end six
end Go.Proofs.YteoncmfiiknfbaaDoor
namespace Go.Proofs.YteoncmfiiknfbaaDoor
open Go.RowKit
section seven
variable {P : Program} {Q : Exit → Act → World → Prop} {n : Nat} {f : Fr} {w : World}
def stU (st : Nat → Bool) (i k : Nat) : Bool := if k = i then true else st k
def stL (sp : Nat → Bool) (listed : Array Bool) (k : Nat) : Bool := listed.getD k false && sp k
def reach (l : List Oper) : Nat → Nat → Nat → Bool
  | 0, _, _ => false
  | k + 1, s, i => match l[s]? with
    | some o => (deps o).any (fun j => Nat.beq j i || reach l k j i)
    | none => false
theorem reach_dn {l : List Oper} {listed : Array Bool} (hD : Dn l listed) : ∀ {k s i : Nat}, reach l k s i = true → listed.getD s false = true → listed.getD i false = true
  | 0, _, _, h, _ => by cases h
  | k + 1, s, i, h, hs => by
    unfold reach at h
    cases ho : l[s]? with
    | none => rw [ho] at h; cases h
    | some o =>
      rw [ho] at h
      obtain ⟨j, hj, h2⟩ := List.any_eq_true.1 h
      have hjl := hD s o ho hs j hj
      rw [Bool.or_eq_true] at h2
      rcases h2 with h2 | h2
      · rw [← Nat.eq_of_beq_eq_true h2]; exact hjl
      · exact reach_dn hD h2 hjl
theorem c_monoU {id : Nat} {l : List Oper} (m : Nat) (S X : List Nat) (sp : Nat → Bool) (R : (Nat → Bool) → Nat → Value → Nat → Nat → World → Prop) (hm : P.follows .mixedOrders = true) (hB : monoK l m S = true)
    (hst : ∀ st i v la ha w1 w2, R st i v la ha w1 → Same [] w1 w2 → R st i v la ha w2)
    (step : ∀ st i o, i < m → sp i = false → l[i]? = some o → (∀ s, sp s = true → reach l m s i = true → st s = false) → ∀ f' w' (la ha : Nat → Nat), Same X w w' → Ag S f' f → (∀ j o', j ∈ deps o → l[j]? = some o' → R st j (vO f' o') (la j) (ha j) w') → OS P n f' w' o (fun v w'' => Same [] w' w'' ∧ R st i v w'.heap.size w''.heap.size w''))
    (stepS : ∀ st i o, i < m → sp i = true → st i = false → l[i]? = some o → (∀ s, sp s = true → reach l m s i = true → st s = false) → ∀ f' w' (la ha : Nat → Nat), Same X w w' → Ag S f' f → (∀ j o', j ∈ deps o → l[j]? = some o' → R st j (vO f' o') (la j) (ha j) w') → (∀ j k, j ∈ deps o → k ∈ deps o → j ≠ k → ha j ≤ la k ∨ ha k ≤ la j) → OS P n f' w' o (fun v w'' => Same X w w'' ∧ w'.heap.size ≤ w''.heap.size ∧ rO (fun i v w'' => R (stU st i) i v w'.heap.size w''.heap.size w'') i o v w'' ∧ ∀ k o', k ≠ i → l[k]? = some o' → R st k (vO f' o') (la k) (ha k) w' → R (stU st i) k (vO f' o') (la k) (ha k) w''))
    (hspd : ∀ i o, l[i]? = some o → o.dst = none → sp i = true)
    (fin : ∀ st f' w' (la ha : Nat → Nat), (∀ k, k < m → sp k = true → st k = true) → Same X w w' → Ag S f' f → (∀ i o, l[i]? = some o → R st i (vO f' o) (la i) (ha i) w') → (∀ i j, i < m → j < m → i ≠ j → ha i ≤ la j ∨ ha j ≤ la i) → WL P l.toArray Q [] n f' w') : WC P (.region id l.toArray true) Q n f w := by
  unfold WC
  refine wp_region_any hm ?_
  simp only [monoK, Bool.and_eq_true, List.all_eq_true, List.mem_range, decide_eq_true_eq] at hB
  obtain ⟨hlm, hB⟩ := hB
  have hget : ∀ i o, l[i]? = some o → o.guard = none ∧ (∀ j ∈ deps o, j < i) ∧ ∀ d, o.dst = some d → mem S d = true ∧ ∀ j o', l[j]? = some o' → i ≠ j → o'.dst ≠ some d := fun i o ho => by
    have hil : i < l.length := (List.getElem?_eq_some_iff.1 ho).1
    have h := hB i hil
    simp only [ho, Bool.and_eq_true] at h
    obtain ⟨⟨h1, h2⟩, h3⟩ := h
    refine ⟨Option.isNone_iff_eq_none.1 h1, fun j hj => by simpa using List.all_eq_true.1 h2 j hj, fun d hd => ?_⟩
    simp only [hd, Bool.and_eq_true] at h3
    refine ⟨h3.1, fun j o' ho' hne hd' => ?_⟩
    have h4 := List.all_eq_true.1 h3.2 j (List.mem_range.2 (List.getElem?_eq_some_iff.1 ho').1)
    simp [ho', hd', hne] at h4
  have key : ∀ (fuel : Nat) (listed : Array Bool) (f' : Fr) (w' : World) (la ha : Nat → Nat), listed.size = l.length → Dn l listed → Same X w w' → Ag S f' f → (∀ i o, l[i]? = some o → listed.getD i false = true → R (stL sp listed) i (vO f' o) (la i) (ha i) w') → (∀ i, i < l.length → listed.getD i false = true → ha i ≤ w'.heap.size) → (∀ i j, i < l.length → j < l.length → i ≠ j → listed.getD i false = true → listed.getD j false = true → ha i ≤ la j ∨ ha j ≤ la i) →
      (List.range l.length).countP (fun i => !listed.getD i false) ≤ fuel → wpAny P .any l.toArray Q fuel listed (AF n f') w' := by
    have fin' : ∀ (listed : Array Bool) (f' : Fr) (w' : World) (la ha : Nat → Nat), Same X w w' → Ag S f' f → (∀ i o, l[i]? = some o → listed.getD i false = true → R (stL sp listed) i (vO f' o) (la i) (ha i) w') → (∀ i j, i < l.length → j < l.length → i ≠ j → listed.getD i false = true → listed.getD j false = true → ha i ≤ la j ∨ ha j ≤ la i) → (∀ i, i < l.length → listed.getD i false = true) → Q .normal (AF n f') w' := fun listed f' w' la ha hs hag hR hI hall => by
      have := fin (stL sp listed) f' w' la ha (fun k hk hsk => by unfold stL; rw [hall k om, hsk]; rfl) hs hag (fun i o ho => hR i o ho (hall i (List.getElem?_eq_some_iff.1 ho).1)) (fun i j hi hj hne => hI i j om om hne (hall i om) (hall j om))
      unfold WL at this; exact this
    intro fuel
    induction fuel with
    | zero =>
      intro listed f' w' la ha hs hD hsm hag hR hH hI hc
      have hall : ∀ i, i < l.length → listed.getD i false = true := by
        intro i hi
        have h0 : (List.range l.length).countP (fun i => !listed.getD i false) = 0 := by omega
        rw [List.countP_eq_zero] at h0
        have := h0 i (List.mem_range.2 hi)
        simpa using this
      refine ⟨?_, fin' listed f' w' la ha hsm hag hR hI hall⟩
      cases hr : Region.ready .any l.toArray listed with
      | nil => rfl
      | cons i r =>
        obtain ⟨o, ho, hn, _⟩ := ready_inv' listed i (by rw [hr]; simp)
        have : i < l.length := (List.getElem?_eq_some_iff.1 ho).1
        rw [hall i om] at hn; cases hn
    | succ fuel ih =>
      intro listed f' w' la ha hs hD hsm hag hR hH hI hc
      refine ⟨fun hr => ?_, fun i hi => ?_⟩
      · have hall : ∀ k, k ≤ l.length → ∀ i, i < k → listed.getD i false = true := by
          intro k
          induction k with
          | zero => intro _ i hi; omega
          | succ k ihk =>
            intro hk i hi
            have ihk' := ihk om
            by_cases hik : i < k
            · exact ihk' i hik
            · have : i = k := by omega
              subst this
              cases hb : listed.getD i false with
              | true => rfl
              | false =>
                have ho : l[i]? = some l[i] := List.getElem?_eq_getElem om
                have := ready_of' listed i _ hs ho hb (fun j hj => ihk' j ((hget i _ ho).2.1 j hj))
                rw [hr] at this; cases this
        exact fin' listed f' w' la ha hsm hag hR hI (hall l.length (Nat.le_refl _))
      · obtain ⟨o, ho, hn, hd⟩ := ready_inv' listed i hi
        have hil : i < l.length := (List.getElem?_eq_some_iff.1 ho).1
        obtain ⟨hg, hdl, hdd⟩ := hget i o ho
        unfold wpOp
        simp only [List.getElem?_toArray, ho]
        rw [if_pos (by simp [Region.wanted, hg])]
        left
        have hstn : sp i = false → stL sp (listed.setIfInBounds i true) = stL sp listed := fun hsp => by
          funext k
          unfold stL
          by_cases hik : i = k
          · subst hik; rw [hsp, Bool.and_false, Bool.and_false]
          · simp only [Array.getD_eq_getD_getElem?, Array.getElem?_setIfInBounds_ne hik]
        have hsts : sp i = true → stL sp (listed.setIfInBounds i true) = stU (stL sp listed) i := fun hsp => by
          funext k
          unfold stL stU
          by_cases hik : k = i
          · subst hik
            have : k < listed.size := by omega
            simp [this, hsp]
          · rw [if_neg hik]
            simp only [Array.getD_eq_getD_getElem?, Array.getElem?_setIfInBounds_ne (Ne.symm hik)]
        have hli : ∀ j, i ≠ j → (listed.setIfInBounds i true).getD j false = listed.getD j false := fun j hij => by
          simp only [Array.getD_eq_getD_getElem?, Array.getElem?_setIfInBounds_ne hij]
        have hlt := countP_lt (p := fun i => !listed.getD i false) (q := fun k => !(listed.setIfInBounds i true).getD k false) (fun x hx => by
          by_cases hix : i = x
          · subst hix; simp [hn]
          · simpa only [Array.getD_eq_getD_getElem?, Array.getElem?_setIfInBounds_ne hix] using hx) (List.range l.length) i (List.mem_range.2 hil) (by simp [hn]) (by
            have : i < listed.size := by omega
            simp [this])
        have next : ∀ v w'', Same X w w'' → w'.heap.size ≤ w''.heap.size → rO (fun i v w'' => R (stL sp (listed.setIfInBounds i true)) i v w'.heap.size w''.heap.size w'') i o v w'' → (∀ k o', k ≠ i → l[k]? = some o' → R (stL sp listed) k (vO f' o') (la k) (ha k) w' → R (stL sp (listed.setIfInBounds i true)) k (vO f' o') (la k) (ha k) w'') → wpAny P .any l.toArray Q fuel (listed.setIfInBounds i true) ((AF n f').put o.dst v) w'' := by
          intro v w'' hs1 hsz hr1 hk1
          have hH2 : ∀ j, j < l.length → (listed.setIfInBounds i true).getD j false = true → (if j = i then w''.heap.size else ha j) ≤ w''.heap.size := fun j hj hl' => by
            by_cases hij : j = i
            · rw [if_pos hij]; exact Nat.le_refl _
            · rw [hli j (Ne.symm hij)] at hl'
              rw [if_neg hij]; exact lT (hH j hj hl') hsz
          have hI2 : ∀ j1 j2, j1 < l.length → j2 < l.length → j1 ≠ j2 → (listed.setIfInBounds i true).getD j1 false = true → (listed.setIfInBounds i true).getD j2 false = true → (if j1 = i then w''.heap.size else ha j1) ≤ (if j2 = i then w'.heap.size else la j2) ∨ (if j2 = i then w''.heap.size else ha j2) ≤ (if j1 = i then w'.heap.size else la j1) := fun j1 j2 hj1 hj2 hne hl1 hl2 => by
            by_cases e1 : j1 = i
            · subst e1
              rw [hli j2 hne] at hl2
              rw [if_pos rfl, if_neg (Ne.symm hne), if_neg (Ne.symm hne), if_pos rfl]
              exact .inr (hH j2 hj2 hl2)
            · rw [hli j1 (Ne.symm e1)] at hl1
              rw [if_neg e1, if_neg e1]
              by_cases e2 : j2 = i
              · rw [if_pos e2, if_pos e2]
                exact .inl (hH j1 hj1 hl1)
              · rw [hli j2 (Ne.symm e2)] at hl2
                rw [if_neg e2, if_neg e2]
                exact hI j1 j2 hj1 hj2 hne hl1 hl2
          cases hdst : o.dst with
          | none =>
            have hri : R (stL sp (listed.setIfInBounds i true)) i undef w'.heap.size w''.heap.size w'' := by simpa only [rO, hdst] using hr1
            show wpAny P .any l.toArray Q fuel (listed.setIfInBounds i true) (AF n f') w''
            refine ih _ _ _ (fun k => if k = i then w'.heap.size else la k) (fun k => if k = i then w''.heap.size else ha k) (by simpa using hs) (hD.set om ho hd) hs1 hag (fun j o' ho' hl' => ?_) hH2 hI2 om
            by_cases hij : i = j
            · subst hij
              rw [ho] at ho'; cases ho'
              simp only [if_true, vO, hdst]; exact hri
            · rw [hli j hij] at hl'
              simp only [if_neg (Ne.symm hij)]
              exact hk1 j o' (fun e => hij e.symm) ho' (hR j o' ho' hl')
          | some d =>
            have hri : R (stL sp (listed.setIfInBounds i true)) i v w'.heap.size w''.heap.size w'' := by simpa only [rO, hdst] using hr1
            obtain ⟨hSd, hne⟩ := hdd d hdst
            rw [put_AF]
            refine ih _ _ _ (fun k => if k = i then w'.heap.size else la k) (fun k => if k = i then w''.heap.size else ha k) (by simpa using hs) (hD.set om ho hd) hs1 (ag_upd hSd hag) (fun j o' ho' hl' => ?_) hH2 hI2 om
            by_cases hij : i = j
            · subst hij
              rw [ho] at ho'; cases ho'
              have : vO (upd f' d v) o = v := by simp [vO, hdst, upd]
              rw [this]; simp only [if_true]; exact hri
            · rw [hli j hij] at hl'
              have : vO (upd f' d v) o' = vO f' o' := by
                unfold vO
                cases hd' : o'.dst with
                | none => rfl
                | some d' =>
                  have h1 := hne j o' ho' hij
                  rw [hd'] at h1
                  simp only [upd]
                  have : Nat.beq d' d = false := by
                    cases hb : Nat.beq d' d
                    · rfl
                    · exact absurd (congrArg some (Nat.eq_of_beq_eq_true hb)) h1
                  simp [this]
              rw [this]
              simp only [if_neg (Ne.symm hij)]
              exact hk1 j o' (fun e => hij e.symm) ho' (hR j o' ho' hl')
        have hns : ∀ s, sp s = true → reach l m s i = true → stL sp listed s = false := fun s _ hr => by
          unfold stL
          cases hls : listed.getD s false with
          | false => rfl
          | true => rw [reach_dn hD hr hls] at hn; cases hn
        cases hsp : sp i with
        | false =>
          have hst1 := step (stL sp listed) i o om hsp ho hns f' w' la ha hsm hag (fun j o' hjd ho' => hR j o' ho' (hd j hjd))
          unfold OS at hst1
          refine hst1 _ _ ?_
          rintro v w'' ⟨hs1, hr1⟩
          refine next v w'' (hsm.trans (hs1.weak (by simp))) hs1.size ?_ (fun k o' _ _ h => by rw [hstn hsp]; exact hst _ _ _ _ _ _ _ h hs1)
          unfold rO
          cases hdst : o.dst with
          | none => have := hspd i o ho hdst; rw [hsp] at this; cases this
          | some d => simp only [hstn hsp]; exact hr1
        | true =>
          have hst1 := stepS (stL sp listed) i o om hsp (by unfold stL; rw [hn]; rfl) ho hns f' w' la ha hsm hag (fun j o' hjd ho' => hR j o' ho' (hd j hjd)) (fun j k hj hk hne => hI j k (by have := hdl j hj; omega) (by have := hdl k hk; omega) hne (hd j hj) (hd k hk))
          unfold OS at hst1
          refine hst1 _ _ ?_
          rintro v w'' ⟨hs1, hsz, hr1, hk1⟩
          rw [← hsts hsp] at hk1
          refine next v w'' hs1 hsz ?_ hk1
          unfold rO at hr1 ⊢
          cases hdst : o.dst with
          | none => simp only [hdst] at hr1 ⊢; rw [hsts hsp]; exact hr1
          | some d => simp only [hdst] at hr1 ⊢; rw [hsts hsp]; exact hr1
  have h0 := key l.length (Array.replicate l.length false) f { w with drawn := w.drawn + 1 } (fun _ => 0) (fun _ => 0) (by simp) (fun j o _ h => by
    simp only [Array.getD_eq_getD_getElem?, Array.getElem?_replicate] at h
    split at h <;> cases h) ((Same.drew w 1).weak (fun x hx => by cases hx)) ag_refl (fun i o _ h => by
    simp only [Array.getD_eq_getD_getElem?, Array.getElem?_replicate] at h
    split at h <;> cases h) (fun _ _ _ => Nat.zero_le _) (fun _ _ _ _ _ _ _ => .inl (Nat.le_refl _)) (by
      have := List.countP_le_length (p := fun i => !(Array.replicate l.length false).getD i false) (l := List.range l.length)
      simp only [List.length_range] at this
      omega)
  simpa using h0
theorem c_monoUO {id : Nat} {l : List Oper} (m : Nat) (S X : List Nat) (sp : Nat → Bool) (R : (Nat → Bool) → Nat → Value → Nat → Nat → World → Prop) (hm : P.follows .mixedOrders = true) (hB : monoK l m S = true) (hsp : (List.range m).all (fun i => match l[i]? with | some o => o.dst.isSome || sp i | none => true) = true)
    (hst : ∀ st i v la ha w1 w2, R st i v la ha w1 → Same [] w1 w2 → R st i v la ha w2)
    (step : ∀ st i o, i < m → l[i]? = some o → (∀ s, sp s = true → reach l m s i = true → st s = false) → ∀ g w' (la ha : Nat → Nat), Same X w w' → (∀ j o', j ∈ deps o → l[j]? = some o' → R st j (vO g o') (la j) (ha j) w') → bif sp i then st i = false → (∀ j k, j ∈ deps o → k ∈ deps o → j ≠ k → ha j ≤ la k ∨ ha k ≤ la j) → OS P n (ovr S g f) w' o (fun v w'' => Same X w w'' ∧ w'.heap.size ≤ w''.heap.size ∧ rO (fun i v w'' => R (stU st i) i v w'.heap.size w''.heap.size w'') i o v w'' ∧ ∀ k o', k ≠ i → l[k]? = some o' → R st k (vO g o') (la k) (ha k) w' → R (stU st i) k (vO g o') (la k) (ha k) w'') else OS P n (ovr S g f) w' o (fun v w'' => Same [] w' w'' ∧ R st i v w'.heap.size w''.heap.size w''))
    (fin : ∀ st g w' (la ha : Nat → Nat), (∀ k, k < m → sp k = true → st k = true) → Same X w w' → (∀ i o, l[i]? = some o → R st i (vO g o) (la i) (ha i) w') → (∀ i j, i < m → j < m → i ≠ j → ha i ≤ la j ∨ ha j ≤ la i) → WL P l.toArray Q [] n (ovr S g f) w') : WC P (.region id l.toArray true) Q n f w := by
  have hlm : l.length = m := by
    have h := hB
    simp only [monoK, Bool.and_eq_true, decide_eq_true_eq] at h
    exact h.1
  have hvo : ∀ {f' : Fr}, Ag S f' f → f' = ovr S f' f := fun hag => ag_ovr hag
  refine c_monoU m S X sp R hm hB hst (fun st i o hi hs ho hns f' w' la ha hsm hag hd => ?_) (fun st i o hi hs hn ho hns f' w' la ha hsm hag hd hI => ?_) (fun i o ho hd => ?_) (fun st f' w' la ha hall hsm hag hR hI => ?_)
  · have h := step st i o hi ho hns f' w' la ha hsm hd
    rw [hs] at h
    rw [← hvo hag] at h
    exact h
  · have h := step st i o hi ho hns f' w' la ha hsm hd
    rw [hs] at h
    rw [← hvo hag] at h
    exact h hn hI
  · have hil := (List.getElem?_eq_some_iff.1 ho).1
    have h := List.all_eq_true.1 hsp i (List.mem_range.2 om)
    simpa [ho, hd] using h
  · have h := fin st f' w' la ha hall hsm hR hI
    rw [← hvo hag] at h
    exact h
theorem wl_appG {ops : Array Oper} {rest : List Oper} {d : Tmp} {ty t e : TypeId} {pos : String} {af : Array Edge} {x y : Operand} {zv : Value} {sz by' m cap g k c b o : Nat} {olds news : List Value} (hu : P.underlying t = some (.slice e)) (hi : (P.info? e).map (fun i => (i.zero, i.size, i.bytes)) = some (some zv, sz, by'))
    (hx : ev n f x = .slice (some ⟨g, 0, none⟩) m cap) (hy : ev n f y = .slice (some ⟨b, o, none⟩) k c) (hlo : olds.length = m * sz) (holds : ∀ j v, olds[j]? = some v → w.cell? ⟨g, j, none⟩ = some v) (hl : news.length = k * sz) (hn : ∀ j v, news[j]? = some v → w.cell? ⟨b, o + j, none⟩ = some v) (hroom : cap < m + k) (h63 : m + k ≤ 9223372036854775807) (hbytes : (m + k) * by' ≤ 140737488355328)
    (K : ∀ q cap' w1, Blk w1 q e (olds.toArray ++ news.toArray ++ Builtin.zeroCells zv.cells (cap' - (m + k))) → Same [] w w1 → w.heap.size ≤ q → WL P ops Q rest n (upd f d (.slice (some ⟨q, 0, none⟩) (m + k) cap')) w1) :
    WL P ops Q (⟨some d, .call { callee := .builtin .append, args := #[x, y], argTypes := #[t, t] }, ty, pos, af, none⟩ :: rest) n f w := by
  obtain ⟨i, hq, hzz⟩ := Option.map_eq_some_iff.1 hi
  simp only [Prod.mk.injEq] at hzz
  obtain ⟨z1, z2, z3⟩ := hzz
  have hr := run_append_grow (P := P) w t ty e i zv hu hq z1 ⟨g, 0, none⟩ m cap olds (by rw [z2]; exact hlo) (fun j v hj => by rw [Addr.add_mid, Nat.zero_add]; exact holds j v hj) ⟨b, o, none⟩ k c news (by rw [z2]; exact hl) (fun j v hj => by rw [Addr.add_mid]; exact hn j v hj) hroom om (growslice_fits hroom (by rw [z3]; exact hbytes))
  refine wl (v := .slice (some ⟨w.heap.size, 0, none⟩) (m + k) (grownCap w (m + k) cap e)) (w' := w.drew.alloc (.cells (olds.toArray ++ news.toArray ++ Builtin.zeroCells zv.cells (grownCap w (m + k) cap e - (m + k))) e)) ?_ (K _ _ _ ?_ ?_ (Nat.le_refl _))
  · simp only [RV, execOp, resolve, invoke, builtin, Sem.run_bind, Sem.run_pure, Result.andThen_ok, List.map_toArray, List.map_cons, List.map_nil, hx, hy, hr]
  · exact heap_alloc_new w.drew _
  · have hd : Same [] w w.drew := ⟨rfl, rfl, rfl, Nat.le_refl _, fun _ _ _ => rfl⟩
    exact hd.trans (same_alloc w.drew _)
end seven
end Go.Proofs.YteoncmfiiknfbaaDoor
