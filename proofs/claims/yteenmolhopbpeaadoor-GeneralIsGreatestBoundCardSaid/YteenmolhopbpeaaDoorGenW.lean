/- The engine's third part: cap, append of nothing, append of zeros to the nil slice. The engine's fourth part: a check of a pointer, a slice that owns its cells opened and closed again, rows of cells told by a list. The engine's eighth part: maps whose keys are two numbers and whose values count the keys. What the closure of Generalize keeps: the order of the pairs, their rows of links, the fault. No program in sight but rows in memory. -/
import Derived.Test.YteenmolhopbpeaaDoorEng2
import Derived.Lib.AppendZerosOnto
import Derived.Test.YteenmolhopbpeaaDoorDfs
import Derived.Test.YteenmolhopbpeaaDoorGTgt
import Derived.Test.YteenmolhopbpeaaDoorSFind
namespace Go.Proofs.YteenmolhopbpeaaDoor
open Go.RowKit
section eng3
variable {P : Program} {Q : Exit → Act → World → Prop} {n : Nat} {f : Fr} {w : World} {ops : Array Oper} {rest : List Oper} {d : Tmp} {ty t e : TypeId} {pos : String} {af : Array Edge} {x y : Operand}
theorem r_eqlBr {dst : Option Tmp} {gd : Option (Nat × Bool)} {p q r : Bool} {t' : TypeId} (hu : P.underlying t = some .bool) (hx : ev n f x = .bool p) (hy : ev n f y = .bool q) (h : (p == q) = r) : RV P n f w ⟨dst, .binOp .eql t x y t', ty, pos, af, gd⟩ (.bool r) w := by
  rw [← h]; exact r_eqlB hu hx hy
end eng3
end Go.Proofs.YteenmolhopbpeaaDoor
namespace Go.Proofs.YteenmolhopbpeaaDoor
open Go.RowKit
section eng4
variable {P : Program} {Q : Exit → Act → World → Prop} {n : Nat} {f : Fr} {w w' : World} {ops : Array Oper} {rest : List Oper} {d : Tmp} {ty t e : TypeId} {pos : String} {af : Array Edge} {x y : Operand}
variable {base sz k cap : Nat} {A : Option Addr} {xs : List Value}
theorem Own.open_ (h : Own w base e sz A k cap xs) (hk : 0 < k) : ∃ (g : Nat) (cur : Array Value), A = some ⟨g, 0, none⟩ ∧ base ≤ g ∧ Blk w g e cur ∧ k * sz ≤ cur.size ∧ (∀ j, j < k * sz → cur[j]? = xs[j]?) ∧ ∀ w1 o v, Blk w1 g e (cur.setIfInBounds o v) → Own w1 base e sz (some ⟨g, 0, none⟩) k cap (xs.set o v) := by
  rcases h.2 with ⟨_, hn⟩ | ⟨g, c, cur, hv, hb, hg, hkc, hm, hs, ht⟩
  · omega
  · cases hv
    have hle : k * sz ≤ cap * sz := Nat.mul_le_mul_right sz hkc
    refine ⟨g, cur, rfl, hb, hg, by omega, fun j hj => ?_, fun w1 o v hw => ⟨by rw [List.length_set]; exact h.1, .inr ⟨g, cap, _, rfl, hb, hw, hkc, hm, by rw [Array.size_setIfInBounds]; exact hs, ?_⟩⟩⟩
    · rw [← ht, List.getElem?_take_of_lt hj]; simp
    · rw [Array.toList_setIfInBounds, List.take_set, ht]
theorem own_ne {b1 b2 s1 s2 k1 k2 c1 c2 : Nat} {e1 e2 : TypeId} {A1 A2 : Option Addr} {x1 x2 : List Value} (h : Own w b1 e1 s1 A1 k1 c1 x1) (k : Own w b2 e2 s2 A2 k2 c2 x2) (hne : e1 ≠ e2) : ∀ g ∈ aL A1, ¬ g ∈ aL A2 := fun g h1 h2 => by
  have ht : ∀ {b s k c : Nat} {e : TypeId} {A : Option Addr} {x : List Value}, Own w b e s A k c x → g ∈ aL A → ∃ cs, Blk w g e cs := fun h hg => by
    rcases h.2 with ⟨hv, _⟩ | ⟨g', c', cur, hv, _, hb, _⟩
    · cases hv; cases hg
    · cases hv
      simp only [aL, List.mem_singleton] at hg
      subst hg; exact ⟨cur, hb⟩
  obtain ⟨c1, q1⟩ := ht h h1
  obtain ⟨c2, q2⟩ := ht k h2
  exact hne (blk_type q1 q2)
end eng4
end Go.Proofs.YteenmolhopbpeaaDoor
namespace Go.Proofs.YteenmolhopbpeaaDoor
open Go.RowKit
section mapkeys
variable {P : Program} {Q : Exit → Act → World → Prop} {n : Nat} {f : Fr} {w : World} {x y z : Operand} {t kt et ti : TypeId} {ops : Array Oper} {rest : List Oper}
def kOf (m z : Nat) : Value := .agg #[.int .i64 ((z / m : Nat) : Int), .int .i64 ((z % m : Nat) : Int)]
def kvL (m : Nat) : List Nat → Nat → List (Value × Value)
  | [], _ => []
  | z :: r, k => (kOf m z, .int .i64 (k : Int)) :: kvL m r (k + 1)
def MapN (w : World) (b m : Nat) (o : List Nat) : Prop :=
  ∃ es clock, w.heap[b]? = some (.map es clock) ∧ es.toList.map (fun e => (e.key, e.val)) = kvL m o 0
theorem MapN.lt {b m : Nat} {o : List Nat} (h : MapN w b m o) : b < w.heap.size := by obtain ⟨_, _, h, _⟩ := h; exact lt_of_heap h
theorem MapN.tr {X : List Nat} {w' : World} {b m : Nat} {o : List Nat} (h : MapN w b m o) (hs : Same X w w') (hx : b ∉ X) : MapN w' b m o := by
  obtain ⟨es, c, h, hm⟩ := h
  exact ⟨es, c, (hs.blk b (lt_of_heap h) hx).trans h, hm⟩
theorem MapN.tr0 {w' : World} {b m : Nat} {o : List Nat} (h : MapN w b m o) (hs : Same [] w w') : MapN w' b m o := h.tr hs (by simp)
theorem MapN.tr1 {c : Nat} {w' : World} {b m : Nat} {o : List Nat} (h : MapN w b m o) (hs : Same [c] w w') (hne : b ≠ c) : MapN w' b m o := h.tr hs (by simpa using hne)
theorem kvL_snoc (m z : Nat) : ∀ (o : List Nat) (k : Nat), kvL m (o ++ [z]) k = kvL m o k ++ [(kOf m z, .int .i64 ((k + o.length : Nat) : Int))]
  | [], k => rfl
  | a :: r, k => by
    simp only [List.cons_append, kvL, kvL_snoc m z r (k + 1), List.length_cons]
    rw [show k + 1 + r.length = k + (r.length + 1) by omega]
theorem run_sz {sz : Nat} (h : (P.info? t).map (·.size) = some sz) : (sizeOf t).run P w = .ok sz w := by
  cases hq : P.info? t with
  | none => rw [hq] at h; cases h
  | some i =>
    have : i.size = sz := by simpa [hq] using h
    simp [sizeOf, typeInfo, hq, this]
theorem run_eqA {a b c d' : Int} (ht : P.underlying t = some (.array 2 ti)) (hi : P.underlying ti = some (.int .i64)) (hs : (P.info? ti).map (·.size) = some 1) :
    (Op.equal t (.agg #[.int .i64 a, .int .i64 b]) (.agg #[.int .i64 c, .int .i64 d'])).run P w = .ok (decide (a = c ∧ b = d')) w := by
  have p1 : (part ti #[.int .i64 a, .int .i64 b] 0).run P w = .ok (.int .i64 a) w := run_part1 hi rfl rfl
  have p2 : (part ti #[.int .i64 c, .int .i64 d'] 0).run P w = .ok (.int .i64 c) w := run_part1 hi rfl rfl
  have p3 : (part ti #[.int .i64 a, .int .i64 b] 1).run P w = .ok (.int .i64 b) w := run_part1 hi rfl rfl
  have p4 : (part ti #[.int .i64 c, .int .i64 d'] 1).run P w = .ok (.int .i64 d') w := run_part1 hi rfl rfl
  have e1 : (Op.equalIn 9999 ti (.int .i64 a) (.int .i64 c)).run P w = .ok (a == c) w := run_equalIn_int (P := P) w 9998 ti .i64 .i64 a c hi
  have e2 : (Op.equalIn 9999 ti (.int .i64 b) (.int .i64 d')).run P w = .ok (b == d') w := run_equalIn_int (P := P) w 9998 ti .i64 .i64 b d' hi
  show (Op.equalIn (9999 + 1) t _ _).run P w = _
  rw [Op.equalIn]
  simp only [Sem.run_bind, run_underlying ht, Result.andThen_ok, run_sz hs]
  simp only [Std.Legacy.Range.forIn_eq_forIn_range', Std.Legacy.Range.size, Nat.sub_zero, Nat.add_sub_cancel, Nat.div_one, List.range'_succ, List.range'_zero, List.forIn_cons, List.forIn_nil]
  simp only [Nat.zero_mul, Nat.zero_add, Nat.one_mul, Sem.run_bind, p1, p2, Result.andThen_ok, e1]
  by_cases h1 : a = c
  · subst h1
    by_cases h2 : b = d'
    · subst h2; simp [p3, e2]
    · simp [h2, p3, p4, e2]
  · simp [h1]
theorem run_ckA {a b : Int} {em : Bool} (ht : P.underlying t = some (.array 2 ti)) (hi : P.underlying ti = some (.int .i64)) (hs : (P.info? ti).map (·.size) = some 1) :
    (Instr.checkKey em 10000 t (.agg #[.int .i64 a, .int .i64 b])).run P w = .ok () w := by
  have p1 : (part ti #[.int .i64 a, .int .i64 b] 0).run P w = .ok (.int .i64 a) w := run_part1 hi rfl rfl
  have p3 : (part ti #[.int .i64 a, .int .i64 b] 1).run P w = .ok (.int .i64 b) w := run_part1 hi rfl rfl
  have ck : ∀ (k : Nat) (v : Value), (Instr.checkKey em (k + 1) ti v).run P w = .ok () w := fun k v => by simp [Instr.checkKey, run_underlying hi]
  have ck9 := ck 9998
  show (Instr.checkKey em (9999 + 1) t _).run P w = _
  rw [Instr.checkKey]
  simp only [Sem.run_bind, run_underlying ht, Result.andThen_ok]
  simp only [Std.Legacy.Range.forIn_eq_forIn_range', Std.Legacy.Range.size, Nat.sub_zero, Nat.add_sub_cancel, Nat.div_one, List.range'_succ, List.range'_zero, List.forIn_cons, List.forIn_nil]
  simp only [Nat.zero_mul, Nat.zero_add, Nat.one_mul, Sem.run_bind, run_sz hs, p1, p3, Result.andThen_ok, ck9, Sem.run_pure]
theorem run_findNow_agg {d : TypeDesc} {cs : Array Value} {es : List MapEntry} (i : Nat) (h : es ≠ []) (hd : ∀ k, d ≠ .int k) (h1 : d ≠ .string) (h2 : d ≠ .bool) : Instr.findNow d (.agg cs) es i = none := by
  cases es with
  | nil => exact absurd rfl h
  | cons e r =>
    unfold Instr.findNow
    have : Instr.sameNow d (.agg cs) e.key = none := by unfold Instr.sameNow; split <;> simp_all
    rw [this]
theorem run_findA {m q : Nat} {b0 b1 : Nat} (ht : P.underlying kt = some (.array 2 ti)) (hi : P.underlying ti = some (.int .i64)) (hs : (P.info? ti).map (·.size) = some 1) (hq1 : q / m = b0) (hq2 : q % m = b1) (hm : 0 < m) :
    ∀ (o : List Nat) (es : List MapEntry) (i : Nat), es.map (fun e => (e.key, e.val)) = kvL m o i →
      (Instr.findAsking kt (.agg #[.int .i64 (b0 : Int), .int .i64 (b1 : Int)]) es i).run P w = .ok (if q ∈ o then some (i + o.idxOf q, .int .i64 ((i + o.idxOf q : Nat) : Int)) else none) w
  | [], es, i, h => by
    have : es = [] := by cases es <;> simp_all [kvL]
    subst this
    simp [Instr.findAsking]
  | a :: r, [], i, h => by simp [kvL] at h
  | a :: r, e :: es, i, h => by
    simp only [List.map_cons, kvL, List.cons.injEq, Prod.mk.injEq] at h
    obtain ⟨⟨hk, hv⟩, hr⟩ := h
    have ih := run_findA ht hi hs hq1 hq2 hm r es (i + 1) hr
    have he := run_eqA (P := P) (w := w) (a := (b0 : Int)) (b := (b1 : Int)) (c := ((a / m : Nat) : Int)) (d' := ((a % m : Nat) : Int)) ht hi hs
    unfold Instr.findAsking
    rw [hk]
    unfold kOf
    simp only [Sem.run_bind, he, Result.andThen_ok]
    by_cases ha : q = a
    · subst ha
      have : ((b0 : Int) = ((q / m : Nat) : Int) ∧ (b1 : Int) = ((q % m : Nat) : Int)) := by omega
      simp [this, hv]
    · have hne : ¬ ((b0 : Int) = ((a / m : Nat) : Int) ∧ (b1 : Int) = ((a % m : Nat) : Int)) := fun h2 => ha (by
        have e1 := Nat.div_add_mod q m
        have e2 := Nat.div_add_mod a m
        have h3 : q / m = a / m := by omega
        have h4 : q % m = a % m := by omega
        rw [← e1, ← e2, h3, h4])
      have ha2 : a ≠ q := fun e => ha e.symm
      have hb : (a == q) = false := by simpa using ha2
      rw [decide_eq_false hne]
      simp only [Bool.false_eq_true, if_false, ih, List.mem_cons, ha, false_or, List.idxOf_cons, hb, cond_false]
      by_cases hr2 : q ∈ r
      · simp only [hr2, if_true]
        rw [show i + 1 + r.idxOf q = i + (r.idxOf q + 1) by omega]
      · simp only [hr2, if_false]
theorem run_findKA {m q : Nat} {b0 b1 : Nat} (ht : P.underlying kt = some (.array 2 ti)) (hi : P.underlying ti = some (.int .i64)) (hs : (P.info? ti).map (·.size) = some 1) (hq1 : q / m = b0) (hq2 : q % m = b1) (hm : 0 < m) (o : List Nat) (es : List MapEntry) (h : es.map (fun e => (e.key, e.val)) = kvL m o 0) :
    (Instr.findKey kt (.agg #[.int .i64 (b0 : Int), .int .i64 (b1 : Int)]) es).run P w = .ok (if q ∈ o then some (o.idxOf q, .int .i64 ((o.idxOf q : Nat) : Int)) else none) w := by
  have hf := run_findA (w := w) ht hi hs hq1 hq2 hm o es 0 h
  simp only [Nat.zero_add] at hf
  unfold Instr.findKey
  simp only [Sem.run_bind, run_underlying ht, Result.andThen_ok]
  cases es with
  | nil =>
    have : o = [] := by cases o <;> simp_all [kvL]
    subst this
    simp [Instr.findNow]
  | cons e r =>
    rw [run_findNow_agg 0 (by simp) (by simp) (by simp) (by simp)]
    exact hf
theorem r_lkA {dst : Option Tmp} {gd : Option (Nat × Bool)} {ty : TypeId} {pos : String} {af : Array Edge} {b m q b0 b1 : Nat} {o : List Nat} (hm : MapN w b m o) (hu : P.underlying t = some (.map kt et)) (ht : P.underlying kt = some (.array 2 ti)) (hi : P.underlying ti = some (.int .i64)) (hs : (P.info? ti).map (·.size) = some 1) (hz : (P.info? et).map (·.zero) = some (some (.int .i64 0)))
    (hx : ev n f x = .map (some b)) (hy : ev n f y = .agg #[.int .i64 (b0 : Int), .int .i64 (b1 : Int)]) (hq1 : q / m = b0) (hq2 : q % m = b1) (hm0 : 0 < m) :
    RV P n f w ⟨dst, .lookup t x y true, ty, pos, af, gd⟩ (.tuple #[.int .i64 ((if q ∈ o then o.idxOf q else 0 : Nat) : Int), .bool (decide (q ∈ o))]) w := by
  obtain ⟨es, c, hh, hes⟩ := hm
  have hf := run_findKA (P := P) (w := w) ht hi hs hq1 hq2 hm0 o es.toList hes
  cases hq : P.info? et with
  | none => simp [hq] at hz
  | some i =>
    have hz' : i.zero = some (.int .i64 0) := by simpa [hq] using hz
    by_cases ho : q ∈ o
    · simp [RV, execOp, hx, hy, Instr.lookup, run_underlying hu, run_getObj hh, run_ckA ht hi hs, hf, ho]
    · simp [RV, execOp, hx, hy, Instr.lookup, run_underlying hu, run_getObj hh, run_ckA ht hi hs, hf, ho, zeroValue, typeInfo, hq, hz']
theorem wl_muA {ty : TypeId} {pos : String} {af : Array Edge} {b m q b0 b1 : Nat} {o : List Nat} (hm : MapN w b m o) (hu : P.underlying t = some (.map kt et)) (ht : P.underlying kt = some (.array 2 ti)) (hi : P.underlying ti = some (.int .i64)) (hs : (P.info? ti).map (·.size) = some 1)
    (hx : ev n f x = .map (some b)) (hy : ev n f y = .agg #[.int .i64 (b0 : Int), .int .i64 (b1 : Int)]) (hv : ev n f z = .int .i64 ((o.length : Nat) : Int)) (hq1 : q / m = b0) (hq2 : q % m = b1) (hm0 : 0 < m) (hn : ¬ q ∈ o)
    (K : ∀ w1, MapN w1 b m (o ++ [q]) → Same [b] w w1 → WL P ops Q rest n f w1) : WL P ops Q (⟨none, .mapUpdate t x y z, ty, pos, af, none⟩ :: rest) n f w := by
  obtain ⟨es, c, hh, hes⟩ := hm
  have hf := run_findKA (P := P) (w := w) ht hi hs hq1 hq2 hm0 o es.toList hes
  have hsame : ∀ es' c', Same [b] w { w with heap := w.heap.setIfInBounds b (.map es' c') } := fun es' c' =>
    ⟨rfl, rfl, rfl, by simp, fun i _ hx => by
      simp only [List.mem_singleton] at hx
      simp [Array.getElem?_setIfInBounds_ne (Ne.symm hx)]⟩
  have hnew : ∀ es' c', ({ w with heap := w.heap.setIfInBounds b (.map es' c') } : World).heap[b]? = some (.map es' c') := fun es' c' => by
    have := lt_of_heap hh
    simp [this]
  refine wls (w' := { w with heap := w.heap.setIfInBounds b (.map (es.push { key := kOf m q, val := .int .i64 ((o.length : Nat) : Int), born := c }) (c + 1)) }) ?_ (K _ ⟨_, _, hnew _ _, ?_⟩ (hsame _ _))
  · simp [RS, execOp, hx, hy, hv, Instr.mapUpdate, run_underlying hu, run_getObj hh, run_ckA ht hi hs, hf, hn, run_setObj hh, kOf, hq1, hq2]
  · rw [kvL_snoc, Nat.zero_add]; simp [hes]
theorem wl_mmA {d : Tmp} {m : Nat} {ty : TypeId} {pos : String} {af : Array Edge} (K : ∀ b w1, MapN w1 b m [] → Same [] w w1 → w.heap.size ≤ b → WL P ops Q rest n (upd f d (.map (some b))) w1) : WL P ops Q (⟨some d, .makeMap t none, ty, pos, af, none⟩ :: rest) n f w :=
  wl_mm (fun b w1 h hs hb => K b w1 (by obtain ⟨es, c, h1, h2⟩ := h; exact ⟨es, c, h1, h2⟩) hs hb)
end mapkeys
end Go.Proofs.YteenmolhopbpeaaDoor
namespace Go.Proofs.YteenmolhopbpeaaDoor
open Go.RowKit
def fL (G : List Nd) (o : List Nat) (x : Nat) : List (Int × Int) := (nd G (o.getD x 0)).ln.map (canL o)
theorem numO_app {o s : List Nat} {x : Nat} (h : x ∈ o) : numO (o ++ s) x = numO o x := by simp [numO, h, List.idxOf_append]
theorem numO_at {o s : List Nat} {x : Nat} (h : ¬ x ∈ o) : numO ((o ++ [x]) ++ s) x = (o.length : Nat) := by simp [numO, h, List.idxOf_append]
theorem canL_app {o s : List Nat} {y : Int × Int} (h : y.2.toNat ∈ o) : canL (o ++ s) y = canL o y := by unfold canL; rw [numO_app h]
theorem map_canL_app {o s : List Nat} {ys : List (Int × Int)} (h : ∀ y ∈ ys, y.2.toNat ∈ o) : ys.map (canL (o ++ s)) = ys.map (canL o) := List.map_congr_left (fun y hy => canL_app (h y hy))
section visits
variable {G : List Nd} {ok : Nat → Bool} {o s2 s3 : List Nat} {z y : Nat} {xs ys : List Nat} {F : Fl}
theorem vis_ex (hr : ∀ i, i < G.length → ∀ t ∈ succN G i, t < G.length) (hok : OOk G.length o) (is : List Nat) (hi : ∀ i ∈ is, i < G.length) : ∃ s, DL G is o (o ++ s) := by
  obtain ⟨o', h⟩ := dl_ex hr _ is o (Nat.le_refl _) hi
  obtain ⟨_, s, rfl⟩ := h.ok hr hi hok
  exact ⟨s, h⟩
theorem vis_new (hr : ∀ i, i < G.length → ∀ t ∈ succN G i, t < G.length) (hok : OOk G.length o) (hz : z < G.length) (hn : ¬ z ∈ o) : ∃ s, DL G [z] o (o ++ z :: s) := by
  obtain ⟨s, h⟩ := vis_ex hr (hok.snoc hz hn) (succN G z) (hr z hz)
  refine ⟨s, ?_⟩
  rw [show o ++ z :: s = (o ++ [z]) ++ s by simp]
  exact .new hn h .nil
theorem vis_lim (hr : ∀ i, i < G.length → ∀ t ∈ succN G i, t < G.length) (hok : OOk G.length o) (hz : z < G.length) (hn : ¬ z ∈ o) (h6 : o.length = 60) : ∃ s, DL G [z] o (o ++ s) ∧ genS ok o.length s = (17, -1) := by
  obtain ⟨s, h⟩ := vis_new hr hok hz hn
  exact ⟨_, h, by rw [genS_cons, if_pos h6]⟩
theorem vis_conf (hr : ∀ i, i < G.length → ∀ t ∈ succN G i, t < G.length) (hok : OOk G.length o) (hz : z < G.length) (hn : ¬ z ∈ o) (h6 : ¬ o.length = 60) (hc : ok z = false) : ∃ s, DL G [z] o (o ++ s) ∧ genS ok o.length s = (16, (o.length : Int)) := by
  obtain ⟨s, h⟩ := vis_new hr hok hz hn
  exact ⟨_, h, by rw [genS_cons, if_neg h6, hc]; rfl⟩
theorem vis_done (hn : ¬ z ∈ o) (h6 : ¬ o.length = 60) (hc : ok z = true) (h : DL G (succN G z) (o ++ [z]) (o ++ [z] ++ s2)) (hs : genS ok (o.length + 1) s2 = (0, 0)) : DL G [z] o (o ++ z :: s2) ∧ genS ok o.length (z :: s2) = (0, 0) :=
  ⟨by rw [show o ++ z :: s2 = (o ++ [z]) ++ s2 by simp]; exact .new hn h .nil, by rw [genS_cons, if_neg h6, if_pos hc, hs]⟩
theorem vis_sub (hr : ∀ i, i < G.length → ∀ t ∈ succN G i, t < G.length) (hok : OOk G.length o) (hz : z < G.length) (hn : ¬ z ∈ o) (h6 : ¬ o.length = 60) (hc : ok z = true) (he : succN G z = xs ++ y :: ys)
    (h : DL G xs (o ++ [z]) (o ++ [z] ++ s2)) (hs : genS ok (o.length + 1) s2 = (0, 0)) (h3 : DL G [y] (o ++ [z] ++ s2) (o ++ [z] ++ s2 ++ s3)) (hF : genS ok (o ++ [z] ++ s2).length s3 = F) (h0 : ¬ F.1 = 0) :
    ∃ s, DL G [z] o (o ++ s) ∧ genS ok o.length s = F := by
  have hrg := hr z hz
  rw [he] at hrg
  have hok1 := hok.snoc hz hn
  have hok2 := (h.ok hr (fun i hi => hrg i (List.mem_append_left _ hi)) hok1).1
  have hok3 := (h3.ok hr (fun i hi => by rw [List.mem_singleton.1 hi]; exact hrg y (by simp)) hok2).1
  obtain ⟨s4, h4⟩ := vis_ex hr hok3 ys (fun i hi => hrg i (by simp [hi]))
  have hD : DL G (succN G z) (o ++ [z]) (o ++ [z] ++ s2 ++ s3 ++ s4) := by
    rw [he]
    exact h.append (show DL G ([y] ++ ys) _ _ from h3.append h4)
  refine ⟨z :: (s2 ++ (s3 ++ s4)), by rw [show o ++ z :: (s2 ++ (s3 ++ s4)) = o ++ [z] ++ s2 ++ s3 ++ s4 by simp]; exact .new hn hD .nil, ?_⟩
  rw [genS_cons, if_neg h6, if_pos hc, genS_app, hs, if_pos rfl, genS_app]
  have e : (o ++ [z] ++ s2).length = o.length + 1 + s2.length := by simp; omega
  rw [← e, hF, if_neg h0]
theorem vis_two (h : DL G xs (o ++ [z]) (o ++ [z] ++ s2)) (hs : genS ok (o.length + 1) s2 = (0, 0)) (h3 : DL G [y] (o ++ [z] ++ s2) (o ++ [z] ++ s2 ++ s3)) (hF : genS ok (o ++ [z] ++ s2).length s3 = (0, 0)) :
    DL G (xs ++ [y]) (o ++ [z]) (o ++ [z] ++ (s2 ++ s3)) ∧ genS ok (o.length + 1) (s2 ++ s3) = (0, 0) := by
  refine ⟨by rw [← List.append_assoc]; exact h.append h3, ?_⟩
  rw [genS_app, hs, if_pos rfl]
  have e : (o ++ [z] ++ s2).length = o.length + 1 + s2.length := by simp; omega
  rw [← e, hF]
theorem vis_len (h6 : o.length ≤ 60) (hs : (genS ok o.length s2).1 = 0) : genS ok o.length s2 = (0, 0) ∧ (o ++ s2).length ≤ 60 := by
  obtain ⟨h1, h2, _⟩ := genS_ok h6 hs
  exact ⟨h1, by rw [List.length_append]; exact h2⟩
end visits
def LOk (G : List Nd) (L L' : Nat → List (Int × Int)) (lo hi : Nat) (o : List Nat) : Prop := (∀ x, x < lo → L' x = L x) ∧ (∀ x, hi ≤ x → x < o.length → L' x = fL G o x)
theorem LOk.refl (G : List Nd) (L : Nat → List (Int × Int)) (o : List Nat) : LOk G L L o.length o.length o := ⟨fun _ _ => rfl, fun x h1 h2 => by omega⟩
theorem getD_app {o s : List Nat} {x : Nat} (h : x < o.length) : (o ++ s).getD x 0 = o.getD x 0 := by simp [List.getD, List.getElem?_append_left h]
theorem LOk.sub {G : List Nd} {L L' L2 : Nat → List (Int × Int)} {o a s : List Nat} {xs : List Nat} {z : Nat} (h : LOk G L L' o.length (o.length + 1) a) (hD : DL G xs (o ++ [z]) a) (hnd : (o ++ [z]).Nodup) (hp : ∃ q, a = o ++ [z] ++ q) (h2 : LOk G L' L2 a.length a.length (a ++ s)) : LOk G L L2 o.length (o.length + 1) (a ++ s) ∧ L2 o.length = L' o.length := by
  obtain ⟨q, hq⟩ := hp
  have hal : o.length + 1 ≤ a.length := by rw [hq]; simp
  refine ⟨⟨fun x hx => by rw [h2.1 x om, h.1 x hx], fun x hx hxl => ?_⟩, h2.1 _ om⟩
  by_cases hxa : x < a.length
  · rw [h2.1 x hxa, h.2 x hx hxa]
    unfold fL
    rw [getD_app hxa]
    refine (map_canL_app (fun y hy => ?_)).symm
    have hm : a.getD x 0 ∈ a := by simp [List.getD, hxa]
    refine hD.clo _ hm (fun hb => ?_) _ (by simp only [succN, List.mem_map]; exact ⟨y, hy, rfl⟩)
    have hnda := hD.nodup hnd
    rw [hq] at hnda hm hxa
    have e : a.getD x 0 = q.getD (x - (o.length + 1)) 0 := by
      rw [hq]; simp only [List.getD]
      rw [List.getElem?_append_right (by simp; omega)]; simp
    have hqm : a.getD x 0 ∈ q := by
      rw [e]
      have : x - (o.length + 1) < q.length := by simp at hxa; omega
      simp [List.getD, this]
    exact (List.nodup_append.1 hnda).2.2 _ hb _ hqm rfl
  · exact h2.2 x om hxl
theorem LOk.put {G : List Nd} {L L' : Nat → List (Int × Int)} {a : List Nat} {n : Nat} (h : LOk G L L' n (n + 1) a) (r : List (Int × Int)) : LOk G L (fun x => if x = n then r else L' x) n (n + 1) a :=
  ⟨fun x hx => (if_neg om).trans (h.1 x hx), fun x h1 h2 => (if_neg om).trans (h.2 x h1 h2)⟩
theorem LOk.start {G : List Nd} {L : Nat → List (Int × Int)} {o : List Nat} {z : Nat} : LOk G L (fun x => if x = o.length then [] else L x) o.length (o.length + 1) (o ++ [z]) :=
  ⟨fun x hx => if_neg om, fun x h1 h2 => by simp at h2; omega⟩
theorem LOk.fin {G : List Nd} {L L' : Nat → List (Int × Int)} {o a : List Nat} {z : Nat} (h : LOk G L L' o.length (o.length + 1) a) (hp : ∃ q, a = o ++ [z] ++ q) (hr : L' o.length = (nd G z).ln.map (canL a)) : LOk G L L' o.length o.length a :=
  ⟨h.1, fun x h1 h2 => by
    by_cases e : x = o.length
    · obtain ⟨q, hq⟩ := hp
      rw [e, hr]; unfold fL
      rw [show a.getD o.length 0 = z by rw [hq]; simp [List.getD]]
    · exact h.2 x om h2⟩
def pLq (a b : List Nd) (i j q : Nat) : List (Int × Int) := ((nd a i).ln.take q).filterMap (fun x => if tgt (nd b j).ln x.1 < 0 then none else some (x.1, ((x.2.toNat * b.length + (tgt (nd b j).ln x.1).toNat : Nat) : Int)))
theorem pLq_all {a b : List Nd} {i j q : Nat} (h : (nd a i).ln.length ≤ q) : pLq a b i j q = pLn a b i j := by unfold pLq pLn; rw [List.take_of_length_le h]
theorem pLq_no {a b : List Nd} {i j q : Nat} (h : q < (nd a i).ln.length) (ht : tgt (nd b j).ln ((nd a i).ln[q]).1 < 0) : pLq a b i j (q + 1) = pLq a b i j q := by
  unfold pLq
  rw [List.take_succ_eq_append_getElem h, List.filterMap_append]
  simp [ht]
theorem pLq_yes {a b : List Nd} {i j q u t : Nat} (h : q < (nd a i).ln.length) (hu : ((nd a i).ln[q]).2 = (u : Int)) (ht : tgt (nd b j).ln ((nd a i).ln[q]).1 = (t : Int)) : pLq a b i j (q + 1) = pLq a b i j q ++ [(((nd a i).ln[q]).1, ((u * b.length + t : Nat) : Int))] := by
  unfold pLq
  rw [List.take_succ_eq_append_getElem h, List.filterMap_append]
  simp [hu, ht]
theorem pLq_len (a b : List Nd) (i j q : Nat) : (pLq a b i j q).length ≤ q := nLT (List.length_filterMap_le _ _) (by rw [List.length_take]; omega)
theorem pLq_no2 {a b : List Nd} {i j q : Nat} {x y : Nd} (hx : nd a i = x) (hy : nd b j = y) (h : q < x.ln.length) (ht : tgt y.ln (x.ln[q]).1 < 0) : pLq a b i j (q + 1) = pLq a b i j q := by subst hx; subst hy; exact pLq_no h ht
theorem pLq_yes2 {a b : List Nd} {i j q u t : Nat} {x y : Nd} (hx : nd a i = x) (hy : nd b j = y) (h : q < x.ln.length) (hu : (x.ln[q]).2 = (u : Int)) (ht : tgt y.ln (x.ln[q]).1 = (t : Int)) : pLq a b i j (q + 1) = pLq a b i j q ++ [((x.ln[q]).1, ((u * b.length + t : Nat) : Int))] := by subst hx; subst hy; exact pLq_yes h hu ht
def sq (xs : List (Int × Int)) : List Nat := xs.map (fun x => x.2.toNat)
theorem sq_snoc (xs : List (Int × Int)) (f : Int) (c : Nat) : sq (xs ++ [(f, (c : Int))]) = sq xs ++ [c] := by simp [sq]
theorem sq_in {xs : List (Int × Int)} {G : List Nd} {a b : List Nat} (h : DL G (sq xs) a b) : ∀ y ∈ xs, y.2.toNat ∈ b := fun y hy => h.has _ (List.mem_map.2 ⟨y, hy, rfl⟩)
theorem pG_succ {l : List Ty} {a b : List Nd} {i j : Nat} (hi : i < a.length) (hj : j < b.length) : succN (pG l a b) (i * b.length + j) = sq (pLn a b i j) ∧ (nd (pG l a b) (i * b.length + j)).ln = pLn a b i j ∧ (nd (pG l a b) (i * b.length + j)).ty = jnV l (nd a i).ty.toNat (nd b j).ty.toNat ∧ pok l a b (i * b.length + j) = jok l (nd a i).ty.toNat (nd b j).ty.toNat := by
  have e := enc_div (i := i) hj
  have h := pG_nd (l := l) (enc_lt hi hj)
  rw [e.1, e.2] at h
  refine ⟨by unfold succN sq; rw [h], by rw [h], by rw [h], by unfold pok; rw [e.1, e.2]⟩
theorem pLn_split {a b : List Nd} {i j q u t : Nat} (h : q < (nd a i).ln.length) (hu : ((nd a i).ln[q]).2 = (u : Int)) (ht : tgt (nd b j).ln ((nd a i).ln[q]).1 = (t : Int)) : ∃ ys, sq (pLn a b i j) = sq (pLq a b i j q) ++ (u * b.length + t) :: ys := by
  have h1 := pLq_yes h hu ht
  refine ⟨sq (((nd a i).ln.drop (q + 1)).filterMap (fun x => if tgt (nd b j).ln x.1 < 0 then none else some (x.1, ((x.2.toNat * b.length + (tgt (nd b j).ln x.1).toNat : Nat) : Int)))), ?_⟩
  have h2 : pLn a b i j = pLq a b i j (q + 1) ++ ((nd a i).ln.drop (q + 1)).filterMap (fun x => if tgt (nd b j).ln x.1 < 0 then none else some (x.1, ((x.2.toNat * b.length + (tgt (nd b j).ln x.1).toNat : Nat) : Int))) := by
    unfold pLq pLn
    rw [← List.filterMap_append, List.take_append_drop]
  rw [h2, h1]
  unfold sq
  simp only [List.map_append, List.map_cons, List.append_assoc, List.cons_append, List.nil_append, Int.toNat_natCast]
theorem pLn_split2 {a b : List Nd} {i j q u t : Nat} {x y : Nd} (hx : nd a i = x) (hy : nd b j = y) (h : q < x.ln.length) (hu : (x.ln[q]).2 = (u : Int)) (ht : tgt y.ln (x.ln[q]).1 = (t : Int)) : ∃ ys, sq (pLn a b i j) = sq (pLq a b i j q) ++ (u * b.length + t) :: ys := by subst hx; subst hy; exact pLn_split h hu ht
theorem own_head {w : World} {base k c g : Nat} {xs : List Int} {v : Int} (h : Own w base 3 1 (some ⟨g, 0, none⟩) k c (xs.map (Value.int .i64))) (hx : xs = [v]) : w.cell? ⟨g, 0 + 0 * 1, none⟩ = some (.int .i64 v) := by
  subst hx
  obtain ⟨g2, e, _, _, hc⟩ := h.cell (by simp)
  cases e
  exact hc 0 _ rfl
theorem ownb_ne {w : World} {base b sz k c : Nat} {e t : TypeId} {A : Option Addr} {xs : List Value} {cs : Array Value} (h : Own w base e sz A k c xs) (hb : Blk w b t cs) (hne : e ≠ t) : ∀ g ∈ aL A, g ≠ b := fun g hg e1 => by
  obtain ⟨c2, h2⟩ := h.typ g hg
  subst e1
  exact hne (blk_type h2 hb)
def putG (V : Nat → Value) (m : Nat) (v : Value) (x : Nat) : Value := if x = m then v else V x
def RowsG (w : World) (base n : Nat) (V : Nat → Value) (L : Nat → List (Int × Int)) : Prop :=
  (∀ x, x < n → ∃ A c, V x = .slice A (L x).length c ∧ Own w base 36 2 A (L x).length c (lnV (L x))) ∧
  (∀ x y, x < n → y < n → x ≠ y → ∀ A m c A' m' c', V x = .slice A m c → V y = .slice A' m' c' → ∀ g ∈ aL A, ¬ g ∈ aL A')
theorem RowsG.nil (w : World) (base : Nat) (V : Nat → Value) (L : Nat → List (Int × Int)) : RowsG w base 0 V L := ⟨fun x hx => by omega, fun x y hx => by omega⟩
theorem RowsG.tr {w w' : World} {base n : Nat} {V : Nat → Value} {L : Nat → List (Int × Int)} {X : List Nat} (h : RowsG w base n V L) (hs : Same X w w') (hx : ∀ g ∈ X, g < base ∨ (∃ cs t, Blk w g t cs ∧ t ≠ 36) ∨ ∀ x A m c, x < n → V x = .slice A m c → ∀ k ∈ aL A, k < g) : RowsG w' base n V L :=
  ⟨fun x hxn => by
    obtain ⟨A, c, e, ho⟩ := h.1 x hxn
    refine ⟨A, c, e, ho.tr hs (fun g hg hgx => ?_)⟩
    rcases hx g hgx with h1 | ⟨cs, t, h1, h2⟩ | h1
    · have := (ho.lt g hg).1; omega
    · obtain ⟨c2, h3⟩ := ho.typ g hg
      exact h2 (blk_type h1 h3)
    · have := h1 x A _ c hxn e g hg; omega, h.2⟩
theorem RowsG.bd {w : World} {base n : Nat} {V : Nat → Value} {L : Nat → List (Int × Int)} (h : RowsG w base n V L) {x m c k : Nat} {A : Option Addr} (hx : x < n) (hV : V x = .slice A m c) (hk : k ∈ aL A) : base ≤ k ∧ k < w.heap.size ∧ ∃ cs, Blk w k 36 cs := by
  obtain ⟨A2, c2, e, ho⟩ := h.1 x hx
  rw [hV] at e
  cases e
  exact ⟨(ho.lt k hk).1, (ho.lt k hk).2, ho.typ k hk⟩
theorem RowsG.ord {w : World} {base n b : Nat} {V : Nat → Value} {L : Nat → List (Int × Int)} (h : RowsG w base n V L) (hb : w.heap.size ≤ b) : ∀ x A m c, x < n → V x = .slice A m c → ∀ k ∈ aL A, k < b := fun _ _ _ _ hx hV _ hk => nLL (h.bd hx hV hk).2.1 hb
theorem RowsG.snoc {w : World} {base n : Nat} {V : Nat → Value} {L : Nat → List (Int × Int)} (h : RowsG w base n V L) : RowsG w base (n + 1) (putG V n (.slice none 0 0)) (fun x => if x = n then [] else L x) := by
  refine ⟨fun x hx => ?_, fun x y hx hy hne A m c A' m' c' h1 h2 => ?_⟩
  · by_cases e : x = n
    · simp only [putG, e, if_true]
      exact ⟨none, 0, rfl, Own.nil _ _ _ _⟩
    · simp only [putG, e, if_false]
      exact h.1 x om
  · by_cases e : x = n
    · simp only [putG, e, if_true, Value.slice.injEq] at h1
      rw [← h1.1]; exact fun g hg => by cases hg
    · by_cases e2 : y = n
      · simp only [putG, e2, if_true, Value.slice.injEq] at h2
        rw [← h2.1]; exact fun g _ hg => by cases hg
      · simp only [putG, e, e2, if_false] at h1 h2
        exact h.2 x y om om hne A m c A' m' c' h1 h2
theorem RowsG.app {w w' : World} {base n k c g c' : Nat} {A : Option Addr} {V : Nat → Value} {L : Nat → List (Int × Int)} {y : Int × Int} (h : RowsG w base n V L) (hk : k < n) (hV : V k = .slice A (L k).length c) (hs : Same (aL A) w w')
    (ho : Own w' base 36 2 (some ⟨g, 0, none⟩) ((L k).length + 1) c' (lnV (L k) ++ [.int .i64 y.1, .int .i64 y.2])) (hg : aL A = [g] ∨ w.heap.size ≤ g) :
    RowsG w' base n (fun x => if x = k then .slice (some ⟨g, 0, none⟩) ((L k).length + 1) c' else V x) (fun x => if x = k then L k ++ [y] else L x) := by
  have hfar : ∀ x, x < n → x ≠ k → ∀ A' m' c2, V x = .slice A' m' c2 → ¬ g ∈ aL A' := fun x hx hne A' m' c2 h1 h2 => by
    rcases hg with hg | hg
    · exact h.2 k x hk hx (Ne.symm hne) _ _ _ _ _ _ hV h1 g (by rw [hg]; exact List.mem_singleton.2 rfl) h2
    · obtain ⟨A3, c3, e, h3⟩ := h.1 x hx
      rw [h1] at e
      cases e
      have := (h3.lt g h2).2; omega
  refine ⟨fun x hx => ?_, fun x z hx hz hne A1 m1 c1 A2 m2 c2 h1 h2 q hq1 hq2 => ?_⟩
  · by_cases e : x = k
    · simp only [e, if_true]
      refine ⟨_, c', by rw [List.length_append]; rfl, ?_⟩
      rw [List.length_append, ← lnV_snoc]; exact ho
    · simp only [e, if_false]
      obtain ⟨A1, c1, e1, h1⟩ := h.1 x hx
      exact ⟨A1, c1, e1, h1.tr hs (fun q hq hqa => h.2 k x hk hx (Ne.symm e) _ _ _ _ _ _ hV e1 q hqa hq)⟩
  · by_cases e : x = k
    · by_cases e2 : z = k
      · exact hne (by rw [e, e2])
      · simp only [e, if_true, Value.slice.injEq] at h1
        simp only [e2, if_false] at h2
        rw [← h1.1] at hq1
        rw [List.mem_singleton.1 hq1] at hq2
        exact hfar z hz e2 _ _ _ h2 hq2
    · simp only [e, if_false] at h1
      by_cases e2 : z = k
      · simp only [e2, if_true, Value.slice.injEq] at h2
        rw [← h2.1] at hq2
        rw [List.mem_singleton.1 hq2] at hq1
        exact hfar x hx e _ _ _ h1 hq1
      · simp only [e2, if_false] at h2
        exact h.2 x z hx hz hne _ _ _ _ _ _ h1 h2 q hq1 hq2
def tyG (G : List Nd) (o : List Nat) (x : Nat) : Value := .int .i64 (nd G (o.getD x 0)).ty
theorem ndG_snoc {G : List Nd} {o : List Nat} {z : Nat} {V : Nat → Value} {v u : Value} (hu : u = .int .i64 (nd G z).ty) : ndV (tyG G o) V o.length ++ [u, v] = ndV (tyG G (o ++ [z])) (putG V o.length v) (o ++ [z]).length := by
  have hl : (o ++ [z]).length = o.length + 1 := by simp
  rw [hl, ndV_snoc, ndV_congr (f := tyG G (o ++ [z])) (h := putG V o.length v) (f' := tyG G o) (h' := V) (fun x hx => by unfold tyG; rw [getD_app hx]) (fun x hx => by unfold putG; rw [if_neg om])]
  have e1 : tyG G (o ++ [z]) o.length = .int .i64 (nd G z).ty := by unfold tyG; simp [List.getD]
  have e2 : putG V o.length v o.length = v := by simp [putG]
  rw [e1, e2, hu]
theorem ndG_put {G : List Nd} {o : List Nat} {V : Nat → Value} {k : Nat} {v : Value} : (ndV (tyG G o) V o.length).set (0 + k * 2 + 1) v = ndV (tyG G o) (fun x => if x = k then v else V x) o.length := by
  refine List.ext_getElem? (fun j => ?_)
  by_cases hj : j < o.length * 2
  · have h2 : j / 2 < o.length := by omega
    rcases Nat.mod_two_eq_zero_or_one j with e | e
    · have e2 : j = j / 2 * 2 := by omega
      rw [List.getElem?_set_ne om, e2, (ndV_get _ _ h2).1, (ndV_get _ _ h2).1]
    · have e2 : j = j / 2 * 2 + 1 := by omega
      by_cases hjk : j / 2 = k
      · rw [show 0 + k * 2 + 1 = j by omega, List.getElem?_set_self (by rw [ndV_len]; exact hj)]
        have h3 := (ndV_get (tyG G o) (fun x => if x = k then v else V x) h2).2
        rw [← e2] at h3
        rw [h3, if_pos hjk]
      · rw [List.getElem?_set_ne om]
        have h3 := (ndV_get (tyG G o) (fun x => if x = k then v else V x) h2).2
        have h4 := (ndV_get (tyG G o) V h2).2
        rw [← e2] at h3 h4
        rw [h3, h4, if_neg hjk]
  · rw [List.getElem?_eq_none (by rw [List.length_set, ndV_len]; omega), List.getElem?_eq_none (by rw [ndV_len]; omega)]
def OwnG (N : Option Addr) (V : Nat → Value) (n k : Nat) : Prop := k ∈ aL N ∨ ∃ x A m c, x < n ∧ V x = .slice A m c ∧ k ∈ aL A
theorem own_bd {w : World} {base n cap : Nat} {N : Option Addr} {V : Nat → Value} {L : Nat → List (Int × Int)} {xs : List Value} (ho : Own w base 39 2 N n cap xs) (hR : RowsG w base n V L) {k : Nat} (h : OwnG N V n k) : base ≤ k ∧ k < w.heap.size ∧ ∃ cs t, Blk w k t cs ∧ (t = 39 ∨ t = 36) := by
  rcases h with h | ⟨x, A, m, c, hx, hV, hk⟩
  · obtain ⟨cs, hb⟩ := ho.typ k h
    exact ⟨(ho.lt k h).1, (ho.lt k h).2, cs, _, hb, .inl rfl⟩
  · obtain ⟨h1, h2, cs, h3⟩ := hR.bd hx hV hk
    exact ⟨h1, h2, cs, _, h3, .inr rfl⟩
theorem own_snoc2 {N : Option Addr} {V : Nat → Value} {n g : Nat} {P : Nat → Prop} (h : ∀ k, OwnG N V n k → P k) (hg : aL N = [g] ∨ P g) : ∀ k, OwnG (some ⟨g, 0, none⟩) (putG V n (.slice none 0 0)) (n + 1) k → P k := fun k hk => by
  rcases hk with hk | ⟨x, A, m, c, hx, hV, hk⟩
  · rw [List.mem_singleton.1 hk]
    rcases hg with hg | hg
    · exact h _ (.inl (by rw [hg]; exact List.mem_singleton.2 rfl))
    · exact hg
  · by_cases e : x = n
    · simp only [putG, e, if_true, Value.slice.injEq] at hV
      rw [← hV.1] at hk; cases hk
    · simp only [putG, e, if_false] at hV
      exact h _ (.inr ⟨x, A, m, c, by omega, hV, hk⟩)
theorem own_put {N A : Option Addr} {V : Nat → Value} {n g k m c m' c' : Nat} {P : Nat → Prop} (h : ∀ k, OwnG N V n k → P k) (hk : k < n) (hV : V k = .slice A m c) (hg : aL A = [g] ∨ P g) : ∀ q, OwnG N (fun x => if x = k then .slice (some ⟨g, 0, none⟩) m' c' else V x) n q → P q := fun q hq => by
  rcases hq with hq | ⟨x, A2, m2, c2, hx, hV2, hq⟩
  · exact h _ (.inl hq)
  · by_cases e : x = k
    · simp only [e, if_true, Value.slice.injEq] at hV2
      rw [← hV2.1] at hq
      rw [List.mem_singleton.1 hq]
      rcases hg with hg | hg
      · exact h _ (.inr ⟨k, A, m, c, hk, hV, by rw [hg]; exact List.mem_singleton.2 rfl⟩)
      · exact hg
    · simp only [e, if_false] at hV2
      exact h _ (.inr ⟨x, A2, m2, c2, hx, hV2, hq⟩)
structure ChG (Z : Nat → Prop) (w w' : World) : Prop where
  os : w'.os = w.os
  tape : w'.tape = w.tape
  output : w'.output = w.output
  size : w.heap.size ≤ w'.heap.size
  blk : ∀ k, k < w.heap.size → ¬ Z k → w'.heap[k]? = w.heap[k]?
theorem ChG.refl (Z : Nat → Prop) (w : World) : ChG Z w w := ⟨rfl, rfl, rfl, Nat.le_refl _, fun _ _ _ => rfl⟩
theorem ChG.st {Z : Nat → Prop} {Y : List Nat} {a b c : World} (h : ChG Z a b) (k : Same Y b c) (hy : ∀ g ∈ Y, Z g ∨ a.heap.size ≤ g) : ChG Z a c :=
  ⟨k.os.trans h.os, k.tape.trans h.tape, k.output.trans h.output, nLT h.size k.size, fun i hi hx => (k.blk i (nLL hi h.size) (fun hm => (hy i hm).elim hx (fun h2 => by omega))).trans (h.blk i hi hx)⟩
theorem ChG.trans {Z Z' : Nat → Prop} {a b c : World} (h : ChG Z a b) (k : ChG Z' b c) (hz : ∀ g, Z' g → Z g ∨ a.heap.size ≤ g) : ChG Z a c :=
  ⟨k.os.trans h.os, k.tape.trans h.tape, k.output.trans h.output, nLT h.size k.size, fun i hi hx => (k.blk i (nLL hi h.size) (fun hm => (hz i hm).elim hx (fun h2 => by omega))).trans (h.blk i hi hx)⟩
theorem Blk.chG {Z : Nat → Prop} {w w' : World} {b t : Nat} {cs : Array Value} (h : Blk w b t cs) (hc : ChG Z w w') (hx : ¬ Z b) : Blk w' b t cs := (hc.blk b h.lt hx).trans h
theorem Bel.chG {Z : Nat → Prop} {w0 w w' : World} (h : Bel w0 w) (hc : ChG Z w w') (hz : ∀ g, Z g → w0.heap.size ≤ g) : Bel w0 w' :=
  ⟨hc.os.trans h.os, hc.tape.trans h.tape, hc.output.trans h.output, nLT h.size hc.size, fun k hk => (hc.blk k (nLL hk h.size) (fun hm => by have := hz k hm; omega)).trans (h.block k hk)⟩
def ZG (bm bO : Nat) (N : Option Addr) (V : Nat → Value) (n k : Nat) : Prop := k = bm ∨ k = bO ∨ OwnG N V n k
theorem zg_lo {bm bO base n k cap : Nat} {w : World} {N : Option Addr} {V : Nat → Value} {L : Nat → List (Int × Int)} {xs : List Value} (ho : Own w base 39 2 N n cap xs) (hR : RowsG w base n V L) (hk : k < base) (h1 : k ≠ bm) (h2 : k ≠ bO) : ¬ ZG bm bO N V n k := fun h => by
  rcases h with h | h | h
  · exact h1 h
  · exact h2 h
  · have := (own_bd ho hR h).1; omega
theorem zg_ty {bm bO base n k cap t : Nat} {w : World} {N : Option Addr} {V : Nat → Value} {L : Nat → List (Int × Int)} {xs : List Value} {cs : Array Value} (ho : Own w base 39 2 N n cap xs) (hR : RowsG w base n V L) (hb : Blk w k t cs) (ht : t ≠ 39) (ht2 : t ≠ 36) (h1 : k ≠ bm) (h2 : k ≠ bO) : ¬ ZG bm bO N V n k := fun h => by
  rcases h with h | h | h
  · exact h1 h
  · exact h2 h
  · obtain ⟨_, _, cs2, t2, h3, h4⟩ := own_bd ho hR h
    have := blk_type hb h3
    rcases h4 with h4 | h4
    · exact ht (this.trans h4)
    · exact ht2 (this.trans h4)
theorem zg_up {bm bO base n k : Nat} {N : Option Addr} {V : Nat → Value} (hm : bm < base) (hO : bO < base) (hk : ∀ g ∈ aL N, g < k) (hk2 : ∀ x A m c, x < n → V x = .slice A m c → ∀ g ∈ aL A, g < k) (hb : base ≤ k) : ¬ ZG bm bO N V n k := fun h => by
  rcases h with h | h | h | ⟨x, A, m, c, hx, hV, h⟩
  · omega
  · omega
  · have := hk k h; omega
  · have := hk2 x A m c hx hV k h; omega
def VOk (w : World) (hs base bm bO nb : Nat) (G : List Nd) (Z : Nat → Prop) (h0 : Nat) (L : Nat → List (Int × Int)) (n : Nat) (o : List Nat) : Prop :=
  ∃ N cN V L', LOk G L L' n n o ∧ (∀ k, OwnG N V o.length k → Z k ∨ h0 ≤ k) ∧ MapN w bm nb o ∧ Blk w bO 28 #[.slice N o.length cN] ∧ Own w base 39 2 N o.length cN (ndV (tyG G o) V o.length) ∧ RowsG w base o.length V L' ∧ bm < hs ∧ bO < hs ∧ ∀ k, OwnG N V o.length k → k < hs
theorem VOk.tr {w w' : World} {hs base bm bO nb h0 n : Nat} {G : List Nd} {Z : Nat → Prop} {L : Nat → List (Int × Int)} {o : List Nat} {X : List Nat} (h : VOk w hs base bm bO nb G Z h0 L n o) (k : Same X w w') (hx : ∀ g ∈ X, hs ≤ g) : VOk w' hs base bm bO nb G Z h0 L n o := by
  obtain ⟨N, cN, V, L', h1, h2, h3, h4, h5, h6, h7, h8, h9⟩ := h
  refine ⟨N, cN, V, L', h1, h2, h3.tr k (fun hm => by have := hx _ hm; omega), h4.tr k (fun hm => by have := hx _ hm; omega), h5.tr k (fun g hg hm => by have := hx _ hm; have := h9 g (.inl hg); omega), h6.tr k (fun g hg => .inr (.inr (fun x A m c h10 h11 q hq => by have := h9 q (.inr ⟨x, A, m, c, h10, h11, hq⟩); have := hx g hg; omega))), h7, h8, h9⟩
def VisR (base bm bO nb : Nat) (G : List Nd) (ok : Nat → Bool) (o : List Nat) (N : Option Addr) (V : Nat → Value) (L : Nat → List (Int × Int)) (w : World) (z : Nat) (e : Ending) (w' : World) : Prop :=
  ∃ (s o' : List Nat) (F : Fl) (kk : Int), o' = o ++ s ∧ DL G [z] o o' ∧ genS ok o.length s = F ∧ e = .returned (.tuple #[.int .i64 kk, .agg #[.int .i64 F.1, .int .i64 F.2]]) ∧ ChG (ZG bm bO N V o.length) w w' ∧ (F.1 = 0 → kk = numO o' z ∧ VOk w' w'.heap.size base bm bO nb G (ZG bm bO N V o.length) w.heap.size L o.length o')
section results
variable {base bm bO nb : Nat} {G : List Nd} {ok : Nat → Bool} {o : List Nat} {N : Option Addr} {V : Nat → Value} {L : Nat → List (Int × Int)} {w w' : World} {z : Nat}
theorem visr_old (h : z ∈ o) (hC : ChG (ZG bm bO N V o.length) w w') {cN : Nat} (h3 : MapN w' bm nb o) (h4 : Blk w' bO 28 #[.slice N o.length cN]) (h5 : Own w' base 39 2 N o.length cN (ndV (tyG G o) V o.length)) (h6 : RowsG w' base o.length V L) {kk : Int} (hk : kk = ((if z ∈ o then o.idxOf z else 0 : Nat) : Int)) :
    VisR base bm bO nb G ok o N V L w z (.returned (.tuple #[.int .i64 kk, .agg #[.int .i64 0, .int .i64 0]])) w' :=
  ⟨[], o, (0, 0), _, by simp, .old h .nil, rfl, rfl, hC, fun _ => ⟨by rw [hk, if_pos h, numO_in h], N, cN, V, L, LOk.refl _ _ _, fun k hk => .inl (.inr (.inr hk)), h3, h4, h5, h6, h3.lt, h4.lt, fun k hk => (own_bd h5 h6 hk).2.1⟩⟩
theorem visr_bad {F : Fl} {a b : Int} (h : ∃ s, DL G [z] o (o ++ s) ∧ genS ok o.length s = F) (hC : ChG (ZG bm bO N V o.length) w w') (h0 : ¬ F.1 = 0) (ha : a = F.1) (hb : b = F.2) {kk : Int} : VisR base bm bO nb G ok o N V L w z (.returned (.tuple #[.int .i64 kk, .agg #[.int .i64 a, .int .i64 b]])) w' := by
  obtain ⟨s, h1, h2⟩ := h
  exact ⟨s, _, F, _, rfl, h1, h2, by rw [ha, hb], hC, fun h => absurd h h0⟩
theorem visr_ok {a s2 : List Nat} (hn : ¬ z ∈ o) (h6 : ¬ o.length = 60) (hc : ok z = true) (ha : a = o ++ [z] ++ s2) (h : DL G (succN G z) (o ++ [z]) a) (hs : genS ok (o.length + 1) s2 = (0, 0)) (hC : ChG (ZG bm bO N V o.length) w w')
    {N' : Option Addr} {cN : Nat} {V' : Nat → Value} {L' : Nat → List (Int × Int)} (hL : LOk G L L' o.length (o.length + 1) a) (hr : L' o.length = (nd G z).ln.map (canL a)) (hOw : ∀ k, OwnG N' V' a.length k → ZG bm bO N V o.length k ∨ w.heap.size ≤ k)
    (h3 : MapN w' bm nb a) (h4 : Blk w' bO 28 #[.slice N' a.length cN]) (h5 : Own w' base 39 2 N' a.length cN (ndV (tyG G a) V' a.length)) (h7 : RowsG w' base a.length V' L') {kk : Int} (hk : kk = (o.length : Nat)) :
    VisR base bm bO nb G ok o N V L w z (.returned (.tuple #[.int .i64 kk, .agg #[.int .i64 0, .int .i64 0]])) w' := by
  have h1 := vis_done hn h6 hc (ha ▸ h) hs
  have e : o ++ z :: s2 = a := by rw [ha]; simp
  rw [e] at h1
  exact ⟨z :: s2, a, (0, 0), _, e.symm, h1.1, h1.2, rfl, hC, fun _ => ⟨by rw [hk, ha, numO_at hn], N', cN, V', L', hL.fin ⟨s2, ha⟩ hr, hOw, h3, h4, h5, h7, h3.lt, h4.lt, fun k hk => (own_bd h5 h7 hk).2.1⟩⟩
end results
theorem zg_nil {bm bO k : Nat} {V : Nat → Value} (h : ZG bm bO none V 0 k) : k = bm ∨ k = bO := by
  rcases h with h | h | h | ⟨x, A, m, c, hx, _⟩
  · exact .inl h
  · exact .inr h
  · cases h
  · omega
theorem gen_nodes {w w2 : World} {lo base cN : Nat} {G : List Nd} {o : List Nat} {N : Option Addr} {V : Nat → Value} {L L' : Nat → List (Int × Int)} (ho : Own w base 39 2 N o.length cN (ndV (tyG G o) V o.length)) (hR : RowsG w base o.length V L') (hL : LOk G L L' 0 0 o) (hb : lo ≤ base) (hf : FrSame lo w w2) : NodesIn w2 N (canG G o) := by
  have hcl : (canG G o).length = o.length := by simp [canG]
  refine nodes_own (lo := base) (bs := w2.heap.size) (ho.fr hb hf) hcl (fun k hk => ?_) (fun k hk => ?_)
  · have hk2 : k < o.length := by omega
    simp [tyG, canG, canN, hk2, List.getD]
  · have hk2 : k < o.length := by omega
    obtain ⟨A, c, e, h1⟩ := hR.1 k hk2
    have e2 : (canG G o)[k].ln = L' k := by
      rw [hL.2 k (Nat.zero_le _) hk2]
      simp [fL, canG, canN, hk2, List.getD]
    rw [e2]
    have h2 := h1.fr hb hf
    exact ⟨A, c, e, h2, fun g hg => (h2.lt g hg).2⟩
theorem types0g {l : List Ty} {fs : List Ft} (h : (hierFault l fs).1 = 0) : (typesFault l).1 = 0 := by
  unfold hierFault at h
  by_cases h4 : 40 < fs.length
  · rw [if_pos h4] at h; cases h
  rw [if_neg h4] at h
  by_cases ht : (typesFault l).1 ≠ 0
  · rw [if_pos ht] at h; exact absurd h ht
  exact Decidable.not_not.1 ht
def GenS (l : List Ty) (fs : List Ft) (ga gb : List Nd) (f : Fl) (X : List Nd) : Prop :=
  (¬ (twoG l fs ga gb).1 = 0 ∧ f = twoG l fs ga gb ∧ X = []) ∨
  ((twoG l fs ga gb).1 = 0 ∧ ∃ o, DL (pG l ga gb) [0] [] o ∧ f = genS (pok l ga gb) 0 o ∧ ((¬ f.1 = 0 ∧ X = []) ∨ (f.1 = 0 ∧ X = canG (pG l ga gb) o)))
end Go.Proofs.YteenmolhopbpeaaDoor
