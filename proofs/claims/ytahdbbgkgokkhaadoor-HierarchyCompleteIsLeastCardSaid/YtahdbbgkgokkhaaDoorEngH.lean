/- The engine's part for drawn regions in which the operations that do more than yield a value wait for one another: such a region is walked in one order. -/
import Derived.Test.YtahdbbgkgokkhaaDoorEng2
import Derived.OrdersHeld
namespace Go.Proofs.YtahdbbgkgokkhaaDoor
open Go.RowKit
section
variable {P : Program} {ops : Array Oper} {Q : Exit → Act → World → Prop} {md : Region.Mode} {S : World → Prop}
/-- as long as none of ss has come up, S holds behind every operation -/
def wpAnyI (P : Program) (md : Region.Mode) (ops : Array Oper) (Q : Exit → Act → World → Prop) (S : World → Prop) (ss : List Nat) : Nat → Array Bool → Act → World → Prop
  | 0, listed, a, w => Region.ready md ops listed = [] ∧ Q .normal a w
  | fuel + 1, listed, a, w => (Region.ready md ops listed = [] → Q .normal a w) ∧ ∀ i ∈ Region.ready md ops listed, wpOp P ops Q i (fun a' w' => ((∀ s ∈ ss, (listed.setIfInBounds i true).getD s false = false) → S w') ∧ wpAnyI P md ops Q S ss fuel (listed.setIfInBounds i true) a' w') a w
theorem wpAny_of_I {ss : List Nat} : ∀ (fuel : Nat) (listed : Array Bool) (a : Act) (w : World), wpAnyI P md ops Q S ss fuel listed a w → wpAny P md ops Q fuel listed a w
  | 0, _, _, _, h => h
  | fuel + 1, _, _, _, h => ⟨h.1, fun i hi => wpOp_mono (fun a' w' h' => wpAny_of_I fuel _ a' w' h'.2) (h.2 i hi)⟩
theorem wpAnyI_first {ss W : List Nat} {i : Nat} {oi : Oper} {v : Value} (hi : ops[i]? = some oi) (hsel : ∀ (j : Nat) (o : Oper) cs b, ops[j]? = some o → o.op ≠ .select cs b)
    (hQ : ∀ c a w, Q (.panic c) (a.put oi.dst v) w → Q (.panic c) a w) (hss : ∀ s ∈ ss, s ∈ W) (hiW : i ∉ W)
    (hW : ∀ k ∈ W, ∃ o, ops[k]? = some o ∧ ∃ e ∈ o.after, Region.binds md e = true ∧ (e.on = i ∨ e.on ∈ W)) :
    ∀ (fuel : Nat) (listed : Array Bool) (a : Act) (w : World),
      (∀ j oj, ops[j]? = some oj → j ≠ i → listed.getD j true = false → (∀ e ∈ oj.after, Region.binds md e = true → e.on ≠ i) → oi.apart ops oj = true) → (∀ k ∈ W, listed.getD k false = false) → listed.getD i false = false →
      i ∈ Region.ready md ops listed → YieldsIf P ops S oi v a → S w →
      wpAnyI P md ops Q S ss fuel (listed.setIfInBounds i true) (a.put oi.dst v) w → wpAnyI P md ops Q S ss (fuel + 1) listed a w := by
  intro fuel
  induction fuel with
  | zero =>
    intro listed a w _ _ _ hr hy hS H
    refine ⟨fun h => (by rw [h] at hr; cases hr), fun j hj => ?_⟩
    by_cases hji : j = i
    · subst hji; exact hy.wpOp hi hS ⟨fun _ => hS, H⟩
    · have := ready_mono hj hji
      rw [H.1] at this
      cases this
  | succ fuel ih =>
    intro listed a w hfree hWl hil hr hy hS H
    refine ⟨fun h => (by rw [h] at hr; cases hr), fun j hj => ?_⟩
    by_cases hji : j = i
    · subst hji; exact hy.wpOp hi hS ⟨fun _ => hS, H⟩
    · have h1 := H.2 j (ready_mono hj hji)
      obtain ⟨hjun, oj, hoj, hall⟩ := mem_ready.1 hj
      have hjW : j ∉ W := fun hjW => by
        obtain ⟨o, ho, e, he, hb, h⟩ := hW j hjW
        rw [hoj] at ho; cases ho
        have h2 := hall e he hb
        rcases h with h | h
        · rw [h, hil] at h2; cases h2
        · rw [hWl _ h] at h2; cases h2
      have hnot : ∀ e ∈ oj.after, Region.binds md e = true → e.on ≠ i := fun e he hb heq => by
        have h2 := hall e he hb
        rw [heq, hil] at h2; cases h2
      have h2 := wpOp_putIf hoj (hfree j oj hoj hji hjun hnot) (fun cs b => hsel i oi cs b hi) (fun cs b => hsel j oj cs b hoj) hQ hy h1
      have hset : ∀ k, k ≠ j → ∀ d, (listed.setIfInBounds j true).getD k d = listed.getD k d := fun k hk d => getD_set_ne d (Ne.symm hk)
      have hfree' : ∀ k ok, ops[k]? = some ok → k ≠ i → (listed.setIfInBounds j true).getD k true = false →
          (∀ e ∈ ok.after, Region.binds md e = true → e.on ≠ i) → oi.apart ops ok = true := fun k ok hk hki hun hno => by
        refine hfree k ok hk hki ?_ hno
        by_cases hjk : j = k
        · subst hjk; exact hjun
        · rw [getD_set_ne true hjk] at hun; exact hun
      have hW2 : ∀ k ∈ W, (listed.setIfInBounds j true).getD k false = false := fun k hk => by
        rw [hset k (fun e => hjW (e ▸ hk))]; exact hWl k hk
      refine wpOp_mono (fun a' w' h3 => ?_) h2
      have hS' : S w' := h3.2.1 (fun s hs => by
        have hsW := hss s hs
        rw [getD_set_ne false (fun e => hjW (by rw [e]; exact hsW)), getD_set_ne false (fun e => hiW (by rw [e]; exact hsW))]
        exact hWl s hsW)
      refine ⟨fun _ => hS', ih (listed.setIfInBounds j true) a' w' hfree' hW2 (by rw [hset i (Ne.symm hji)]; exact hil) (ready_mono hr (Ne.symm hji)) h3.1 hS' ?_⟩
      rw [Array.setIfInBounds_comm _ _ hji]
      exact h3.2.2
theorem wpAnyI_firstY {ss : List Nat} {i : Nat} {oi : Oper} {v : Value} (hi : ops[i]? = some oi) (hsel : ∀ (j : Nat) (o : Oper) cs b, ops[j]? = some o → o.op ≠ .select cs b)
    (hQ : ∀ c a w, Q (.panic c) (a.put oi.dst v) w → Q (.panic c) a w) :
    ∀ (fuel : Nat) (listed : Array Bool) (a : Act) (w : World),
      (∀ j oj, ops[j]? = some oj → j ≠ i → listed.getD j true = false → (∀ e ∈ oj.after, Region.binds md e = true → e.on ≠ i) → oi.apart ops oj = true) → listed.getD i false = false → (∀ s ∈ ss, s ≠ i) →
      i ∈ Region.ready md ops listed → YieldsIf P ops (fun _ => True) oi v a → ((∀ s ∈ ss, listed.getD s false = false) → S w) →
      wpAnyI P md ops Q S ss fuel (listed.setIfInBounds i true) (a.put oi.dst v) w → wpAnyI P md ops Q S ss (fuel + 1) listed a w := by
  intro fuel
  induction fuel with
  | zero =>
    intro listed a w _ _ hsi hr hy hS H
    refine ⟨fun h => (by rw [h] at hr; cases hr), fun j hj => ?_⟩
    by_cases hji : j = i
    · subst hji; exact hy.wpOp hi trivial ⟨fun h => hS (fun s hs => by have := h s hs; rwa [getD_set_ne false (Ne.symm (hsi s hs))] at this), H⟩
    · have := ready_mono hj hji
      rw [H.1] at this
      cases this
  | succ fuel ih =>
    intro listed a w hfree hil hsi hr hy hS H
    refine ⟨fun h => (by rw [h] at hr; cases hr), fun j hj => ?_⟩
    by_cases hji : j = i
    · subst hji; exact hy.wpOp hi trivial ⟨fun h => hS (fun s hs => by have := h s hs; rwa [getD_set_ne false (Ne.symm (hsi s hs))] at this), H⟩
    · have h1 := H.2 j (ready_mono hj hji)
      obtain ⟨hjun, oj, hoj, hall⟩ := mem_ready.1 hj
      have hnot : ∀ e ∈ oj.after, Region.binds md e = true → e.on ≠ i := fun e he hb heq => by
        have h2 := hall e he hb
        rw [heq, hil] at h2; cases h2
      have h2 := wpOp_putIf hoj (hfree j oj hoj hji hjun hnot) (fun cs b => hsel i oi cs b hi) (fun cs b => hsel j oj cs b hoj) hQ hy h1
      have hset : ∀ k, k ≠ j → ∀ d, (listed.setIfInBounds j true).getD k d = listed.getD k d := fun k hk d => getD_set_ne d (Ne.symm hk)
      have hfree' : ∀ k ok, ops[k]? = some ok → k ≠ i → (listed.setIfInBounds j true).getD k true = false →
          (∀ e ∈ ok.after, Region.binds md e = true → e.on ≠ i) → oi.apart ops ok = true := fun k ok hk hki hun hno => by
        refine hfree k ok hk hki ?_ hno
        by_cases hjk : j = k
        · subst hjk; exact hjun
        · rw [getD_set_ne true hjk] at hun; exact hun
      refine wpOp_mono (fun a' w' h3 => ?_) h2
      have hS' : (∀ s ∈ ss, (listed.setIfInBounds j true).getD s false = false) → S w' := fun h => h3.2.1 (fun s hs => by
        rw [Array.setIfInBounds_comm _ _ (Ne.symm hji), getD_set_ne false (Ne.symm (hsi s hs))]; exact h s hs)
      refine ⟨hS', ih (listed.setIfInBounds j true) a' w' hfree' (by rw [hset i (Ne.symm hji)]; exact hil) hsi (ready_mono hr (Ne.symm hji)) h3.1 hS' ?_⟩
      rw [Array.setIfInBounds_comm _ _ hji]
      exact h3.2.2
end
section held
variable {P : Program} {Q : Exit → Act → World → Prop} {n : Nat} {f : Fr} {w : World} {l : List Oper} {X ss ds is : List Nat}
def mk (m : Nat) : List Nat → Array Bool
  | [] => Array.replicate m false
  | i :: is => (mk m is).setIfInBounds i true
def PQ (Q : Exit → Act → World → Prop) : Prop := ∀ (d : Option Tmp) v c a w, Q (.panic c) (Act.put a d v) w → Q (.panic c) a w
/-- what waits for operation i -/
def wtL (l : List Oper) (i : Nat) : List Nat := (List.range l.length).foldl (fun acc k => bif (match l[k]? with | some o => o.after.any (fun e => Region.binds .any e && (Nat.beq e.on i || acc.contains e.on)) | none => false) then k :: acc else acc) []
def wtB (l : List Oper) (ss : List Nat) (listed : Array Bool) (W : List Nat) (i : Nat) : Bool := ss.all W.contains && (!W.contains i && (W.all (fun k => !listed.getD k false) && W.all (fun k => match l[k]? with | some o => o.after.any (fun e => Region.binds .any e && (e.on == i || W.contains e.on)) | none => false)))
def isLd (l : List Oper) (i : Nat) : Bool := match l[i]? with | some o => (match o.op with | .load _ _ => true | _ => false) | none => true
def wtO (l : List Oper) (ss ds : List Nat) (i : Nat) : Bool := ss.isEmpty || (wtB l ss (mk l.length ds) (wtL l i) i || (!isLd l i && ss.all (fun s => !Nat.beq s i)))
/-- the operations not yet done may be done in this order: each is free of the others, or the only one that may come up -/
def okL (l : List Oper) (ss : List Nat) : List Nat → List Nat → Bool
  | ds, [] => (Region.ready .any l.toArray (mk l.length ds)).isEmpty
  | ds, i :: is => ((Region.free .any l.toArray (mk l.length ds) i && ((Region.ready .any l.toArray (mk l.length ds)).contains i && wtO l ss ds i)) || (Region.ready .any l.toArray (mk l.length ds) == [i])) && okL l ss (i :: ds) is
/-- ss: the operations behind which older blocks need not stand any more -/
def HL (P : Program) (l : List Oper) (Q : Exit → Act → World → Prop) (X ss ds is : List Nat) (n : Nat) (f : Fr) (w : World) : Prop :=
  Region.noSelect l.toArray = true → okL l ss ds is = true → PQ Q → wpAnyI P .any l.toArray Q (fun w' => Same X w w') ss is.length (mk l.length ds) (AF n f) w
theorem held_mono {S S' : World → Prop} (hS : ∀ w, S' w → S w) : ∀ (fuel : Nat) (listed : Array Bool) (a : Act) (w : World), wpAnyI P .any l.toArray Q S' ss fuel listed a w → wpAnyI P .any l.toArray Q S ss fuel listed a w
  | 0, _, _, _, h => h
  | fuel + 1, _, _, _, h => ⟨h.1, fun i hi => wpOp_mono (fun a' w' h' => ⟨fun h1 => hS _ (h'.1 h1), held_mono hS fuel _ a' w' h'.2⟩) (h.2 i hi)⟩
theorem held_vac {S S' : World → Prop} {ss' : List Nat} {s : Nat} (hs : s ∈ ss) : ∀ (fuel : Nat) (listed : Array Bool) (a : Act) (w : World), listed.getD s false = true → wpAnyI P .any l.toArray Q S' ss' fuel listed a w → wpAnyI P .any l.toArray Q S ss fuel listed a w
  | 0, _, _, _, _, h => h
  | fuel + 1, listed, _, _, hl, h => ⟨h.1, fun i hi => wpOp_mono (fun a' w' h' => by
      have h2 : (listed.setIfInBounds i true).getD s false = true := getD_set_true hl
      exact ⟨(fun h1 => by rw [h1 s hs] at h2; cases h2), held_vac hs fuel _ a' w' h2 h'.2⟩) (h.2 i hi)⟩
theorem c_heldS {id : Nat} (X ss is : List Nat) (hm : P.follows .mixedOrders = true) (K : ∀ w1, Same [] w w1 → HL P l Q X ss [] is n f w1) (hc : (Region.noSelect l.toArray && (Nat.beq is.length l.length && okL l ss [] is)) = true := by kernel_rfl) (hQ : PQ Q := by first | (intro d; cases d <;> exact fun _ _ _ _ h => h) | (have h := ‹PQ _›; exact fun d v c a w k => h d v c a w k)) : WC P (.region id l.toArray true) Q n f w := by
  unfold WC
  simp only [Bool.and_eq_true] at hc
  have e : is.length = l.length := Nat.eq_of_beq_eq_true hc.2.1
  have h := K { w with drawn := w.drawn + 1 } (Same.drew w 1) hc.1 hc.2.2 hQ
  rw [e] at h
  exact wp_region_any hm (wpAny_of_I _ _ _ _ h)
theorem c_held {id : Nat} (X is : List Nat) (hm : P.follows .mixedOrders = true) (K : ∀ w1, Same [] w w1 → HL P l Q X [] [] is n f w1) (hc : (Region.noSelect l.toArray && (Nat.beq is.length l.length && okL l [] [] is)) = true := by kernel_rfl) (hQ : PQ Q := by first | (intro d; cases d <;> exact fun _ _ _ _ h => h) | (have h := ‹PQ _›; exact fun d v c a w k => h d v c a w k)) : WC P (.region id l.toArray true) Q n f w :=
  c_heldS X [] is hm K hc hQ
theorem h_yi {i : Nat} {o : Oper} {v : Value} (ho : l[i]? = some o) (hn : isLd l i = false → YieldsIf P l.toArray (fun _ => True) o v (AF n f)) (hy : YieldsIf P l.toArray (fun w' => Same X w w') o v (AF n f)) (K : HL P l Q X ss (i :: ds) is n (updo f o.dst v) w) : HL P l Q X ss ds (i :: is) n f w := by
  intro h2 hc hQ
  simp only [okL, Bool.and_eq_true, Bool.or_eq_true] at hc
  obtain ⟨hc1, hc⟩ := hc
  have hK := K h2 hc hQ
  rw [← put_AFo] at hK
  have ho' : (l.toArray)[i]? = some o := by simpa using ho
  rcases hc1 with ⟨h3, h4, h5⟩ | h4
  · have h4' : i ∈ Region.ready .any l.toArray (mk l.length ds) := by simpa using h4
    have hil : (mk l.length ds).getD i false = false := by
      have h7 := (mem_ready.1 h4').1
      cases h8 : (mk l.length ds).getD i false with
      | false => rfl
      | true =>
        have : (mk l.length ds).getD i true = (mk l.length ds).getD i false := by
          rcases Nat.lt_or_ge i (mk l.length ds).size with h' | h'
          · simp [h']
          · simp [Array.getElem?_eq_none h'] at h8
        rw [this, h8] at h7; cases h7
    have hW : (∃ W : List Nat, (∀ s ∈ ss, s ∈ W) ∧ i ∉ W ∧ (∀ k ∈ W, (mk l.length ds).getD k false = false) ∧ ∀ k ∈ W, ∃ o, (l.toArray)[k]? = some o ∧ ∃ e ∈ o.after, Region.binds .any e = true ∧ (e.on = i ∨ e.on ∈ W)) ∨ (isLd l i = false ∧ ∀ s ∈ ss, s ≠ i) := by
      simp only [wtO, Bool.or_eq_true] at h5
      rcases h5 with h5 | h5 | h5
      · rw [List.isEmpty_iff] at h5
        exact .inl ⟨[], by rw [h5]; simp, by simp, by simp, by simp⟩
      · simp only [wtB, Bool.and_eq_true, List.all_eq_true, Bool.not_eq_true'] at h5
        obtain ⟨b1, b2, b3, b4⟩ := h5
        refine .inl ⟨wtL l i, fun s hs => by simpa using b1 s hs, by simpa using b2, b3, fun k hk => ?_⟩
        have h6 := b4 k hk
        cases ho2 : l[k]? with
        | none => rw [ho2] at h6; cases h6
        | some o2 =>
          rw [ho2] at h6
          obtain ⟨e, he, hb⟩ := Array.any_eq_true'.1 h6
          exact ⟨o2, by simpa using ho2, e, he, by simpa using hb⟩
      · simp only [Bool.and_eq_true, List.all_eq_true, Bool.not_eq_true'] at h5
        refine .inr ⟨h5.1, fun s hs e => ?_⟩
        have h6 := h5.2 s hs
        subst e
        simp at h6
    rcases hW with ⟨W, w1, w2, w3, w4⟩ | ⟨w1, w2⟩
    · exact wpAnyI_first ho' (Region.noSelect_spec h2) (hQ _ _) w1 w2 w4 _ _ _ _ (Region.free_spec ho' h3) w3 hil h4' hy (Same.refl _ _) hK
    · exact wpAnyI_firstY ho' (Region.noSelect_spec h2) (hQ _ _) _ _ _ _ (Region.free_spec ho' h3) hil w2 h4' (hn w1) (fun _ => Same.refl _ _) hK
  · refine ⟨fun h0 => absurd ((eq_of_beq h4) ▸ h0) (by simp), fun j hj => ?_⟩
    rw [eq_of_beq h4] at hj
    rw [List.mem_singleton.1 hj]
    exact hy.wpOp ho' (Same.refl _ _) ⟨fun _ => Same.refl _ _, hK⟩
variable {op : Op} {ty t : TypeId} {pos : String} {af : Array Edge} {v : Value} {x : Operand} {d : Tmp} {i : Nat}
theorem rv_run {o : Oper} {w' : World} (h : RV P n f w o v w') : (execOp (ev n f) o).run P w = .ok (.value v) w' := by unfold RV at h; exact h
/-- an operation that yields its value in whatever world -/
theorem hl (ho : l[i]? = some ⟨some d, op, ty, pos, af, none⟩) (h : ∀ w', RV P n f w' ⟨some d, op, ty, pos, af, none⟩ v w') (K : HL P l Q X ss (i :: ds) is n (upd f d v) w) : HL P l Q X ss ds (i :: is) n f w :=
  h_yi ho (fun _ => .inl ⟨by simp [Region.wanted], fun w' _ => by rw [eval_AF]; exact rv_run (h w')⟩) (.inl ⟨by simp [Region.wanted], fun w' _ => by rw [eval_AF]; exact rv_run (h w')⟩) K
/-- the same, and the value in other words -/
theorem hle {u : Value} (ho : l[i]? = some ⟨some d, op, ty, pos, af, none⟩) (h : ∀ w', RV P n f w' ⟨some d, op, ty, pos, af, none⟩ u w') (e : u = v) (K : HL P l Q X ss (i :: ds) is n (upd f d v) w) : HL P l Q X ss ds (i :: is) n f w :=
  hl ho (fun w' => e ▸ h w') K
theorem Same.cl {w' : World} {b o : Nat} (hs : Same X w w') (hb : b ∉ X) (hc : w.cell? ⟨b, o, none⟩ = some v) : w'.cell? ⟨b, o, none⟩ = some v := by
  have hl : b < w.heap.size := by
    refine Classical.byContradiction (fun h => ?_)
    have : w.heap[b]? = none := Array.getElem?_eq_none (by omega)
    simp [World.cell?, this] at hc
  have h := hs.blk b hl hb
  simp only [World.cell?, h] at hc ⊢
  exact hc
theorem hl1 {b o : Nat} {dd : TypeDesc} (ho : l[i]? = some ⟨some d, .load t x, ty, pos, af, none⟩) (hu : P.underlying t = some dd) (hd : dd.isRow = false) (hx : ev n f x = .pointer (some ⟨b, o, none⟩)) (hl : w.cell? ⟨b, o, none⟩ = some v) (K : HL P l Q X ss (i :: ds) is n (upd f d v) w) (hb : b ∉ X := by first | exact List.not_mem_nil | (simp only [List.mem_cons, List.not_mem_nil, or_false, not_or]; omega)) : HL P l Q X ss ds (i :: is) n f w :=
  h_yi ho (fun e => by simp [isLd, ho] at e) (.inl ⟨by simp [Region.wanted], fun w' hs => by rw [eval_AF]; exact rv_run (r_ld1 hu hd hx (hs.cl hb hl))⟩) K
/-- an operation with a guard that is met -/
theorem hg {dst : Option Tmp} {j : Nat} {b : Bool} (g : Tmp) (ho : l[i]? = some ⟨dst, op, ty, pos, af, some (j, b)⟩) (hj : (l.toArray[j]?).bind (·.dst) = some g) (hv : ev n f (.tmp g) = .bool b) (h : ∀ w' : World, True → RV P n f w' ⟨dst, op, ty, pos, af, some (j, b)⟩ v w') (K : HL P l Q X ss (i :: ds) is n (updo f dst v) w) : HL P l Q X ss ds (i :: is) n f w :=
  h_yi ho (fun _ => .inl ⟨by rw [wanted_is hj hv]; simp, fun w' _ => by rw [eval_AF]; exact rv_run (h w' trivial)⟩) (.inl ⟨by rw [wanted_is hj hv]; simp, fun w' _ => by rw [eval_AF]; exact rv_run (h w' trivial)⟩) K
theorem hge {dst : Option Tmp} {j : Nat} {b : Bool} (g : Tmp) {u : Value} (ho : l[i]? = some ⟨dst, op, ty, pos, af, some (j, b)⟩) (hj : (l.toArray[j]?).bind (·.dst) = some g) (hv : ev n f (.tmp g) = .bool b) (h : ∀ w' : World, True → RV P n f w' ⟨dst, op, ty, pos, af, some (j, b)⟩ u w') (e : u = v) (K : HL P l Q X ss (i :: ds) is n (updo f dst v) w) : HL P l Q X ss ds (i :: is) n f w :=
  hg g ho hj hv (fun w' hs => e ▸ h w' hs) K
theorem hg1 {j : Nat} {b' : Bool} {b o : Nat} {dd : TypeDesc} (g : Tmp) (ho : l[i]? = some ⟨some d, .load t x, ty, pos, af, some (j, b')⟩) (hj : (l.toArray[j]?).bind (·.dst) = some g) (hv : ev n f (.tmp g) = .bool b') (hu : P.underlying t = some dd) (hd : dd.isRow = false) (hx : ev n f x = .pointer (some ⟨b, o, none⟩)) (hl : w.cell? ⟨b, o, none⟩ = some v) (K : HL P l Q X ss (i :: ds) is n (upd f d v) w) (hb : b ∉ X := by first | exact List.not_mem_nil | (simp only [List.mem_cons, List.not_mem_nil, or_false, not_or]; omega)) : HL P l Q X ss ds (i :: is) n f w :=
  h_yi ho (fun e => by simp [isLd, ho] at e) (.inl ⟨by rw [wanted_is hj hv]; simp, fun w' hs => by rw [eval_AF]; exact rv_run (r_ld1 hu hd hx (hs.cl hb hl))⟩) K
/-- an operation with a guard that is not met -/
theorem hsk {dst : Option Tmp} {j : Nat} {b : Bool} (g : Tmp) (ho : l[i]? = some ⟨dst, op, ty, pos, af, some (j, b)⟩) (hj : (l.toArray[j]?).bind (·.dst) = some g) (hv : ev n f (.tmp g) = .bool (!b)) (K : HL P l Q X ss (i :: ds) is n (updo f dst undef) w) : HL P l Q X ss ds (i :: is) n f w :=
  h_yi ho (fun _ => .inr ⟨by rw [wanted_is hj hv]; cases b <;> rfl, rfl⟩) (.inr ⟨by rw [wanted_is hj hv]; cases b <;> rfl, rfl⟩) K
theorem h_cases (t : Nat) {b : Bool} (hv : ev n f (.tmp t) = .bool b) (h1 : b = true → HL P l Q X ss ds is n (upd f t (.bool true)) w) (h2 : b = false → HL P l Q X ss ds is n (upd f t (.bool false)) w) : HL P l Q X ss ds is n f w := by
  have hf := ev_tmp hv (by simp [undef])
  cases b
  · have := h2 rfl; rwa [upd_same hf] at this
  · have := h1 rfl; rwa [upd_same hf] at this
theorem h_casesd (t : Nat) {p : Prop} {dp : Decidable p} (hv : ev n f (.tmp t) = .bool (@decide p dp)) (h1 : p → HL P l Q X ss ds is n (upd f t (.bool true)) w) (h2 : ¬ p → HL P l Q X ss ds is n (upd f t (.bool false)) w) : HL P l Q X ss ds is n f w :=
  h_cases t hv (fun h => h1 (of_decide_eq_true h)) (fun h => h2 (of_decide_eq_false h))
def QH (P : Program) (l : List Oper) (Q : Exit → Act → World → Prop) (S : World → Prop) (ss ds is : List Nat) : Exit → Act → World → Prop
  | .normal, a, w => Region.noSelect l.toArray = true → okL l ss ds is = true → PQ Q → ((∀ s ∈ ss, (mk l.length ds).getD s false = false) → S w) ∧ wpAnyI P .any l.toArray Q S ss is.length (mk l.length ds) a w
  | e, a, w => Q e a w
theorem wp_qh {S : World → Prop} {o : Oper} {a : Act} {K : Act → World → Prop} (h : o.wp P a w K (QH P l Q S ss ds is)) : o.wp P a w K Q := by
  unfold Oper.wp at *
  generalize (execOp a.eval o).run P w = r at *
  cases r with
  | ok x w' => cases x <;> exact h
  | halt x w' => cases x <;> exact h
/-- behind an operation that did more: what it changed are blocks of X, or new ones -/
theorem e_H {w0 : World} {X X' : List Nat} (hs : Same X w0 w) (hX : ∀ g ∈ X', g ∈ X ∨ w0.heap.size ≤ g) (h : HL P l Q X' ss ds is n f w) : EX (QH P l Q (fun w' => Same X w0 w') ss ds is) .normal n f w := by
  unfold EX
  exact fun h2 hc hQ => ⟨fun _ => hs, held_mono (fun w' (h' : Same X' w w') => ⟨h'.os.trans hs.os, h'.tape.trans hs.tape, h'.output.trans hs.output, Nat.le_trans hs.size h'.size, fun k hk hx => (h'.blk k (Nat.lt_of_lt_of_le hk hs.size) (fun hm => (hX k hm).elim hx (fun h2 => by omega))).trans (hs.blk k hk hx)⟩) _ _ _ _ (h h2 hc hQ)⟩
theorem e_H0 {w0 : World} (hs : Same [] w0 w) (h : HL P l Q [] ss ds is n f w) : EX (QH P l Q (fun w' => Same [] w0 w') ss ds is) .normal n f w := e_H hs (fun _ hg => .inl hg) h
theorem okL_sub {ss' : List Nat} (h : ∀ s ∈ ss', s ∈ ss) : ∀ (is ds : List Nat), okL l ss ds is = true → okL l ss' ds is = true
  | [], _, hc => hc
  | i :: is, ds, hc => by
    simp only [okL, Bool.and_eq_true, Bool.or_eq_true] at hc ⊢
    refine ⟨hc.1.imp (fun ⟨a, b, c⟩ => ⟨a, b, ?_⟩) id, okL_sub h is _ hc.2⟩
    simp only [wtO, wtB, Bool.or_eq_true, Bool.and_eq_true, List.all_eq_true, List.isEmpty_iff] at c ⊢
    rcases c with c | ⟨c1, c2⟩ | ⟨c1, c2⟩
    · left
      subst c
      cases ss' with
      | nil => rfl
      | cons a r => exact absurd (h a (List.mem_cons_self ..)) (by simp)
    · exact .inr (.inl ⟨fun s hs => c1 s (h s hs), c2⟩)
    · exact .inr (.inr ⟨c1, fun s hs => c2 s (h s hs)⟩)
/-- behind an operation of ss: from here on the world at hand is what stands -/
theorem e_Hs {S : World → Prop} (ss' : List Nat) (h : HL P l Q [] ss' ds is n f w) (hv : (ss.any (fun s => (mk l.length ds).getD s false) && ss'.all ss.contains) = true := by kernel_rfl) : EX (QH P l Q S ss ds is) .normal n f w := by
  unfold EX
  simp only [Bool.and_eq_true, List.any_eq_true, List.all_eq_true] at hv
  obtain ⟨⟨s, hs, hl⟩, hsub⟩ := hv
  exact fun h2 hc hQ => ⟨(fun h0 => by rw [h0 s hs] at hl; cases hl), held_vac hs _ _ _ _ hl (h h2 (okL_sub (fun x hx => by simpa using hsub x hx) _ _ hc) hQ)⟩
theorem h1 {o : Oper} (ho : l[i]? = some o) (h : WL P l.toArray (QH P l Q (fun w' => Same X w w') ss (i :: ds) is) [o] n f w) (hr : Region.ready .any l.toArray (mk l.length ds) = [i] := by kernel_rfl) : HL P l Q X ss ds (i :: is) n f w := by
  intro h2 hc hQ
  simp only [okL, Bool.and_eq_true] at hc
  refine ⟨fun h0 => absurd (hr ▸ h0) (by simp), fun j hj => ?_⟩
  rw [hr] at hj
  rw [List.mem_singleton.1 hj]
  unfold wpOp
  have ho' : (l.toArray)[i]? = some o := by simpa using ho
  simp only [ho']
  unfold WL wpList at h
  by_cases hwt : Region.wanted o (yielded l.toArray (AF n f).tmps) = true
  · rw [if_pos hwt] at h ⊢
    rcases h with h | h
    · exact .inl (Oper.wp_mono (fun a' w' h' => (show QH P l Q _ _ _ _ .normal a' w' from h') h2 hc.2 hQ) (wp_qh h))
    · exact .inr h
  · rw [if_neg hwt] at h ⊢
    exact (show QH P l Q _ _ _ _ .normal _ w from h) h2 hc.2 hQ
theorem h_end (h : EX Q .normal n f w) : HL P l Q X ss ds [] n f w := fun _ hc _ => by
  unfold EX at h
  exact ⟨by simpa [okL] using hc, h⟩
/-- a call: what it returns by a relation -/
theorem hcl (Rk : Value → World → Prop) {F : FuncId} {xs : Array Operand} {ats : Array TypeId} {args : List Value} {R : Ending → World → Prop} (ho : l[i]? = some ⟨some d, .call { callee := .value (.func F), args := xs, argTypes := ats }, ty, pos, af, none⟩) (hF : callable P F = true) (hc : Calls P F args.toArray w R) (hargs : xs.toList.map (ev n f) = args)
    (hR : ∀ e' w1, R e' w1 → ∃ v, e' = .returned v ∧ Same [] w w1 ∧ Rk v w1) (K : ∀ v w1, Same [] w w1 → Rk v w1 → HL P l Q X ss (i :: ds) is n (upd f d v) w1) (hr : Region.ready .any l.toArray (mk l.length ds) = [i] := by kernel_rfl) : HL P l Q X ss ds (i :: is) n f w := by
  refine h1 ho (wl_cl hF hc hargs (fun e' w1 h => ?_)) hr
  obtain ⟨v, h1, h2, h3⟩ := hR e' w1 h
  exact ⟨v, h1, x_nil (e_H (h2.weak (by simp)) (fun g hg => .inl hg) (K v w1 h2 h3))⟩
end held
attribute [irreducible] HL
end Go.Proofs.YtahdbbgkgokkhaaDoor
