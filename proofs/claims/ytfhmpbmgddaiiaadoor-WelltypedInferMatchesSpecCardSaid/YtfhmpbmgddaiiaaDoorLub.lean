/- The engine's seventh part: a drawn region of whatever operations. Arguments opened: graphs. Unification as the least bound: the states of a pool of nodes, and what its graph maps to. No program in sight. Suffixes of rows of links, and slices of such: what the walks of a pool of nodes read. No program in sight. What these functions of the program compute, at every world: (*glosswright/unify.pool).add. What these functions of the program compute, at every world: (*glosswright/unify.pool).join. What these functions of the program compute, at every world: glosswright/unify.Into, glosswright/unify.sized, glosswright/unify.Unify. Two graphs are unified: the result is the least graph to which both map. No program in sight. -/
import Derived.Test.YtfhmpbmgddaiiaaDoorEng5
import Derived.Test.YtfhmpbmgddaiiaaDoorEng6
import Derived.Test.YtfhmpbmgddaiiaaDoorEng2
import Derived.Lib.AppendZerosOnto
import Derived.Test.YtfhmpbmgddaiiaaDoorTypes
import Derived.Test.YtfhmpbmgddaiiaaDoorDfs
import Derived.Test.YtfhmpbmgddaiiaaDoorSBase
import Derived.Test.YtfhmpbmgddaiiaaDoorEng4
namespace Go.Proofs.YtfhmpbmgddaiiaaDoor
open Go.RowKit
section seven
variable {P : Program} {Q : Exit → Act → World → Prop} {n : Nat} {f : Fr} {w : World}
def stU (st : Nat → Bool) (i k : Nat) : Bool := if k = i then true else st k
def stL (sp : Nat → Bool) (listed : Array Bool) (k : Nat) : Bool := listed.getD k false && sp k
def reach (l : List Oper) : Nat → Nat → Nat → Bool
  | 0, _, _ => false
  | k + 1, s, i => match l[s]? with
    | some o => (deps o).any (fun j => Nat.beq j i || reach l k j i)
    | none => false
theorem reach_dn {l : List Oper} {listed : Array Bool} (hD : Dn l listed) : ∀ {k s i : Nat}, reach l k s i = true → listed.getD s false = true → listed.getD i false = true
  | 0, _, _, h, _ => by cases h
  | k + 1, s, i, h, hs => by
    unfold reach at h
    cases ho : l[s]? with
    | none => rw [ho] at h; cases h
    | some o =>
      rw [ho] at h
      obtain ⟨j, hj, h2⟩ := List.any_eq_true.1 h
      have hjl := hD s o ho hs j hj
      rw [Bool.or_eq_true] at h2
      rcases h2 with h2 | h2
      · rw [← Nat.eq_of_beq_eq_true h2]; exact hjl
      · exact reach_dn hD h2 hjl
theorem c_monoU {id : Nat} {l : List Oper} (m : Nat) (S X : List Nat) (sp : Nat → Bool) (R : (Nat → Bool) → Nat → Value → Nat → Nat → World → Prop) (hm : P.follows .mixedOrders = true) (hB : monoK l m S = true)
    (hst : ∀ st i v la ha w1 w2, R st i v la ha w1 → Same [] w1 w2 → R st i v la ha w2)
    (step : ∀ st i o, i < m → sp i = false → l[i]? = some o → (∀ s, sp s = true → reach l m s i = true → st s = false) → ∀ f' w' (la ha : Nat → Nat), Same X w w' → Ag S f' f → (∀ j o', j ∈ deps o → l[j]? = some o' → R st j (vO f' o') (la j) (ha j) w') → OS P n f' w' o (fun v w'' => Same [] w' w'' ∧ R st i v w'.heap.size w''.heap.size w''))
    (stepS : ∀ st i o, i < m → sp i = true → st i = false → l[i]? = some o → (∀ s, sp s = true → reach l m s i = true → st s = false) → ∀ f' w' (la ha : Nat → Nat), Same X w w' → Ag S f' f → (∀ j o', j ∈ deps o → l[j]? = some o' → R st j (vO f' o') (la j) (ha j) w') → (∀ j k, j ∈ deps o → k ∈ deps o → j ≠ k → ha j ≤ la k ∨ ha k ≤ la j) → OS P n f' w' o (fun v w'' => Same X w w'' ∧ w'.heap.size ≤ w''.heap.size ∧ rO (fun i v w'' => R (stU st i) i v w'.heap.size w''.heap.size w'') i o v w'' ∧ ∀ k o', k ≠ i → l[k]? = some o' → R st k (vO f' o') (la k) (ha k) w' → R (stU st i) k (vO f' o') (la k) (ha k) w''))
    (hspd : ∀ i o, l[i]? = some o → o.dst = none → sp i = true)
    (fin : ∀ st f' w' (la ha : Nat → Nat), (∀ k, k < m → sp k = true → st k = true) → Same X w w' → Ag S f' f → (∀ i o, l[i]? = some o → R st i (vO f' o) (la i) (ha i) w') → (∀ i j, i < m → j < m → i ≠ j → ha i ≤ la j ∨ ha j ≤ la i) → WL P l.toArray Q [] n f' w') : WC P (.region id l.toArray true) Q n f w := by
  unfold WC
  refine wp_region_any hm ?_
  simp only [monoK, Bool.and_eq_true, List.all_eq_true, List.mem_range, decide_eq_true_eq] at hB
  obtain ⟨hlm, hB⟩ := hB
  have hget : ∀ i o, l[i]? = some o → o.guard = none ∧ (∀ j ∈ deps o, j < i) ∧ ∀ d, o.dst = some d → mem S d = true ∧ ∀ j o', l[j]? = some o' → i ≠ j → o'.dst ≠ some d := fun i o ho => by
    have hil : i < l.length := (List.getElem?_eq_some_iff.1 ho).1
    have h := hB i hil
    simp only [ho, Bool.and_eq_true] at h
    obtain ⟨⟨h1, h2⟩, h3⟩ := h
    refine ⟨Option.isNone_iff_eq_none.1 h1, fun j hj => by simpa using List.all_eq_true.1 h2 j hj, fun d hd => ?_⟩
    simp only [hd, Bool.and_eq_true] at h3
    refine ⟨h3.1, fun j o' ho' hne hd' => ?_⟩
    have h4 := List.all_eq_true.1 h3.2 j (List.mem_range.2 (List.getElem?_eq_some_iff.1 ho').1)
    simp [ho', hd', hne] at h4
  have key : ∀ (fuel : Nat) (listed : Array Bool) (f' : Fr) (w' : World) (la ha : Nat → Nat), listed.size = l.length → Dn l listed → Same X w w' → Ag S f' f → (∀ i o, l[i]? = some o → listed.getD i false = true → R (stL sp listed) i (vO f' o) (la i) (ha i) w') → (∀ i, i < l.length → listed.getD i false = true → ha i ≤ w'.heap.size) → (∀ i j, i < l.length → j < l.length → i ≠ j → listed.getD i false = true → listed.getD j false = true → ha i ≤ la j ∨ ha j ≤ la i) →
      (List.range l.length).countP (fun i => !listed.getD i false) ≤ fuel → wpAny P .any l.toArray Q fuel listed (AF n f') w' := by
    have fin' : ∀ (listed : Array Bool) (f' : Fr) (w' : World) (la ha : Nat → Nat), Same X w w' → Ag S f' f → (∀ i o, l[i]? = some o → listed.getD i false = true → R (stL sp listed) i (vO f' o) (la i) (ha i) w') → (∀ i j, i < l.length → j < l.length → i ≠ j → listed.getD i false = true → listed.getD j false = true → ha i ≤ la j ∨ ha j ≤ la i) → (∀ i, i < l.length → listed.getD i false = true) → Q .normal (AF n f') w' := fun listed f' w' la ha hs hag hR hI hall => by
      have := fin (stL sp listed) f' w' la ha (fun k hk hsk => by unfold stL; rw [hall k om, hsk]; rfl) hs hag (fun i o ho => hR i o ho (hall i (List.getElem?_eq_some_iff.1 ho).1)) (fun i j hi hj hne => hI i j om om hne (hall i om) (hall j om))
      unfold WL at this; exact this
    intro fuel
    induction fuel with
    | zero =>
      intro listed f' w' la ha hs hD hsm hag hR hH hI hc
      have hall : ∀ i, i < l.length → listed.getD i false = true := by
        intro i hi
        have h0 : (List.range l.length).countP (fun i => !listed.getD i false) = 0 := by omega
        rw [List.countP_eq_zero] at h0
        have := h0 i (List.mem_range.2 hi)
        simpa using this
      refine ⟨?_, fin' listed f' w' la ha hsm hag hR hI hall⟩
      cases hr : Region.ready .any l.toArray listed with
      | nil => rfl
      | cons i r =>
        obtain ⟨o, ho, hn, _⟩ := ready_inv' listed i (by rw [hr]; simp)
        have : i < l.length := (List.getElem?_eq_some_iff.1 ho).1
        rw [hall i om] at hn; cases hn
    | succ fuel ih =>
      intro listed f' w' la ha hs hD hsm hag hR hH hI hc
      refine ⟨fun hr => ?_, fun i hi => ?_⟩
      · have hall : ∀ k, k ≤ l.length → ∀ i, i < k → listed.getD i false = true := by
          intro k
          induction k with
          | zero => intro _ i hi; omega
          | succ k ihk =>
            intro hk i hi
            have ihk' := ihk om
            by_cases hik : i < k
            · exact ihk' i hik
            · have : i = k := by omega
              subst this
              cases hb : listed.getD i false with
              | true => rfl
              | false =>
                have ho : l[i]? = some l[i] := List.getElem?_eq_getElem om
                have := ready_of' listed i _ hs ho hb (fun j hj => ihk' j ((hget i _ ho).2.1 j hj))
                rw [hr] at this; cases this
        exact fin' listed f' w' la ha hsm hag hR hI (hall l.length (Nat.le_refl _))
      · obtain ⟨o, ho, hn, hd⟩ := ready_inv' listed i hi
        have hil : i < l.length := (List.getElem?_eq_some_iff.1 ho).1
        obtain ⟨hg, hdl, hdd⟩ := hget i o ho
        unfold wpOp
        simp only [List.getElem?_toArray, ho]
        rw [if_pos (by simp [Region.wanted, hg])]
        left
        have hstn : sp i = false → stL sp (listed.setIfInBounds i true) = stL sp listed := fun hsp => by
          funext k
          unfold stL
          by_cases hik : i = k
          · subst hik; rw [hsp, Bool.and_false, Bool.and_false]
          · simp only [Array.getD_eq_getD_getElem?, Array.getElem?_setIfInBounds_ne hik]
        have hsts : sp i = true → stL sp (listed.setIfInBounds i true) = stU (stL sp listed) i := fun hsp => by
          funext k
          unfold stL stU
          by_cases hik : k = i
          · subst hik
            have : k < listed.size := by omega
            simp [this, hsp]
          · rw [if_neg hik]
            simp only [Array.getD_eq_getD_getElem?, Array.getElem?_setIfInBounds_ne (Ne.symm hik)]
        have hli : ∀ j, i ≠ j → (listed.setIfInBounds i true).getD j false = listed.getD j false := fun j hij => by
          simp only [Array.getD_eq_getD_getElem?, Array.getElem?_setIfInBounds_ne hij]
        have hlt := countP_lt (p := fun i => !listed.getD i false) (q := fun k => !(listed.setIfInBounds i true).getD k false) (fun x hx => by
          by_cases hix : i = x
          · subst hix; simp [hn]
          · simpa only [Array.getD_eq_getD_getElem?, Array.getElem?_setIfInBounds_ne hix] using hx) (List.range l.length) i (List.mem_range.2 hil) (by simp [hn]) (by
            have : i < listed.size := by omega
            simp [this])
        have next : ∀ v w'', Same X w w'' → w'.heap.size ≤ w''.heap.size → rO (fun i v w'' => R (stL sp (listed.setIfInBounds i true)) i v w'.heap.size w''.heap.size w'') i o v w'' → (∀ k o', k ≠ i → l[k]? = some o' → R (stL sp listed) k (vO f' o') (la k) (ha k) w' → R (stL sp (listed.setIfInBounds i true)) k (vO f' o') (la k) (ha k) w'') → wpAny P .any l.toArray Q fuel (listed.setIfInBounds i true) ((AF n f').put o.dst v) w'' := by
          intro v w'' hs1 hsz hr1 hk1
          have hH2 : ∀ j, j < l.length → (listed.setIfInBounds i true).getD j false = true → (if j = i then w''.heap.size else ha j) ≤ w''.heap.size := fun j hj hl' => by
            by_cases hij : j = i
            · rw [if_pos hij]; exact Nat.le_refl _
            · rw [hli j (Ne.symm hij)] at hl'
              rw [if_neg hij]; exact nLT (hH j hj hl') hsz
          have hI2 : ∀ j1 j2, j1 < l.length → j2 < l.length → j1 ≠ j2 → (listed.setIfInBounds i true).getD j1 false = true → (listed.setIfInBounds i true).getD j2 false = true → (if j1 = i then w''.heap.size else ha j1) ≤ (if j2 = i then w'.heap.size else la j2) ∨ (if j2 = i then w''.heap.size else ha j2) ≤ (if j1 = i then w'.heap.size else la j1) := fun j1 j2 hj1 hj2 hne hl1 hl2 => by
            by_cases e1 : j1 = i
            · subst e1
              rw [hli j2 hne] at hl2
              rw [if_pos rfl, if_neg (Ne.symm hne), if_neg (Ne.symm hne), if_pos rfl]
              exact .inr (hH j2 hj2 hl2)
            · rw [hli j1 (Ne.symm e1)] at hl1
              rw [if_neg e1, if_neg e1]
              by_cases e2 : j2 = i
              · rw [if_pos e2, if_pos e2]
                exact .inl (hH j1 hj1 hl1)
              · rw [hli j2 (Ne.symm e2)] at hl2
                rw [if_neg e2, if_neg e2]
                exact hI j1 j2 hj1 hj2 hne hl1 hl2
          cases hdst : o.dst with
          | none =>
            have hri : R (stL sp (listed.setIfInBounds i true)) i undef w'.heap.size w''.heap.size w'' := by simpa only [rO, hdst] using hr1
            show wpAny P .any l.toArray Q fuel (listed.setIfInBounds i true) (AF n f') w''
            refine ih _ _ _ (fun k => if k = i then w'.heap.size else la k) (fun k => if k = i then w''.heap.size else ha k) (by simpa using hs) (hD.set om ho hd) hs1 hag (fun j o' ho' hl' => ?_) hH2 hI2 om
            by_cases hij : i = j
            · subst hij
              rw [ho] at ho'; cases ho'
              simp only [if_true, vO, hdst]; exact hri
            · rw [hli j hij] at hl'
              simp only [if_neg (Ne.symm hij)]
              exact hk1 j o' (fun e => hij e.symm) ho' (hR j o' ho' hl')
          | some d =>
            have hri : R (stL sp (listed.setIfInBounds i true)) i v w'.heap.size w''.heap.size w'' := by simpa only [rO, hdst] using hr1
            obtain ⟨hSd, hne⟩ := hdd d hdst
            rw [put_AF]
            refine ih _ _ _ (fun k => if k = i then w'.heap.size else la k) (fun k => if k = i then w''.heap.size else ha k) (by simpa using hs) (hD.set om ho hd) hs1 (ag_upd hSd hag) (fun j o' ho' hl' => ?_) hH2 hI2 om
            by_cases hij : i = j
            · subst hij
              rw [ho] at ho'; cases ho'
              have : vO (upd f' d v) o = v := by simp [vO, hdst, upd]
              rw [this]; simp only [if_true]; exact hri
            · rw [hli j hij] at hl'
              have : vO (upd f' d v) o' = vO f' o' := by
                unfold vO
                cases hd' : o'.dst with
                | none => rfl
                | some d' =>
                  have h1 := hne j o' ho' hij
                  rw [hd'] at h1
                  simp only [upd]
                  have : Nat.beq d' d = false := by
                    cases hb : Nat.beq d' d
                    · rfl
                    · exact absurd (congrArg some (Nat.eq_of_beq_eq_true hb)) h1
                  simp [this]
              rw [this]
              simp only [if_neg (Ne.symm hij)]
              exact hk1 j o' (fun e => hij e.symm) ho' (hR j o' ho' hl')
        have hns : ∀ s, sp s = true → reach l m s i = true → stL sp listed s = false := fun s _ hr => by
          unfold stL
          cases hls : listed.getD s false with
          | false => rfl
          | true => rw [reach_dn hD hr hls] at hn; cases hn
        cases hsp : sp i with
        | false =>
          have hst1 := step (stL sp listed) i o om hsp ho hns f' w' la ha hsm hag (fun j o' hjd ho' => hR j o' ho' (hd j hjd))
          unfold OS at hst1
          refine hst1 _ _ ?_
          rintro v w'' ⟨hs1, hr1⟩
          refine next v w'' (hsm.trans (hs1.weak (by simp))) hs1.size ?_ (fun k o' _ _ h => by rw [hstn hsp]; exact hst _ _ _ _ _ _ _ h hs1)
          unfold rO
          cases hdst : o.dst with
          | none => have := hspd i o ho hdst; rw [hsp] at this; cases this
          | some d => simp only [hstn hsp]; exact hr1
        | true =>
          have hst1 := stepS (stL sp listed) i o om hsp (by unfold stL; rw [hn]; rfl) ho hns f' w' la ha hsm hag (fun j o' hjd ho' => hR j o' ho' (hd j hjd)) (fun j k hj hk hne => hI j k (by have := hdl j hj; omega) (by have := hdl k hk; omega) hne (hd j hj) (hd k hk))
          unfold OS at hst1
          refine hst1 _ _ ?_
          rintro v w'' ⟨hs1, hsz, hr1, hk1⟩
          rw [← hsts hsp] at hk1
          refine next v w'' hs1 hsz ?_ hk1
          unfold rO at hr1 ⊢
          cases hdst : o.dst with
          | none => simp only [hdst] at hr1 ⊢; rw [hsts hsp]; exact hr1
          | some d => simp only [hdst] at hr1 ⊢; rw [hsts hsp]; exact hr1
  have h0 := key l.length (Array.replicate l.length false) f { w with drawn := w.drawn + 1 } (fun _ => 0) (fun _ => 0) (by simp) (fun j o _ h => by
    simp only [Array.getD_eq_getD_getElem?, Array.getElem?_replicate] at h
    split at h <;> cases h) ((Same.drew w 1).weak (fun x hx => by cases hx)) ag_refl (fun i o _ h => by
    simp only [Array.getD_eq_getD_getElem?, Array.getElem?_replicate] at h
    split at h <;> cases h) (fun _ _ _ => Nat.zero_le _) (fun _ _ _ _ _ _ _ => .inl (Nat.le_refl _)) (by
      have := List.countP_le_length (p := fun i => !(Array.replicate l.length false).getD i false) (l := List.range l.length)
      simp only [List.length_range] at this
      omega)
  simpa using h0
theorem c_monoUO {id : Nat} {l : List Oper} (m : Nat) (S X : List Nat) (sp : Nat → Bool) (R : (Nat → Bool) → Nat → Value → Nat → Nat → World → Prop) (hm : P.follows .mixedOrders = true) (hB : monoK l m S = true) (hsp : (List.range m).all (fun i => match l[i]? with | some o => o.dst.isSome || sp i | none => true) = true)
    (hst : ∀ st i v la ha w1 w2, R st i v la ha w1 → Same [] w1 w2 → R st i v la ha w2)
    (step : ∀ st i o, i < m → l[i]? = some o → (∀ s, sp s = true → reach l m s i = true → st s = false) → ∀ g w' (la ha : Nat → Nat), Same X w w' → (∀ j o', j ∈ deps o → l[j]? = some o' → R st j (vO g o') (la j) (ha j) w') → bif sp i then st i = false → (∀ j k, j ∈ deps o → k ∈ deps o → j ≠ k → ha j ≤ la k ∨ ha k ≤ la j) → OS P n (ovr S g f) w' o (fun v w'' => Same X w w'' ∧ w'.heap.size ≤ w''.heap.size ∧ rO (fun i v w'' => R (stU st i) i v w'.heap.size w''.heap.size w'') i o v w'' ∧ ∀ k o', k ≠ i → l[k]? = some o' → R st k (vO g o') (la k) (ha k) w' → R (stU st i) k (vO g o') (la k) (ha k) w'') else OS P n (ovr S g f) w' o (fun v w'' => Same [] w' w'' ∧ R st i v w'.heap.size w''.heap.size w''))
    (fin : ∀ st g w' (la ha : Nat → Nat), (∀ k, k < m → sp k = true → st k = true) → Same X w w' → (∀ i o, l[i]? = some o → R st i (vO g o) (la i) (ha i) w') → (∀ i j, i < m → j < m → i ≠ j → ha i ≤ la j ∨ ha j ≤ la i) → WL P l.toArray Q [] n (ovr S g f) w') : WC P (.region id l.toArray true) Q n f w := by
  have hlm : l.length = m := by
    have h := hB
    simp only [monoK, Bool.and_eq_true, decide_eq_true_eq] at h
    exact h.1
  have hvo : ∀ {f' : Fr}, Ag S f' f → f' = ovr S f' f := fun hag => ag_ovr hag
  refine c_monoU m S X sp R hm hB hst (fun st i o hi hs ho hns f' w' la ha hsm hag hd => ?_) (fun st i o hi hs hn ho hns f' w' la ha hsm hag hd hI => ?_) (fun i o ho hd => ?_) (fun st f' w' la ha hall hsm hag hR hI => ?_)
  · have h := step st i o hi ho hns f' w' la ha hsm hd
    rw [hs] at h
    rw [← hvo hag] at h
    exact h
  · have h := step st i o hi ho hns f' w' la ha hsm hd
    rw [hs] at h
    rw [← hvo hag] at h
    exact h hn hI
  · have hil := (List.getElem?_eq_some_iff.1 ho).1
    have h := List.all_eq_true.1 hsp i (List.mem_range.2 om)
    simpa [ho, hd] using h
  · have h := fin st f' w' la ha hall hsm hR hI
    rw [← hvo hag] at h
    exact h
end seven
end Go.Proofs.YtfhmpbmgddaiiaaDoor
namespace Go.Proofs.YtfhmpbmgddaiiaaDoor
open Go.RowKit Go.ChangeShapes Go.WideShapes Go.Deep Go.Joins
section
variable {H : Type} {enc : TypeId × Value → H} {P : Program} {w : World} {base : Nat} {spare : Nat → Bool} {held : Bool}
theorem links_open {t e ti : TypeId} {f0 f1 : Field} {fuel : Nat} {v : Value} {x : DataW H × List MemPlace} (ht : P.underlying t = some (.slice e)) (he : P.underlying e = some (.struct #[f0, f1])) (hsz : P.cellsOf e = 2) (o0 : f0.offset = 0) (o1 : f1.offset = 1) (e0 : f0.type = ti) (e1 : f1.type = ti)
    (hi : P.underlying ti = some (.int .i64)) (hc1 : P.cellsOf ti = 1) (h : DataW.trod enc P w base spare held fuel t [v] = some x) :
    ∃ A xs c, v = .slice A (List.length xs) c ∧ xs.length ≤ c ∧ LinksIn w A xs := by
  obtain ⟨A, len, c, rfl, hl, hm, hx⟩ := sl_open ht hsz dE h
  by_cases h0 : len = 0
  · subst h0
    exact ⟨A, [], c, rfl, Nat.zero_le _, Nat.zero_le _, fun h => absurd rfl h⟩
  · obtain ⟨b, o, rfl, hlt, hc⟩ := hx h0
    obtain ⟨xs, hxl, hxs⟩ := choose_list (p := fun i (z : Int × Int) => w.rangeAt b (o + i * 2) [.int .i64 z.1, .int .i64 z.2]) (n := len) (fun i hi' => by
      obtain ⟨cs, k, y, h1, h2, h3⟩ := hc i hi'
      obtain ⟨v0, v1, n, y0, y1, rfl, g0, g1⟩ := two_cells he h1 o0 o1 (by rw [e0]; exact hc1) (by rw [e1]; exact hc1) h3
      rw [e0] at g0
      rw [e1] at g1
      obtain ⟨z1, h5, _, _⟩ := DataW.trod_int hi g0
      obtain ⟨z2, h6, _, _⟩ := DataW.trod_int hi g1
      rw [one_val h5, one_val h6] at h2
      exact ⟨(z1, z2), h2⟩)
    subst hxl
    exact ⟨_, xs, c, rfl, hl, nLT hl hm, fun _ => ⟨b, o, rfl, hlt, hxs⟩⟩
theorem nodes_open {t e ti tl te : TypeId} {f0 f1 g0 g1 : Field} {fuel : Nat} {v : Value} {x : DataW H × List MemPlace} (ht : P.underlying t = some (.slice e)) (he : P.underlying e = some (.struct #[f0, f1])) (hsz : P.cellsOf e = 2) (o0 : f0.offset = 0) (o1 : f1.offset = 1) (e0 : f0.type = ti) (e1 : f1.type = tl)
    (htl : P.underlying tl = some (.slice te)) (hte : P.underlying te = some (.struct #[g0, g1])) (hst : P.cellsOf te = 2) (p0 : g0.offset = 0) (p1 : g1.offset = 1) (d0 : g0.type = ti) (d1 : g1.type = ti) (hcl : P.cellsOf tl = 1)
    (hi : P.underlying ti = some (.int .i64)) (hc1 : P.cellsOf ti = 1) (h : DataW.trod enc P w base spare held fuel t [v] = some x) :
    ∃ A gr c, v = .slice A (List.length gr) c ∧ gr.length ≤ c ∧ NodesIn w A gr := by
  obtain ⟨A, len, c, rfl, hl, hm, hx⟩ := sl_open ht hsz dE h
  by_cases h0 : len = 0
  · subst h0
    exact ⟨A, [], c, rfl, Nat.zero_le _, Nat.zero_le _, fun h => absurd rfl h⟩
  · obtain ⟨b, o, rfl, hlt, hc⟩ := hx h0
    obtain ⟨gr, hxl, hxs⟩ := choose_list (p := fun i (z : Nd) => NdIn w b (o + i * 2) z) (n := len) (fun i hi' => by
      obtain ⟨cs, k, y, h1, h2, h3⟩ := hc i hi'
      obtain ⟨v0, v1, n, y0, y1, rfl, q0, q1⟩ := two_cells he h1 o0 o1 (by rw [e0]; exact hc1) (by rw [e1]; exact hcl) h3
      rw [e0] at q0
      rw [e1] at q1
      obtain ⟨z1, h5, _, _⟩ := DataW.trod_int hi q0
      obtain ⟨A', xs, c', rfl, _, hin⟩ := links_open htl hte hst p0 p1 d0 d1 hi hc1 q1
      rw [one_val h5] at h2
      exact ⟨⟨z1, xs⟩, A', c', h2, hin⟩)
    subst hxl
    exact ⟨_, gr, c, rfl, hl, nLT hl hm, fun _ => ⟨b, o, rfl, hlt, hxs⟩⟩
end
end Go.Proofs.YtfhmpbmgddaiiaaDoor
namespace Go.Proofs.YtfhmpbmgddaiiaaDoor
open Go.RowKit
structure UF (n : Nat) (P rep ρ : Nat → Nat) : Prop where
  ex : ∀ i, i < n → P i ≠ i → ρ (P i) < ρ i
  lt : ∀ i, i < n → P i < n
  rl : ∀ i, i < n → rep i < n
  rr : ∀ i, i < n → P (rep i) = rep i
  rp : ∀ i, i < n → rep (P i) = rep i
  fx : ∀ i, i < n → P i = i → rep i = i
namespace UF
variable {n : Nat} {P rep ρ : Nat → Nat}
theorem two (h : UF n P rep ρ) {i : Nat} (hi : i < n) : rep (rep i) = rep i := h.fx _ (h.rl i hi) (h.rr i hi)
theorem more (h : UF n P rep ρ) {m : Nat} : UF (n + m) (fun x => if x < n then P x else x) (fun x => if x < n then rep x else x) ρ := by
  refine ⟨fun j hj hjn => ?_, fun j hj => ?_, fun j hj => ?_, fun j hj => ?_, fun j hj => ?_, fun j hj hjn => ?_⟩ <;> (try dsimp only at hjn) <;> (try dsimp only) <;> by_cases e : j < n
  · rw [if_pos e] at hjn ⊢; exact h.ex j e hjn
  · rw [if_neg e] at hjn; exact absurd rfl hjn
  · rw [if_pos e]; have := h.lt j e; omega
  · rw [if_neg e]; exact hj
  · rw [if_pos e]; have := h.rl j e; omega
  · rw [if_neg e]; exact hj
  · rw [if_pos e, if_pos (h.rl j e)]; exact h.rr j e
  · rw [if_neg e, if_neg e]
  · rw [if_pos e, if_pos (h.lt j e), if_pos e]; exact h.rp j e
  · rw [if_neg e, if_neg e]
  · rw [if_pos e] at hjn ⊢; exact h.fx j e hjn
  · rw [if_neg e]
theorem nil (P rep ρ : Nat → Nat) : UF 0 P rep ρ := ⟨fun _ h => absurd h (Nat.not_lt_zero _), fun _ h => absurd h (Nat.not_lt_zero _), fun _ h => absurd h (Nat.not_lt_zero _), fun _ h => absurd h (Nat.not_lt_zero _), fun _ h => absurd h (Nat.not_lt_zero _), fun _ h => absurd h (Nat.not_lt_zero _)⟩
end UF
def roots (n : Nat) (rep : Nat → Nat) : Nat := (List.range n).countP (fun i => decide (rep i = i))
def mergeL : List (Int × Int) → List (Int × Int) → List (Int × Int)
  | [], ys => ys
  | x :: xs, [] => x :: xs
  | x :: xs, y :: ys => if x.1 < y.1 then x :: mergeL xs (y :: ys) else if y.1 < x.1 then y :: mergeL (x :: xs) ys else x :: mergeL xs ys
termination_by xs ys => xs.length + ys.length
def newW : List (Int × Int) → List (Int × Int) → List (Int × Int)
  | [], _ => []
  | _ :: _, [] => []
  | x :: xs, y :: ys => if x.1 < y.1 then newW xs (y :: ys) else if y.1 < x.1 then newW (x :: xs) ys else (x.2, y.2) :: newW xs ys
termination_by xs ys => xs.length + ys.length
structure Adm (l : List Ty) (U c : List Nd) (θ : Nat → Nat) : Prop where
  lt : ∀ i, i < U.length → θ i < c.length
  ty : ∀ i, i < U.length → sub l (nd c (θ i)).ty.toNat (nd U i).ty.toNat = true
  ln : ∀ i, i < U.length → ∀ x ∈ (nd U i).ln, tgt (nd c (θ i)).ln x.1 = ((θ x.2.toNat : Nat) : Int)
def Resp (n : Nat) (rep : Nat → Nat) (W : List (Int × Int)) (κ : Nat → Nat) : Prop := (∀ i, i < n → κ i = κ (rep i)) ∧ ∀ w ∈ W, κ w.1.toNat = κ w.2.toNat
structure US (l : List Ty) (U : List Nd) (J : List (Nat × Nat)) (P rep ρ : Nat → Nat) (T : Nat → Int) (L : Nat → List (Int × Int)) (W : List (Int × Int)) : Prop where
  uf : UF U.length P rep ρ
  ty : ∀ i, i < U.length → 0 ≤ T i ∧ T i < l.length
  srt : ∀ i, i < U.length → Srt (L i)
  wr : ∀ w ∈ W, (0 ≤ w.1 ∧ w.1.toNat < U.length) ∧ 0 ≤ w.2 ∧ w.2.toNat < U.length
  only : ∀ c θ, (∀ i, i < c.length → 0 ≤ (nd c i).ty ∧ (nd c i).ty < l.length) → Adm l U c θ → (∀ p ∈ J, θ p.1 = θ p.2) → Resp U.length rep W θ ∧ ∀ i, i < U.length → rep i = i → sub l (nd c (θ i)).ty.toNat (T i).toNat = true
  tcov : ∀ i, i < U.length → sub l (T (rep i)).toNat (nd U i).ty.toNat = true
  lcov : ∀ i, i < U.length → ∀ x ∈ (nd U i).ln, ∃ t, (x.1, t) ∈ L (rep i) ∧ ∀ κ, Resp U.length rep W κ → κ x.2.toNat = κ t.toNat
  jcov : ∀ p ∈ J, ∀ κ, Resp U.length rep W κ → κ p.1 = κ p.2
  val : ∀ i, i < U.length → rep i = i → ∀ x ∈ L i, ∃ u, u < U.length ∧ rep u = i ∧ x ∈ (nd U u).ln
  ur : ∀ i, i < U.length → ∀ x ∈ (nd U i).ln, 0 ≤ x.2 ∧ x.2.toNat < U.length
section us
variable {l : List Ty} {U : List Nd} {J : List (Nat × Nat)} {P rep ρ : Nat → Nat} {T : Nat → Int} {L : Nat → List (Int × Int)} {W : List (Int × Int)}
theorem US.skip {p : Int × Int} (h : US l U J P rep ρ T L (W ++ [p])) (he : rep p.1.toNat = rep p.2.toNat) : US l U J P rep ρ T L W := by
  have hp := h.wr p (by simp)
  have hr : ∀ κ, Resp U.length rep W κ → Resp U.length rep (W ++ [p]) κ := fun κ hκ => ⟨hκ.1, fun w hw => by
    rcases List.mem_append.1 hw with hw | hw
    · exact hκ.2 w hw
    · rw [List.mem_singleton.1 hw, hκ.1 _ hp.1.2, he, ← hκ.1 _ hp.2.2]⟩
  refine ⟨h.uf, h.ty, h.srt, fun w hw => h.wr w (by simp [hw]), fun c θ hc hθ hj => ?_, h.tcov, fun i hi x hx => ?_, fun p hp κ hκ => h.jcov p hp κ (hr κ hκ), h.val, h.ur⟩
  · obtain ⟨h1, h2⟩ := h.only c θ hc hθ hj
    exact ⟨⟨h1.1, fun w hw => h1.2 w (by simp [hw])⟩, h2⟩
  · obtain ⟨t, h1, h2⟩ := h.lcov i hi x hx
    exact ⟨t, h1, fun κ hκ => h2 κ (hr κ hκ)⟩
theorem US.push (h : US l U J P rep ρ T L []) {a b : Nat} (ha : a < U.length) (hb : b < U.length) : US l U (J ++ [(a, b)]) P rep ρ T L [((a : Int), (b : Int))] := by
  have hr : ∀ κ, Resp U.length rep [((a : Int), (b : Int))] κ → Resp U.length rep [] κ := fun κ hκ => ⟨hκ.1, fun w hw => by cases hw⟩
  refine ⟨h.uf, h.ty, h.srt, fun w hw => ?_, fun c θ hc hθ hj => ?_, h.tcov, fun i hi x hx => ?_, fun q hq κ hκ => ?_, h.val, h.ur⟩
  · rw [List.mem_singleton.1 hw]; simp only [Int.toNat_natCast]; omega
  · obtain ⟨h1, h2⟩ := h.only c θ hc hθ (fun q hq => hj q (by simp [hq]))
    refine ⟨⟨h1.1, fun w hw => ?_⟩, h2⟩
    rw [List.mem_singleton.1 hw]
    simp only [Int.toNat_natCast]
    exact hj (a, b) (by simp)
  · obtain ⟨t, h1, h2⟩ := h.lcov i hi x hx
    exact ⟨t, h1, fun κ hκ => h2 κ (hr κ hκ)⟩
  · rcases List.mem_append.1 hq with hq | hq
    · exact h.jcov q hq κ (hr κ hκ)
    · rw [List.mem_singleton.1 hq]
      have := hκ.2 _ (List.mem_singleton.2 rfl)
      simpa using this
def shN (k : Nat) (x : Nd) : Nd := ⟨x.ty, x.ln.map (fun y => (y.1, y.2 + (k : Int)))⟩
theorem nd_left {U V : List Nd} {i : Nat} (h : i < U.length) : nd (U ++ V) i = nd U i := by simp [nd, List.getD, List.getElem?_append_left h]
theorem nd_right {U g : List Nd} {i : Nat} (h : i < g.length) : nd (U ++ g.map (shN U.length)) (U.length + i) = shN U.length (nd g i) := by
  simp [nd, List.getD, h]
theorem US.add {g : List Nd} (h : US l U J P rep ρ T L []) (hg : GY l g) (_hJ : ∀ p ∈ J, p.1 < U.length ∧ p.2 < U.length) :
    US l (U ++ g.map (shN U.length)) J (fun x => if x < U.length then P x else x) (fun x => if x < U.length then rep x else x) ρ (fun x => if x < U.length then T x else (nd g (x - U.length)).ty) (fun x => if x < U.length then L x else (nd g (x - U.length)).ln.map (fun y => (y.1, y.2 + (U.length : Int)))) [] := by
  have hlen : (U ++ g.map (shN U.length)).length = U.length + g.length := by simp
  have hnd : ∀ i, i < U.length + g.length → ¬ i < U.length → nd (U ++ g.map (shN U.length)) i = shN U.length (nd g (i - U.length)) ∧ i - U.length < g.length := fun i hi hn => by
    have e : i = U.length + (i - U.length) := by omega
    have hlt : i - U.length < g.length := by omega
    refine ⟨?_, hlt⟩
    have := nd_right (U := U) hlt
    rwa [← e] at this
  have hro : ∀ κ, Resp (U ++ g.map (shN U.length)).length (fun x => if x < U.length then rep x else x) [] κ → Resp U.length rep [] κ := fun κ hκ => ⟨fun i hi => by
    have := hκ.1 i (by rw [hlen]; omega)
    simpa [hi] using this, fun w hw => by cases hw⟩
  refine ⟨by rw [hlen]; exact h.uf.more, fun i hi => ?_, fun i hi => ?_, (fun w hw => by cases hw), fun c θ hc hθ hj => ?_, fun i hi => ?_, fun i hi x hx => ?_, fun q hq κ hκ => h.jcov q hq κ (hro κ hκ), fun i hi hri x hx => ?_, fun i hi x hx => ?_⟩ <;> (try rw [hlen] at hi)
  · (try dsimp only)
    by_cases e : i < U.length
    · rw [if_pos e]; exact h.ty i e
    · rw [if_neg e]; exact hg.tr _ (hnd i hi e).2
  · (try dsimp only)
    by_cases e : i < U.length
    · rw [if_pos e]; exact h.srt i e
    · rw [if_neg e]; exact List.pairwise_map.2 (hg.srt _ (hnd i hi e).2)
  · have hθU : Adm l U c θ := ⟨fun i hi => hθ.lt i (by rw [hlen]; omega), fun i hi => by
      have := hθ.ty i (by rw [hlen]; omega)
      rwa [nd_left hi] at this, fun i hi x hx => hθ.ln i (by rw [hlen]; omega) x (by rw [nd_left hi]; exact hx)⟩
    obtain ⟨h1, h2⟩ := h.only c θ hc hθU hj
    refine ⟨⟨fun i hi => ?_, fun w hw => by cases hw⟩, fun i hi hri => ?_⟩
    · (try dsimp only)
      by_cases e : i < U.length
      · rw [if_pos e]; exact h1.1 i e
      · rw [if_neg e]
    · (try dsimp only at hri ⊢)
      by_cases e : i < U.length
      · rw [if_pos e] at hri ⊢; exact h2 i e hri
      · rw [if_neg e]
        have := hθ.ty i hi
        rw [hlen] at hi
        rwa [(hnd i hi e).1] at this
  · (try dsimp only)
    by_cases e : i < U.length
    · rw [if_pos e, if_pos (h.uf.rl i e), nd_left e]; exact h.tcov i e
    · rw [if_neg e, if_neg e, (hnd i hi e).1]; exact sub_refl hg.vt _
  · (try dsimp only)
    by_cases e : i < U.length
    · rw [nd_left e] at hx
      obtain ⟨t, h1, h2⟩ := h.lcov i e x hx
      refine ⟨t, ?_, fun κ hκ => h2 κ (hro κ hκ)⟩
      rw [if_pos e, if_pos (h.uf.rl i e)]; exact h1
    · rw [(hnd i hi e).1] at hx
      refine ⟨x.2, ?_, fun κ _ => rfl⟩
      rw [if_neg e, if_neg e]; exact hx
  · (try dsimp only at hri hx)
    by_cases e : i < U.length
    · rw [if_pos e] at hri hx
      obtain ⟨u, h1, h2, h3⟩ := h.val i e hri x hx
      exact ⟨u, by rw [hlen]; omega, by rw [if_pos h1]; exact h2, by rw [nd_left h1]; exact h3⟩
    · rw [if_neg e] at hx
      exact ⟨i, by rw [hlen]; exact hi, by rw [if_neg e], by rw [(hnd i hi e).1]; exact hx⟩
  · by_cases e : i < U.length
    · rw [nd_left e] at hx
      have := h.ur i e x hx
      rw [hlen]; omega
    · obtain ⟨h1, h2⟩ := hnd i hi e
      rw [h1] at hx
      obtain ⟨y, hy, rfl⟩ := List.mem_map.1 hx
      have := hg.lr _ h2 y hy
      simp only [hlen]; omega
theorem US.nil {P rep ρ : Nat → Nat} {T : Nat → Int} {L : Nat → List (Int × Int)} : US l [] [] P rep ρ T L [] :=
  ⟨UF.nil _ _ _, fun _ h => absurd h (Nat.not_lt_zero _), fun _ h => absurd h (Nat.not_lt_zero _), fun _ h => (by cases h), fun _ _ _ _ _ => ⟨⟨fun _ h => absurd h (Nat.not_lt_zero _), fun _ h => (by cases h)⟩, fun _ h => absurd h (Nat.not_lt_zero _)⟩, fun _ h => absurd h (Nat.not_lt_zero _), fun _ h => absurd h (Nat.not_lt_zero _), fun _ h => (by cases h), fun _ h => absurd h (Nat.not_lt_zero _), fun _ h => absurd h (Nat.not_lt_zero _)⟩
def poolG (n : Nat) (rep : Nat → Nat) (T : Nat → Int) (L : Nat → List (Int × Int)) : List Nd := (List.range n).map (fun i => ⟨T i, if rep i = i then (L i).map (fun x => (x.1, ((rep x.2.toNat : Nat) : Int))) else []⟩)
theorem poolG_len (n : Nat) (rep : Nat → Nat) (T : Nat → Int) (L : Nat → List (Int × Int)) : (poolG n rep T L).length = n := by simp [poolG]
theorem poolG_nd {n : Nat} {rep : Nat → Nat} {T : Nat → Int} {L : Nat → List (Int × Int)} {i : Nat} (hi : i < n) : nd (poolG n rep T L) i = ⟨T i, if rep i = i then (L i).map (fun x => (x.1, ((rep x.2.toNat : Nat) : Int))) else []⟩ := by
  rw [nd_eq (by rw [poolG_len]; exact hi)]; simp [poolG]
theorem US.roots (h : US l U J P rep ρ T L []) {r : Nat} (_hr : r < U.length) (hrr : rep r = r) {o : List Nat} (t : TrR (poolG U.length rep T L) r o) : ∀ x ∈ o, x < U.length ∧ rep x = x := by
  have hw := DL.within (o := o.filter (fun x => decide (rep x = x))) (g := poolG U.length rep T L) (fun x hx z hz => by
    simp only [List.mem_filter, decide_eq_true_eq] at hx ⊢
    refine ⟨t.clo x hx.1 z hz, ?_⟩
    have hxl := t.lt hx.1
    rw [poolG_len] at hxl
    simp only [succN, poolG_nd hxl, if_pos hx.2, List.mem_map] at hz
    obtain ⟨_, ⟨y, hy, rfl⟩, rfl⟩ := hz
    obtain ⟨u, h1, _, h3⟩ := h.val x hxl hx.2 y hy
    have := h.ur u h1 y h3
    simp only [Int.toNat_natCast]
    exact h.uf.two this.2) t.dl (fun z hz => by
      rw [List.mem_singleton.1 hz]
      simp only [List.mem_filter, decide_eq_true_eq]
      exact ⟨t.has, hrr⟩) (fun x hx => by cases hx)
  intro x hx
  have := hw x hx
  simp only [List.mem_filter, decide_eq_true_eq] at this
  have hl := t.lt hx
  rw [poolG_len] at hl
  exact ⟨hl, this.2⟩
theorem US.nd_o (h : US l U J P rep ρ T L []) {r : Nat} (hr : r < U.length) (hrr : rep r = r) {o : List Nat} (t : TrR (poolG U.length rep T L) r o) {x : Nat} (hx : x ∈ o) : nd (poolG U.length rep T L) x = ⟨T x, (L x).map (fun y => (y.1, ((rep y.2.toNat : Nat) : Int)))⟩ := by
  obtain ⟨h1, h2⟩ := h.roots hr hrr t x hx
  rw [poolG_nd h1, if_pos h2]
theorem US.least (h : US l U J P rep ρ T L []) {r : Nat} (hr : r < U.length) (hrr : rep r = r) {o : List Nat} (t : TrR (poolG U.length rep T L) r o) {c : List Nd} {θ : Nat → Nat} (hc : ∀ i, i < c.length → 0 ≤ (nd c i).ty ∧ (nd c i).ty < l.length) (hθ : Adm l U c θ) (hj : ∀ p ∈ J, θ p.1 = θ p.2) (h0 : θ r = 0) : Maps l (canG (poolG U.length rep T L) o) c := by
  obtain ⟨h1, h2⟩ := h.only c θ hc hθ hj
  refine ⟨fun j => θ (o.getD j 0), ?_, fun j hj => ?_, fun j hj => ?_, fun j hj x hx => ?_⟩
  · have hz := get_idx t.has
    have hp : 0 < o.length := by have := hz.1; omega
    have := hz.2
    simp only [t.zero] at this
    have e : o.getD 0 0 = r := by simp [List.getD, hp, this]
    show θ (o.getD 0 0) = 0
    rw [e]; exact h0
  · obtain ⟨x, hx, _, e, _⟩ := t.at_ hj
    (try dsimp only)
    rw [e]; exact hθ.lt x (h.roots hr hrr t x hx).1
  · obtain ⟨x, hx, _, e, e2⟩ := t.at_ hj
    obtain ⟨hxl, hxr⟩ := h.roots hr hrr t x hx
    (try dsimp only)
    rw [e, e2]
    show sub l _ (nd (poolG U.length rep T L) x).ty.toNat = true
    rw [h.nd_o hr hrr t hx]
    exact h2 x hxl hxr
  · obtain ⟨y, hy, _, e, e2⟩ := t.at_ hj
    obtain ⟨hyl, hyr⟩ := h.roots hr hrr t y hy
    rw [e2] at hx
    obtain ⟨z, hz, rfl⟩ := List.mem_map.1 hx
    have hz2 := hz
    rw [h.nd_o hr hrr t hy] at hz2
    obtain ⟨q, hq, rfl⟩ := List.mem_map.1 hz2
    obtain ⟨u, u1, u2, u3⟩ := h.val y hyl hyr q hq
    have hqr := h.ur u u1 q u3
    have h3 := hθ.ln u u1 q u3
    rw [h1.1 u u1, u2] at h3
    (try dsimp only)
    rw [e, h3, h1.1 _ hqr.2]
    have hm := get_idx (t.mem hy hz)
    simp only [Int.toNat_natCast] at hm ⊢
    have e3 : o.getD (o.idxOf (rep q.2.toNat)) 0 = rep q.2.toNat := by
      have := hm.2
      simp [List.getD, hm.1, this]
    rw [e3]
end us
end Go.Proofs.YtfhmpbmgddaiiaaDoor
namespace Go.Proofs.YtfhmpbmgddaiiaaDoor
open Go.RowKit
def vN (P : Nat → Nat) (x : Nat) : Value := .int .i64 ((P x : Nat) : Int)
def vI (T : Nat → Int) (x : Nat) : Value := .int .i64 (T x)
theorem lnV_len (xs : List (Int × Int)) : (lnV xs).length = xs.length * 2 := by
  induction xs with
  | nil => rfl
  | cons x xs ih => rw [show lnV (x :: xs) = [Value.int .i64 x.1, Value.int .i64 x.2] ++ lnV xs from rfl, List.length_append, ih]; simp; omega
theorem LinksIn.news {w : World} {A : Option Addr} {xs : List (Int × Int)} (h : LinksIn w A xs) : 0 < xs.length → ∃ b o', A = some ⟨b, o', none⟩ ∧ ∀ j u, (lnV xs)[j]? = some u → w.cell? ⟨b, o' + j, none⟩ = some u := fun hm => by
  obtain ⟨b, o, rfl, _, hc⟩ := h.2 (fun e => by rw [e] at hm; simp at hm)
  refine ⟨b, o, rfl, fun j u hu => ?_⟩
  have hj : j < xs.length * 2 := by
    have := (List.getElem?_eq_some_iff.1 hu).1
    rwa [lnV_len] at this
  have hk : j / 2 < xs.length := by omega
  have h2 := lnV_get xs (j / 2) hk
  have h3 := hc (j / 2) hk
  rcases Nat.mod_two_eq_zero_or_one j with e | e
  · have e2 : j = j / 2 * 2 := by omega
    rw [e2] at hu
    rw [h2.1] at hu
    cases hu
    have := h3 0 (.int .i64 (xs[j / 2]).1) rfl
    rw [show o + j = o + j / 2 * 2 + 0 by omega]; exact this
  · have e2 : j = j / 2 * 2 + 1 := by omega
    rw [e2] at hu
    rw [h2.2] at hu
    cases hu
    have := h3 1 (.int .i64 (xs[j / 2]).2) rfl
    rw [show o + j = o + j / 2 * 2 + 1 by omega]; exact this
def Suf (w : World) (lo bs : Nat) (v : Value) (xs : List (Int × Int)) : Prop := ∃ (A0 : Option Addr) (c0 k : Nat) (ys : List (Int × Int)) (A : Option Addr), RowO w lo bs (.slice A0 ys.length c0) ys ∧ k ≤ ys.length ∧ xs = ys.drop k ∧ v = .slice A xs.length (c0 - k) ∧ (xs ≠ [] → ∃ g, A0 = some ⟨g, 0, none⟩ ∧ A = some ⟨g, k * 2, none⟩)
theorem Suf.tr {w w' : World} {lo bs : Nat} {v : Value} {xs : List (Int × Int)} {X : List Nat} (h : Suf w lo bs v xs) (hs : Same X w w') (hx : ∀ g ∈ X, bs ≤ g ∨ ∃ cs t, Blk w g t cs ∧ t ≠ 30) : Suf w' lo bs v xs := by
  obtain ⟨A0, c0, k, ys, A, h1, h2⟩ := h
  exact ⟨A0, c0, k, ys, A, h1.tr hs hx, h2⟩
theorem RowO.own {w : World} {lo bs : Nat} {A : Option Addr} {n c : Nat} {xs : List (Int × Int)} (h : RowO w lo bs (.slice A n c) xs) : n = xs.length ∧ Own w lo 30 2 A xs.length c (lnV xs) ∧ ∀ g ∈ aL A, g < bs := by
  obtain ⟨A', c', e, h1, h2⟩ := h
  cases e; exact ⟨rfl, h1, h2⟩
theorem Suf.of {w : World} {lo bs : Nat} {v : Value} {xs : List (Int × Int)} (h : RowO w lo bs v xs) : Suf w lo bs v xs := by
  obtain ⟨A, c, rfl, h1, h2⟩ := h
  refine ⟨A, c, 0, xs, A, ⟨A, c, rfl, h1, h2⟩, Nat.zero_le _, rfl, rfl, fun hne => ?_⟩
  obtain ⟨g, hg, _⟩ := h1.cell (fun e => hne (by have := congrArg List.length e; rw [lnV_len] at this; exact List.length_eq_zero_iff.1 (by simp at this; omega)))
  exact ⟨g, hg, by rw [hg, Nat.zero_mul]⟩
structure SufC (w : World) (lo bs : Nat) (A : Option Addr) (n c : Nat) (x : Int × Int) (xs : List (Int × Int)) : Prop where
  len : n = xs.length + 1
  at_ : ∃ g o, A = some ⟨g, o, none⟩ ∧ g < w.heap.size ∧ w.rangeAt g o [.int .i64 x.1, .int .i64 x.2]
  next : Suf w lo bs (.slice (if c = 1 then A else A.map (·.add (1 * 2))) (n - 1) (c - 1)) xs
theorem Suf.slice {w : World} {lo bs : Nat} {v : Value} {xs : List (Int × Int)} (h : Suf w lo bs v xs) : ∃ A c, v = .slice A xs.length c := by
  obtain ⟨A0, c0, k, ys, A, h1, h2, h3, h4, h5⟩ := h
  exact ⟨A, c0 - k, h4⟩
theorem Suf.cons {w : World} {lo bs n c : Nat} {A : Option Addr} {x : Int × Int} {xs : List (Int × Int)} (h : Suf w lo bs (.slice A n c) (x :: xs)) : SufC w lo bs A n c x xs := by
  obtain ⟨A0, c0, k, ys, A', h1, h2, h3, h4, h5⟩ := h
  obtain ⟨g, e0, e1⟩ := h5 (by simp)
  cases h4
  subst e0
  obtain ⟨_, ho, hb⟩ := h1.own
  have hcl := ho.cap_le
  have hk : k < ys.length := by
    have := congrArg List.length h3
    simp at this; omega
  have hx : ys[k] = x := by
    have h6 : (ys.drop k)[0]? = some x := by rw [← h3]; rfl
    rw [List.getElem?_drop, Nat.add_zero, List.getElem?_eq_getElem hk] at h6
    exact Option.some.inj h6
  have hxs : xs = ys.drop (k + 1) := by
    have : (x :: xs).tail = (ys.drop k).tail := by rw [h3]
    simpa [List.tail_drop] using this
  obtain ⟨q, e2, _, hql, hqc⟩ := ho.cell (fun e => by have := congrArg List.length e; rw [lnV_len] at this; simp at this; omega)
  cases e2
  have h7 := lnV_get ys k hk
  rw [hx] at h7
  refine ⟨by simp, ⟨g, k * 2, e1, hql, fun j v hj => ?_⟩, ?_⟩
  · match j, hj with
    | 0, hj => cases hj; exact hqc _ _ h7.1
    | 1, hj => cases hj; exact hqc _ _ h7.2
    | _ + 2, hj => cases hj
  · subst e1
    refine ⟨some ⟨g, 0, none⟩, c0, k + 1, ys, (if c0 - k = 1 then some (⟨g, k * 2, none⟩ : Addr) else Option.map (fun z : Addr => z.add (1 * 2)) (some (⟨g, k * 2, none⟩ : Addr))), h1, by omega, hxs, ?_, fun hne => ⟨g, rfl, ?_⟩⟩
    · rw [show (x :: xs).length - 1 = xs.length by simp, show c0 - k - 1 = c0 - (k + 1) by omega]
    · have hl : 0 < xs.length := List.length_pos_iff.2 hne
      have : xs.length = ys.length - (k + 1) := by rw [hxs]; simp
      rw [if_neg om]
      show some ((⟨g, k * 2, none⟩ : Addr).add (1 * 2)) = _
      rw [Addr.add_mid, show k * 2 + 1 * 2 = (k + 1) * 2 by omega]
def LMat (w : World) (A : Option Addr) (L : List (List (Int × Int))) : Prop := L.length ≤ maxI ∧ (L ≠ [] → ∃ b o, A = some ⟨b, o, none⟩ ∧ b < w.heap.size ∧ ∀ k (hk : k < L.length), ∃ A' c', w.cell? ⟨b, o + k * 1, none⟩ = some (.slice A' (L[k]).length c') ∧ LinksIn w A' L[k])
theorem LMat.mono {w w' : World} {A : Option Addr} {L : List (List (Int × Int))} (h : LMat w A L) (hb : Bel w w') : LMat w' A L :=
  ⟨h.1, fun hne => by
    obtain ⟨b, o, h1, h2, h3⟩ := h.2 hne
    refine ⟨b, o, h1, nLL h2 hb.size, fun k hk => ?_⟩
    obtain ⟨A', c', h4, h5⟩ := h3 k hk
    exact ⟨A', c', hb.cell h2 h4, h5.mono hb⟩⟩
theorem LMat.at_ {w w' : World} {A : Option Addr} {L : List (List (Int × Int))} (h : LMat w A L) (hb : Bel w w') {k : Nat} (hk : k < L.length) : ∃ b o A' c', A = some ⟨b, o, none⟩ ∧ w'.cell? ⟨b, o + k * 1, none⟩ = some (.slice A' (L[k]).length c') ∧ LinksIn w' A' L[k] := by
  obtain ⟨b, o, h1, h2, h3⟩ := h.2 (fun e => by rw [e] at hk; exact absurd hk (Nat.not_lt_zero _))
  obtain ⟨A', c', h4, h5⟩ := h3 k hk
  exact ⟨b, o, A', c', h1, hb.cell h2 h4, h5.mono hb⟩
end Go.Proofs.YtfhmpbmgddaiiaaDoor
namespace Go.Proofs.YtfhmpbmgddaiiaaDoor
open Go.RowKit
structure PoolAt (w : World) (ob bp : Nat) (c0 c1 : Value) (n : Nat) (PA TA LA : Option Addr) (cp ct cl : Nat) (P : Nat → Nat) (T : Nat → Int) (V : Nat → Value) (L : Nat → List (Int × Int)) : Prop where
  bp : Blk w bp 90 #[c0, c1, .slice PA n cp, .slice TA n ct, .slice LA n cl]
  pa : Own w ob 3 1 PA n cp (rowL n (vN P))
  ta : Own w ob 3 1 TA n ct (rowL n (vI T))
  la : Own w ob 31 1 LA n cl (rowL n V)
  rows : ∀ x, x < n → RowO w ob w.heap.size (V x) (L x)
  dis : ∀ g ∈ aL PA, ¬ g ∈ aL TA
def addP (n : Nat) (P : Nat → Nat) (x : Nat) : Nat := if x < n then P x else x
def addT (n : Nat) (T : Nat → Int) (g : List Nd) (x : Nat) : Int := if x < n then T x else (nd g (x - n)).ty
def shL (n : Nat) (xs : List (Int × Int)) : List (Int × Int) := xs.map (fun y => (y.1, y.2 + (n : Int)))
def addL (n : Nat) (L : Nat → List (Int × Int)) (g : List Nd) (x : Nat) : List (Int × Int) := if x < n then L x else shL n (nd g (x - n)).ln
end Go.Proofs.YtfhmpbmgddaiiaaDoor
namespace Go.Proofs.YtfhmpbmgddaiiaaDoor
open Go.RowKit
theorem merge_lt {x y : Int × Int} {xs ys : List (Int × Int)} (h : x.1 < y.1) : mergeL (x :: xs) (y :: ys) = x :: mergeL xs (y :: ys) ∧ newW (x :: xs) (y :: ys) = newW xs (y :: ys) := by
  constructor
  · rw [mergeL, if_pos h]
  · rw [newW, if_pos h]
theorem merge_gt {x y : Int × Int} {xs ys : List (Int × Int)} (h : y.1 < x.1) : mergeL (x :: xs) (y :: ys) = y :: mergeL (x :: xs) ys ∧ newW (x :: xs) (y :: ys) = newW (x :: xs) ys := by
  constructor
  · rw [mergeL, if_neg om, if_pos h]
  · rw [newW, if_neg om, if_pos h]
structure MG (X Y acc xs ys W1 W2 : List (Int × Int)) : Prop where
  m : mergeL X Y = acc ++ mergeL xs ys
  w : W1 ++ newW X Y = W2 ++ newW xs ys
  l : acc.length + xs.length + ys.length ≤ X.length + Y.length
  l2 : W2.length + xs.length ≤ W1.length + X.length
theorem MG.start (X Y W1 : List (Int × Int)) : MG X Y [] X Y W1 W1 := ⟨rfl, rfl, by simp, Nat.le_refl _⟩
theorem MG.left {X Y acc xs ys W1 W2 : List (Int × Int)} {x y : Int × Int} (h : MG X Y acc (x :: xs) (y :: ys) W1 W2) (hc : x.1 < y.1) : MG X Y (acc ++ [x]) xs (y :: ys) W1 W2 :=
  ⟨by rw [h.m, (merge_lt hc).1]; simp, by rw [h.w, (merge_lt hc).2], by have := h.l; simp only [List.length_append, List.length_cons, List.length_nil] at this ⊢; omega, by have := h.l2; simp only [List.length_cons] at this ⊢; omega⟩
theorem MG.right {X Y acc xs ys W1 W2 : List (Int × Int)} {x y : Int × Int} (h : MG X Y acc (x :: xs) (y :: ys) W1 W2) (hc : y.1 < x.1) : MG X Y (acc ++ [y]) (x :: xs) ys W1 W2 :=
  ⟨by rw [h.m, (merge_gt hc).1]; simp, by rw [h.w, (merge_gt hc).2], by have := h.l; simp only [List.length_append, List.length_cons, List.length_nil] at this ⊢; omega, h.l2⟩
theorem MG.end_ {X Y acc xs ys W1 W2 : List (Int × Int)} (h : MG X Y acc xs ys W1 W2) (he : ¬ (0 < xs.length ∧ 0 < ys.length)) : mergeL X Y = [acc, xs, ys].flatten ∧ W1 ++ newW X Y = W2 := by
  have e : mergeL xs ys = xs ++ ys ∧ newW xs ys = [] := by
    cases xs with
    | nil => simp [mergeL, newW]
    | cons x xs =>
      cases ys with
      | nil => simp [mergeL, newW]
      | cons y ys => simp at he
  exact ⟨by rw [h.m, e.1]; simp, by rw [h.w, e.2]; simp⟩
theorem Suf.rng {w : World} {lo bs g o n c : Nat} {x : Int × Int} {xs : List (Int × Int)} (h : Suf w lo bs (.slice (some ⟨g, o, none⟩) n c) (x :: xs)) : w.rangeAt g o [.int .i64 x.1, .int .i64 x.2] := by
  obtain ⟨g', o', e, _, h2⟩ := h.cons.at_
  cases e; exact h2
end Go.Proofs.YtfhmpbmgddaiiaaDoor
namespace Go.Proofs.YtfhmpbmgddaiiaaDoor
open Go.RowKit
theorem shN_zero (g : List Nd) : g.map (shN 0) = g := by
  have h : ∀ x : Nd, shN 0 x = x := fun x => by
    refine nd_ext rfl ?_
    simp [shN]
  rw [List.map_congr_left (g := id) (fun x _ => h x), List.map_id]
theorem US.first {l : List Ty} {g : List Nd} (hg : GY l g) : US l g [] (addP 0 (fun x => x)) (fun x => if x < 0 then x else x) (fun _ => 0) (addT 0 (fun _ => 0) g) (addL 0 (fun _ => []) g) [] := by
  have h := (US.nil (l := l) (P := fun x => x) (rep := fun x => x) (ρ := fun _ => 0) (T := fun _ => 0) (L := fun _ => [])).add hg (fun p hp => by cases hp)
  rw [List.nil_append, show ([] : List Nd).length = 0 from rfl, shN_zero] at h
  exact h
end Go.Proofs.YtfhmpbmgddaiiaaDoor
namespace Go.Proofs.YtfhmpbmgddaiiaaDoor
open Go.RowKit
section lub
variable {l : List Ty} {fs : List Ft} {ga gb : List Nd}
structure Lub (l : List Ty) (ga gb X : List Nd) : Prop where
  gx : GX l X
  left : Maps l ga X
  right : Maps l gb X
  least : ∀ c, GY l c → Maps l ga c → Maps l gb c → Maps l X c
  can : ∃ o, DL X [0] [] o ∧ canG X o = X
theorem Lub.uniq {X Y : List Nd} (h : Lub l ga gb X) (k : Lub l ga gb Y) : X = Y := by
  obtain ⟨o, ho, e⟩ := h.can
  obtain ⟨p, hp, e2⟩ := k.can
  have := can_eq h.gx k.gx (h.least Y k.gx.toGY k.left k.right) (k.least X h.gx.toGY h.left h.right) ho hp
  rw [e, e2] at this
  exact this.symm
end lub
end Go.Proofs.YtfhmpbmgddaiiaaDoor
