/- The engine's third part: regions that draw their order, with intervals of blocks. -/
import Derived.Test.YteoncmfiiknfbaaDoorEng3a
namespace Go.Proofs.YteoncmfiiknfbaaDoor
open Go.RowKit
/-! ## regions with intervals -/
section monoi
variable {P : Program} {Q : Exit → Act → World → Prop} {n : Nat} {f : Fr} {w : World}
/-- whose interval the value of an operation lies in: its own, or that of one before it -/
def ivB (l : List Oper) (m : Nat) (ow : Nat → Nat) : Bool := (List.range m).all (fun i => decide (ow i < m) && Nat.beq (ow (ow i)) (ow i) && (Nat.beq (ow i) i || (match l[i]? with | some o => (deps o).any (fun j => Nat.beq (ow j) (ow i)) | none => false)))
/-- a region that draws its order: what each operation has made lies in an interval of blocks of its own -/
theorem c_monoI {id : Nat} {l : List Oper} (m : Nat) (S : List Nat) (ow : Nat → Nat) (R : Nat → Value → Nat → Nat → World → Prop) (hm : P.follows .mixedOrders = true) (hB : monoG l m S = true) (hI : ivB l m ow = true)
    (hst : ∀ i v a b w w', R i v a b w → b ≤ w.heap.size → Same [] w w' → R i v a b w')
    (step : ∀ i o, i < m → l[i]? = some o → ∀ f' w' (lo hi : Nat → Nat), Same [] w w' → Ag S f' f → (∀ j ∈ deps o, R j (f' (dstOf l.toArray j)) (lo (ow j)) (hi (ow j)) w' ∧ hi (ow j) ≤ w'.heap.size) → (∀ j k, j ∈ deps o → k ∈ deps o → ow j ≠ ow k → hi (ow j) ≤ lo (ow k) ∨ hi (ow k) ≤ lo (ow j)) → (Region.wanted o (yielded l.toArray (AF n f').tmps) = true → OS P n f' w' o (fun v w'' => Same [] w' w'' ∧ R i v (bif Nat.beq (ow i) i then w'.heap.size else lo (ow i)) (bif Nat.beq (ow i) i then w''.heap.size else hi (ow i)) w'')) ∧ (Region.wanted o (yielded l.toArray (AF n f').tmps) = false → R i undef (bif Nat.beq (ow i) i then w'.heap.size else lo (ow i)) (bif Nat.beq (ow i) i then w'.heap.size else hi (ow i)) w'))
    (fin : ∀ f' w' (lo hi : Nat → Nat), Same [] w w' → Ag S f' f → (∀ i, i < m → R i (f' (dstOf l.toArray i)) (lo (ow i)) (hi (ow i)) w' ∧ hi (ow i) ≤ w'.heap.size) → (∀ i j, i < m → j < m → ow i ≠ ow j → hi (ow i) ≤ lo (ow j) ∨ hi (ow j) ≤ lo (ow i)) → WL P l.toArray Q (l.drop m) n f' w') : WC P (.region id l.toArray true) Q n f w := by
  unfold WC
  refine wp_region_any hm ?_
  simp only [monoG, Bool.and_eq_true, List.all_eq_true, List.mem_range, decide_eq_true_eq] at hB
  obtain ⟨⟨hh, hlen⟩, hl⟩ := hB
  have hget : ∀ i, i < m → ∃ o d, l[i]? = some o ∧ o.dst = some d ∧ mem S d = true ∧ True ∧ (∀ j ∈ deps o, j < i) ∧ (∀ j, j < m → i ≠ j → dstOf l.toArray i ≠ dstOf l.toArray j) ∧ dstOf l.toArray i = d := by
    intro i hi
    have h := hh i hi
    cases ho : l[i]? with
    | none => simp [ho] at h
    | some o =>
      simp only [ho, Bool.and_eq_true] at h
      obtain ⟨⟨⟨h1, h2⟩, h3⟩, h4⟩ := h
      cases hd : o.dst with
      | none => simp [hd] at h1
      | some d =>
        simp only [hd] at h1
        refine ⟨o, d, rfl, hd, h1, trivial, fun j hj => by simpa using List.all_eq_true.1 h3 j hj, fun j hj hne => ?_, by simp [dstOf, ho, hd]⟩
        have := List.all_eq_true.1 h4 j (List.mem_range.2 hj)
        simpa [hne] using this
  have hio : ∀ i, i < m → ow i < m ∧ ow (ow i) = ow i ∧ (ow i = i ∨ ∀ o, l[i]? = some o → ∃ j ∈ deps o, ow j = ow i) := by
    intro i hi
    have h := List.all_eq_true.1 hI i (List.mem_range.2 hi)
    simp only [Bool.and_eq_true, Bool.or_eq_true, decide_eq_true_eq] at h
    obtain ⟨⟨h1, h2⟩, h3⟩ := h
    refine ⟨h1, Nat.eq_of_beq_eq_true h2, ?_⟩
    rcases h3 with h3 | h3
    · exact .inl (Nat.eq_of_beq_eq_true h3)
    · refine .inr (fun o ho => ?_)
      rw [ho] at h3
      obtain ⟨j, hj, hb⟩ := List.any_eq_true.1 h3
      exact ⟨j, hj, Nat.eq_of_beq_eq_true hb⟩
  have ready_of : ∀ (listed : Array Bool) (i : Nat) (o : Oper), listed.size = l.length → l[i]? = some o → listed.getD i false = false → (∀ j ∈ deps o, listed.getD j false = true) → i ∈ Region.ready .any l.toArray listed := by
    intro listed i o hs ho hn hd
    have hi : i < l.length := (List.getElem?_eq_some_iff.1 ho).1
    simp only [Region.ready, List.mem_filter, List.mem_range, Bool.and_eq_true, Bool.not_eq_true']
    refine ⟨by simpa using hi, ?_, ?_⟩
    · simp only [Array.getD_eq_getD_getElem?] at hn ⊢
      have : i < listed.size := by omega
      simp only [Array.getElem?_eq_getElem this, Option.getD_some] at hn ⊢
      exact hn
    · simp only [List.getElem?_toArray, ho, Option.map_some, Option.getD_some]
      exact all_of_deps hd
  have ready_inv : ∀ (listed : Array Bool) (i : Nat), i ∈ Region.ready .any l.toArray listed → ∃ o, l[i]? = some o ∧ listed.getD i false = false ∧ ∀ j ∈ deps o, listed.getD j false = true := by
    intro listed i hi
    simp only [Region.ready, List.mem_filter, List.mem_range, Bool.and_eq_true, Bool.not_eq_true'] at hi
    obtain ⟨hi, hn, hd⟩ := hi
    have hi' : i < l.length := by simpa using hi
    refine ⟨l[i], List.getElem?_eq_getElem hi', ?_, ?_⟩
    · simp only [Array.getD_eq_getD_getElem?] at hn ⊢
      cases hq : listed[i]? with
      | none => rfl
      | some b => simpa [hq] using hn
    · simp only [List.getElem?_toArray, List.getElem?_eq_getElem hi', Option.map_some, Option.getD_some] at hd
      exact deps_mem hd
  have key : ∀ (fuel : Nat) (listed : Array Bool) (f' : Fr) (w' : World) (lo hi : Nat → Nat), listed.size = l.length → Dn l listed → (∀ t, m ≤ t → listed.getD t false = false) → Same [] w w' → Ag S f' f → (∀ i, i < m → listed.getD i false = true → listed.getD (ow i) false = true ∧ R i (f' (dstOf l.toArray i)) (lo (ow i)) (hi (ow i)) w' ∧ hi (ow i) ≤ w'.heap.size) →
      (∀ i j, i < m → j < m → ow i = i → ow j = j → i ≠ j → listed.getD i false = true → listed.getD j false = true → hi i ≤ lo j ∨ hi j ≤ lo i) →
      (List.range m).countP (fun i => !listed.getD i false) + (l.length - m) ≤ fuel → wpAny P .any l.toArray Q fuel listed (AF n f') w' := by
    intro fuel
    induction fuel with
    | zero =>
      intro listed f' w' lo hi hs hD ht hsm hag hR hdis hc
      have hlm : l.length = m := by omega
      have hall : ∀ i, i < m → listed.getD i false = true := by
        intro i hi
        have h0 : (List.range m).countP (fun i => !listed.getD i false) = 0 := by omega
        rw [List.countP_eq_zero] at h0
        have := h0 i (List.mem_range.2 hi)
        simpa using this
      refine ⟨?_, ?_⟩
      · cases hr : Region.ready .any l.toArray listed with
        | nil => rfl
        | cons i r =>
          have hi : i ∈ Region.ready .any l.toArray listed := by rw [hr]; simp
          obtain ⟨o, ho, hn, _⟩ := ready_inv listed i hi
          have : i < l.length := (List.getElem?_eq_some_iff.1 ho).1
          rw [hall i (by omega)] at hn; cases hn
      · have := fin f' w' lo hi hsm hag (fun i hi => (hR i hi (hall i hi)).2) (fun i j hi hj hne => hdis (ow i) (ow j) (hio i hi).1 (hio j hj).1 (hio i hi).2.1 (hio j hj).2.1 hne (hR i hi (hall i hi)).1 (hR j hj (hall j hj)).1)
        rw [List.drop_eq_nil_of_le (by omega)] at this
        unfold WL at this; exact this
    | succ fuel ih =>
      intro listed f' w' lo hi hs hD ht hsm hag hR hdis hc
      refine ⟨fun hr => ?_, fun i hir => ?_⟩
      · -- nothing is ready: all is done
        have hall : ∀ k, k ≤ m → ∀ i, i < k → listed.getD i false = true := by
          intro k
          induction k with
          | zero => intro _ i hi; omega
          | succ k ihk =>
            intro hk i hi
            have ihk' := ihk (by omega)
            by_cases hik : i < k
            · exact ihk' i hik
            · have : i = k := by omega
              subst this
              cases hb : listed.getD i false with
              | true => rfl
              | false =>
                obtain ⟨o, d, ho, _, _, _, hd, _, _⟩ := hget i (by omega)
                have := ready_of listed i o hs ho hb (fun j hj => ihk' j (hd j hj))
                rw [hr] at this; cases this
        have hlm : l.length = m := by
          rcases Nat.lt_or_ge m l.length with hm' | hm'
          · exfalso
            have ho : l[m]? = some l[m] := List.getElem?_eq_getElem hm'
            have hd : ∀ j ∈ deps l[m], listed.getD j false = true := fun j hj => hall m (Nat.le_refl _) j (tail_dep (hl m hm') (by omega) ho j hj)
            have := ready_of listed m _ hs ho (ht m (Nat.le_refl _)) hd
            rw [hr] at this; cases this
          · omega
        have := fin f' w' lo hi hsm hag (fun i hi => (hR i hi (hall m (Nat.le_refl _) i hi)).2) (fun i j hi hj hne => hdis (ow i) (ow j) (hio i hi).1 (hio j hj).1 (hio i hi).2.1 (hio j hj).2.1 hne (hR i hi (hall m (Nat.le_refl _) i hi)).1 (hR j hj (hall m (Nat.le_refl _) j hj)).1)
        rw [List.drop_eq_nil_of_le (by omega)] at this
        unfold WL at this; exact this
      · obtain ⟨o, ho, hn, hd⟩ := ready_inv listed i hir
        have hil : i < l.length := (List.getElem?_eq_some_iff.1 ho).1
        unfold wpOp
        simp only [List.getElem?_toArray, ho]
        by_cases him : i < m
        · obtain ⟨o', d, ho', hdst, hSd, hg, hdl, hdd, hde⟩ := hget i him
          rw [ho] at ho'
          cases ho'
          have next : ∀ v w'', Same [] w' w'' → R i v (bif Nat.beq (ow i) i then w'.heap.size else lo (ow i)) (bif Nat.beq (ow i) i then w''.heap.size else hi (ow i)) w'' → wpAny P .any l.toArray Q fuel (listed.setIfInBounds i true) (AF n (upd f' d v)) w'' := by
            intro v w'' hs1 hr1
            have hself : upd f' d v (dstOf l.toArray i) = v := by rw [hde]; simp [upd]
            have hother : ∀ j, j < m → i ≠ j → upd f' d v (dstOf l.toArray j) = f' (dstOf l.toArray j) := fun j hj hij => by
              have hne := hdd j hj hij
              rw [hde] at hne
              simp only [upd]
              have : Nat.beq (dstOf l.toArray j) d = false := by
                cases hb : Nat.beq (dstOf l.toArray j) d
                · rfl
                · exact absurd (Nat.eq_of_beq_eq_true hb).symm hne
              simp [this]
            have hli : ∀ j, i ≠ j → (listed.setIfInBounds i true).getD j false = listed.getD j false := fun j hij => by
              simp only [Array.getD_eq_getD_getElem?, Array.getElem?_setIfInBounds_ne hij]
            refine ih _ _ _ (fun k => if k = i then w'.heap.size else lo k) (fun k => if k = i then w''.heap.size else hi k) (by simpa using hs) (hD.set (by omega) ho hd) ?_ (hsm.trans hs1) (ag_upd hSd hag) ?_ ?_ ?_
            · intro t hmt
              have : i ≠ t := by omega
              rw [hli t this]; exact ht t hmt
            · intro j hj hl'
              by_cases hij : i = j
              · subst hij
                rw [hself]
                rcases (hio i hj).2.2 with he | he
                · rw [he]
                  simp only [if_true]
                  rw [he] at hr1
                  simp only [show Nat.beq i i = true from Nat.beq_refl i, cond_true] at hr1
                  exact ⟨hl', hr1, Nat.le_refl _⟩
                · by_cases he2 : ow i = i
                  · rw [he2]
                    simp only [if_true]
                    rw [he2] at hr1
                    simp only [show Nat.beq i i = true from Nat.beq_refl i, cond_true] at hr1
                    exact ⟨hl', hr1, Nat.le_refl _⟩
                  · have hb : Nat.beq (ow i) i = false := by
                      cases hb : Nat.beq (ow i) i
                      · rfl
                      · exact absurd (Nat.eq_of_beq_eq_true hb) he2
                    simp only [hb, cond_false] at hr1
                    simp only [if_neg he2]
                    obtain ⟨k, hk, hke⟩ := he o ho
                    obtain ⟨h1, _, h3⟩ := hR k (Nat.lt_trans (hdl k hk) him) (hd k hk)
                    rw [hke] at h1 h3
                    exact ⟨by rw [hli _ (fun h => he2 h.symm)]; exact h1, hr1, Nat.le_trans h3 hs1.size⟩
              · have hji : ¬ j = i := fun h => hij h.symm
                rw [hother j hj hij]
                rw [hli j hij] at hl'
                obtain ⟨h1, h2, h3⟩ := hR j hj hl'
                have hoi : ¬ ow j = i := fun h => by rw [h, hn] at h1; cases h1
                simp only [if_neg hoi]
                exact ⟨by rw [hli _ (fun h => hoi h.symm)]; exact h1, hst j _ _ _ _ _ h2 h3 hs1, Nat.le_trans h3 hs1.size⟩
            · intro j k hj hk hoj hok hjk hlj hlk
              by_cases hij : i = j
              · subst hij
                have hki : ¬ k = i := fun h => hjk h.symm
                rw [hli k hjk] at hlk
                have h4 := (hR k hk hlk).2.2
                rw [hok] at h4
                simp only [if_true, if_neg hki]
                exact .inr h4
              · have hji : ¬ j = i := fun h => hij h.symm
                rw [hli j hij] at hlj
                by_cases hik : i = k
                · subst hik
                  have h4 := (hR j hj hlj).2.2
                  rw [hoj] at h4
                  simp only [if_true, if_neg hji]
                  exact .inl h4
                · have hki : ¬ k = i := fun h => hik h.symm
                  rw [hli k hik] at hlk
                  simp only [if_neg hji, if_neg hki]
                  exact hdis j k hj hk hoj hok hjk hlj hlk
            · have hlt := countP_lt (p := fun i => !listed.getD i false) (q := fun k => !(listed.setIfInBounds i true).getD k false) (fun x hx => by
                by_cases hix : i = x
                · subst hix; simp [hn]
                · rw [hli x hix] at hx; exact hx) (List.range m) i (List.mem_range.2 him) (by simp [hn]) (by
                  have : i < listed.size := by omega
                  simp [this])
              omega
          have hstep := step i o him ho f' w' lo hi hsm hag (fun j hj => (hR j (Nat.lt_trans (hdl j hj) him) (hd j hj)).2) (fun j k hj hk hne => hdis (ow j) (ow k) (hio j (Nat.lt_trans (hdl j hj) him)).1 (hio k (Nat.lt_trans (hdl k hk) him)).1 (hio j (Nat.lt_trans (hdl j hj) him)).2.1 (hio k (Nat.lt_trans (hdl k hk) him)).2.1 hne (hR j (Nat.lt_trans (hdl j hj) him) (hd j hj)).1 (hR k (Nat.lt_trans (hdl k hk) him) (hd k hk)).1)
          by_cases hwt : Region.wanted o (yielded l.toArray (AF n f').tmps) = true
          · rw [if_pos hwt]
            left
            have hst1 := hstep.1 hwt
            unfold OS at hst1
            refine hst1 _ _ ?_
            rintro v w'' ⟨hs1, hr1⟩
            rw [hdst, put_AF]
            exact next v w'' hs1 hr1
          · rw [if_neg hwt, hdst, put_AF]
            exact next undef w' (Same.refl _ _) (hstep.2 (by simpa using hwt))
        · -- the tail
          have hall := tail_all (hl i hil) (by omega) ho hD hd
          have : i = m := by
            rcases Nat.lt_or_ge m i with h | h
            · have h1 := hall m h
              rw [ht m (Nat.le_refl _)] at h1; cases h1
            · omega
          subst this
          have hW := fin f' w' lo hi hsm hag (fun j hj => (hR j hj (hall j hj)).2) (fun i j hi hj hne => hdis (ow i) (ow j) (hio i hi).1 (hio j hj).1 (hio i hi).2.1 (hio j hj).2.1 hne (hR i hi (hall i hi)).1 (hR j hj (hall j hj)).1)
          have hT := any_tail (Q := Q) hl (l.length - i) (fuel + 1) i listed (AF n f') w' (by omega) (by omega) (Nat.le_refl _) hs hD hall ht (by unfold WL at hW; exact hW)
          have := hT.2 i hir
          unfold wpOp at this
          simp only [List.getElem?_toArray, ho] at this
          exact this
  have h0 := key l.length (Array.replicate l.length false) f { w with drawn := w.drawn + 1 } (fun _ => 0) (fun _ => 0) (by simp) (fun j o _ h => by
    simp only [Array.getD_eq_getD_getElem?, Array.getElem?_replicate] at h
    split at h <;> cases h) (fun t _ => by
    simp only [Array.getD_eq_getD_getElem?, Array.getElem?_replicate]; split <;> rfl) (Same.drew w 1) ag_refl (fun i hi h => by
    simp only [Array.getD_eq_getD_getElem?, Array.getElem?_replicate] at h
    split at h <;> cases h) (fun i j hi hj _ _ hne h => by
    simp only [Array.getD_eq_getD_getElem?, Array.getElem?_replicate] at h
    split at h <;> cases h) (by
      have := List.countP_le_length (p := fun i => !(Array.replicate l.length false).getD i false) (l := List.range m)
      simp only [List.length_range] at this
      omega)
  simpa using h0
theorem c_monoIO {id : Nat} {l : List Oper} (m : Nat) (S : List Nat) (ow : Nat → Nat) (R : Nat → Value → Nat → Nat → World → Prop) (hm : P.follows .mixedOrders = true) (hB : monoG l m S = true) (hI : ivB l m ow = true)
    (hst : ∀ i v a b w1 w2, R i v a b w1 → b ≤ w1.heap.size → Same [] w1 w2 → R i v a b w2)
    (step : ∀ i o, i < m → l[i]? = some o → ∀ g w' (lo hi : Nat → Nat), Same [] w w' → (∀ j ∈ deps o, R j (g (dstOf l.toArray j)) (lo (ow j)) (hi (ow j)) w' ∧ hi (ow j) ≤ w'.heap.size) → (∀ j k, j ∈ deps o → k ∈ deps o → ow j ≠ ow k → hi (ow j) ≤ lo (ow k) ∨ hi (ow k) ≤ lo (ow j)) → (Region.wanted o (yielded l.toArray (AF n (ovr S g f)).tmps) = true → OS P n (ovr S g f) w' o (fun v w'' => Same [] w' w'' ∧ R i v (bif Nat.beq (ow i) i then w'.heap.size else lo (ow i)) (bif Nat.beq (ow i) i then w''.heap.size else hi (ow i)) w'')) ∧ (Region.wanted o (yielded l.toArray (AF n (ovr S g f)).tmps) = false → R i undef (bif Nat.beq (ow i) i then w'.heap.size else lo (ow i)) (bif Nat.beq (ow i) i then w'.heap.size else hi (ow i)) w'))
    (fin : ∀ g w' (lo hi : Nat → Nat), Same [] w w' → (∀ i, i < m → R i (g (dstOf l.toArray i)) (lo (ow i)) (hi (ow i)) w' ∧ hi (ow i) ≤ w'.heap.size) → (∀ i j, i < m → j < m → ow i ≠ ow j → hi (ow i) ≤ lo (ow j) ∨ hi (ow j) ≤ lo (ow i)) → WL P l.toArray Q (l.drop m) n (ovr S g f) w') : WC P (.region id l.toArray true) Q n f w := by
  refine c_monoI m S ow R hm hB hI hst (fun i o hi ho f' w' lo hi' hs hag hd hdis => ?_) (fun f' w' lo hi hs hag hR hdis => ?_)
  · have := step i o hi ho f' w' lo hi' hs hd hdis
    rwa [← ag_ovr hag] at this
  · have := fin f' w' lo hi hs hR hdis
    rwa [← ag_ovr hag] at this
/-! ## operations that float -/
def FinAll (p : List Nat → Prop) : List (List Nat) → Prop
  | [] => True
  | x :: r => p x ∧ FinAll p r
theorem FinAll.get {p : List Nat → Prop} : ∀ {xs : List (List Nat)}, FinAll p xs → ∀ x ∈ xs, p x
  | _ :: _, h, x, hx => by
    rcases List.mem_cons.1 hx with rfl | hx
    · exact h.1
    · exact FinAll.get h.2 x hx
end monoi
/-- what holds as long as an interval of blocks stays as it is -/
def Kept (lo hi : Nat) (w : World) (p : World → Prop) : Prop := hi ≤ w.heap.size ∧ ∀ w2 : World, hi ≤ w2.heap.size → (∀ b, lo ≤ b → b < hi → w2.heap[b]? = w.heap[b]?) → p w2
theorem Kept.tr {lo hi : Nat} {w w' : World} {p : World → Prop} {X : List Nat} (h : Kept lo hi w p) (hs : Same X w w') (hx : ∀ g ∈ X, g < lo ∨ hi ≤ g) : Kept lo hi w' p :=
  ⟨Nat.le_trans h.1 hs.size, fun w2 h2 hb => h.2 w2 h2 (fun b h3 h4 => (hb b h3 h4).trans (hs.blk b (Nat.lt_of_lt_of_le h4 h.1) (fun hX => by rcases hx b hX with h5 | h5 <;> omega)))⟩
theorem Kept.tr0 {lo hi : Nat} {w w' : World} {p : World → Prop} (h : Kept lo hi w p) (hs : Same [] w w') : Kept lo hi w' p := h.tr hs (by simp)
theorem Kept.tr1 {lo hi b : Nat} {w w' : World} {p : World → Prop} (h : Kept lo hi w p) (hs : Same [b] w w') (hx : b < lo ∨ hi ≤ b) : Kept lo hi w' p := h.tr hs (fun g hg => by rw [List.mem_singleton.1 hg]; exact hx)
theorem Kept.imp {lo hi : Nat} {w : World} {p q : World → Prop} (h : Kept lo hi w p) (k : ∀ w2, p w2 → q w2) : Kept lo hi w q := ⟨h.1, fun w2 h2 hb => k w2 (h.2 w2 h2 hb)⟩
end Go.Proofs.YteoncmfiiknfbaaDoor
