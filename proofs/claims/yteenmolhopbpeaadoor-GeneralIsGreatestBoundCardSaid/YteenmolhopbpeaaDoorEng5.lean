/- What these functions of the program compute, at every world: (glosswright/hierarchy.Table).Least. The engine: a region that draws its order, in which some operations store into blocks of a list X; every operation leaves what the others have told. -/
import Derived.Test.YteenmolhopbpeaaDoorU
import Derived.Test.YteenmolhopbpeaaDoorGraph
import Derived.Test.YteenmolhopbpeaaDoorMask
import Derived.Test.YteenmolhopbpeaaDoorEng2
namespace Go.Proofs.YteenmolhopbpeaaDoor
open Go.RowKit
theorem Own.weak {w : World} {base base' : Nat} {e : TypeId} {sz : Nat} {A : Option Addr} {k cap : Nat} {xs : List Value} (h : Own w base e sz A k cap xs) (hb : base' ≤ base) : Own w base' e sz A k cap xs := h.low hb
theorem fn29_Least : callable Tryd.prog 29 = true := by kernel_rfl
theorem in3_Least : (Tryd.prog.info? 3).map (fun i => (i.zero, i.size, i.bytes)) = some (some (.int .i64 0), 1, 8) := by kernel_rfl
theorem sz3_Least : (Tryd.prog.info? 3).map (·.size) = some 1 := by kernel_rfl
theorem sz47_Least : (Tryd.prog.info? 47).map (·.size) = some 1 := by kernel_rfl
theorem sz75_Least : (Tryd.prog.info? 75).map (·.size) = some 1 := by kernel_rfl
theorem ze3_Least : (Tryd.prog.info? 3).map (·.zero) = some (some (.int .i64 0)) := by kernel_rfl
theorem least_any (l : List Ty) (bu bd a b : Nat) (w : World) (hTab : TabIn w) (hI : TableIn w l bu bd) (hv : VT l) (h60 : l.length ≤ 60) (ha : a < l.length) (hb : b < l.length) : Calls Tryd.prog 16 #[tabV l.length bu bd, .int .i64 a, .int .i64 b] w fun e w' => (∃ A cap, e = .returned (.slice A (joinsK l a b l.length).length cap) ∧ Own w' w.heap.size 3 1 A (joinsK l a b l.length).length cap ((joinsK l a b l.length).map (Value.int .i64))) ∧ Bel w w' := by
 have hca := upN_lt h60 a
 have hcb := upN_lt h60 b
 have hcc := mask_lt64 (capB l a b) h60
 refine enter Tryd.func16 Tryd.ntmps16 rfl (Nat.le_of_ble_eq_true rfl) ?_
 have hB : Bel w w := Below.refl _ _
 refine c_seq (c_region ?_)
 refine wl_bx (v := .agg #[_, _]) (cs := #[_, _]) rfl rfl (fun b3 w1 hb3 hs hr => ?_)
 have lo3 := nLT (Bel.size hB) hr
 replace hB := hB.tr0 hs
 clear hs
 clear hr
 refine waS rfl (x_nil (e_S (c_seq ?_)))
 refine c_still kR kR (fun w2 hs => ?_)
 replace hB := hB.tr0 hs
 replace hb3 := hb3.tr0 hs
 clear hs
 refine ws (r_fa U49 sz47_Least dE rfl rfl rfl) (ws (r_ld1 (v := .slice _ _ _) U47 rfl rfl (hb3.cell rfl)) (ws (r_mv (v := .int _ _) rfl) (ws (r_ia (i := a) U47 sz75_Least rfl rfl om rfl) (ws (r_ld1 (v := .int _ _) U75 rfl rfl ((hI.mono hB).up ha)) (ws (r_fa U49 sz47_Least dE rfl rfl rfl) ?_)))))
 refine ws (r_ld1 (v := .slice _ _ _) U47 rfl rfl (hb3.cell rfl)) (ws (r_mv (v := .int _ _) rfl) (ws (r_ia (i := b) U47 sz75_Least rfl rfl om rfl) (ws (r_ld1 (v := .int _ _) U75 rfl rfl ((hI.mono hB).up hb)) (ws (r_andU rfl rfl hca hcb) (ws (r_as (v := .int .u64 (mask (capB l a b) l.length : Nat)) (congrArg (fun z : Nat => Value.int .u64 (z : Int)) (cap_and l a b))) ?_)))))
 refine s_nil (e_S (c_seq (c_region (waS rfl (x_nil ?_)))))
 refine e_S (c_seq (c_seq (c_region (wmI rfl (waI rfl ?_)))))
 refine x_nil (e_S (c_block ?_))
 refine c_loopS [8, 9, 10, 23, 24, 25, 26, 27, 28, 29, 30, 31, 32, 33, 34, 35, 36, 37, 38, 39, 40, 41, 42, 43, 44] (fun m g w' => ∃ (k : Nat) (A8 : Option Addr) (cap8 : Nat) (xs : List Int), k ≤ l.length ∧ m = l.length - k ∧ g 9 = .int .u64 (restN l a b k : Nat) ∧ g 8 = .slice A8 xs.length cap8 ∧ xs = joinsK l a b k ∧ Bel w w' ∧ Blk w' b3 49 #[.slice (some ⟨bu, 0, none⟩) l.length l.length, .slice (some ⟨bd, 0, none⟩) l.length l.length] ∧ Own w' (b3 + 1) 3 1 A8 (xs).length cap8 ((xs).map (Value.int .i64))) (l.length) ?_ (fun m g4 w3 hI => ?_)
 ·
  exact ⟨0, none, 0, [], Nat.zero_le _, rfl, congrArg (fun z : Nat => Value.int .u64 (z : Int)) (restN_zero l a b).symm, rfl, rfl, hB, hb3, Own.nil _ _ _ _⟩
 obtain ⟨k, A8, cap8, xs, hk, hm, h9, h8, hxs, hB, hb3, ho⟩ := hI
 refine c_know 9 (.int .u64 (restN l a b k : Nat)) h9 nu (c_know 8 (.slice A8 xs.length cap8) h8 nu (c_seq (c_seq (c_region (wmI rfl ?_)))))
 refine wl (r_neq rfl rfl) (x_nil (e_S ?_))
 refine c_ifd rfl (fun c24 => ?_) (fun c24 => ?_)
 ·
  have hne : restN l a b k ≠ 0 := fun h => c24 (by rw [h]; rfl)
  have hr := rest_at h60 hne
  have hrl := restN_lt h60 a b k
  have hxl := joinsK_le l a b k
  rw [← hxs] at hxl
  obtain ⟨i, hi⟩ : ∃ i, i = Lib.ctz 64 (restN l a b k) := ⟨_, rfl⟩
  rw [← hi] at hr
  have hil := hr.lt
  have hki := hr.le
  refine c_skip (e_S (c_seq (c_block (c_seq (c_region ?_)))))
  refine wmI rfl ?_
  refine wl_cl fn29_Least (tz_any _ _ hne hrl (hTab.mono hB)) rfl (fun e' w4 hr => ?_)
  obtain ⟨rfl, rfl⟩ := hr
  refine ⟨_, rfl, ?_⟩
  refine wl (r_as (v := .int .i64 (i : Nat)) (congrArg (fun z : Nat => Value.int .i64 (z : Int)) hi.symm)) (x_nil (e_S (c_seq ?_)))
  refine c_still kR kR (fun w5 hs => ?_)
  replace hB := hB.tr0 hs
  replace hb3 := hb3.tr0 hs
  replace ho := ho.tr0 hs
  clear hs
  refine ws (r_fa U49 sz47_Least dE rfl rfl rfl) (ws (r_ld1 (v := .slice _ _ _) U47 rfl rfl (hb3.cell rfl)) (ws (r_mv (v := .int _ _) rfl) (ws (r_ia (i := i) U47 sz75_Least rfl rfl hil rfl) (ws (r_ld1 (v := .int _ _) U75 rfl rfl ((hI.mono hB).down hil)) (ws (r_mv (v := .int _ _) rfl) ?_)))))
  refine ws (r_andU rfl rfl (downN_lt h60 i) hcc) (ws (r_mv (v := .int _ _) rfl) (ws (r_shl1 rfl rfl om rfl) (ws (r_eql rfl rfl) (s_nil (e_S ?_)))))
  refine c_ifd rfl (fun c40 => ?_) (fun c40 => ?_)
  ·
   have hjk := rest_yes hr ((join_test hv hil hr.cap).1 (Int.ofNat_inj.1 c40))
   refine c_region (wmS rfl (wmI rfl ?_))
   refine wl_bs (cs := #[_]) [(0, .int _ _)] rfl U56 sz3_Least ze3_Least dE dE kR rfl (fun b43 w6 hb43 hs hr => ?_)
   have or_b3_b43 : b3 < b43 := nLL hb3.lt hr
   have or_ho_b43 := fun g hg => nLL (ho.lt g hg).2 hr
   have lo43 := nLT (Bel.size hB) hr
   replace hB := hB.tr0 hs
   replace hb3 := hb3.tr0 hs
   replace ho := ho.tr0 hs
   clear hs
   clear hr
   refine wl_app U56 in3_Least rfl dE ho hb43 rfl rfl rfl oneA dE om om hb3.lt (fun g44 cap44 w7 ho44 hs hg => ?_)
   have ne_ho44_b3 : g44 ≠ b3 := fun e => by
    have hl := hb3.lt
    rcases hg with hg | hg
    · have h1 := ho.lt g44 (by rw [hg]; exact List.mem_singleton.2 rfl)
      (try have := or_ho_b3 g44 (by rw [hg]; exact List.mem_singleton.2 rfl)); omega
    · omega
   replace hB := hB.tr hs (fun g hg => nLT (Nat.le_succ_of_le lo3) (ho.lt g hg).1)
   replace hb3 := hb3.tr hs (fun hx => by have := (ho.lt _ hx).1; (try have := or_ho_b3 _ hx); omega)
   refine waS rfl (x_nil (e_B (e_S (c_region (wmI rfl ?_)))))
   refine wmI rfl (wl (r_subU (b := 1) rfl rfl om hrl rfl) (wl (r_andU rfl rfl hrl om) (waI rfl (x_nil (e_LS (l.length - (i + 1)) om agA ?_)))))
   first
     | exact ⟨i + 1, _, _, xs ++ [(i : Int)], by omega, rfl, congrArg (fun z : Nat => Value.int .u64 (z : Int)) hr.next, sl_snoc _ _ _ _, by rw [hxs, hjk], hB, hb3, own_snoc ho44⟩
     | exact ⟨i + 1, _, _, xs, by omega, rfl, congrArg (fun z : Nat => Value.int .u64 (z : Int)) hr.next, rfl, by rw [hxs, hjk], hB, hb3, ho⟩
  have hjk := rest_no hr (by
    cases hjb : joinB l a b i with
    | false => rfl
    | true => exact absurd (congrArg (fun z : Nat => (z : Int)) ((join_test hv hil hr.cap).2 hjb)) c40)
  refine c_skip (e_B (e_S (c_region (wmI rfl (wmI rfl ?_)))))
  refine wl (r_subU (b := 1) rfl rfl om hrl rfl) (wl (r_andU rfl rfl hrl om) (waI rfl (x_nil (e_LS (l.length - (i + 1)) om agA ?_))))
  first
    | exact ⟨i + 1, _, _, xs ++ [(i : Int)], by omega, rfl, congrArg (fun z : Nat => Value.int .u64 (z : Int)) hr.next, sl_snoc _ _ _ _, by rw [hxs, hjk], hB, hb3, own_snoc ho44⟩
    | exact ⟨i + 1, _, _, xs, by omega, rfl, congrArg (fun z : Nat => Value.int .u64 (z : Int)) hr.next, rfl, by rw [hxs, hjk], hB, hb3, ho⟩
 have hz0 : restN l a b k = 0 := by omega
 have hend := rest_end hk hz0
 refine c_exit (e_Sx (e_LSx (e_Bx (e_S (c_seq ?_)))))
 refine c_region (wmS rfl (waS rfl (x_nil (e_S (c_ret ?_)))))
 refine fin1 (.inl rfl) rfl rfl ?_
 rw [hend, ← hxs]
 exact ⟨⟨_, _, rfl, ho.weak (Nat.le_succ_of_le lo3)⟩, hB⟩
end Go.Proofs.YteenmolhopbpeaaDoor
namespace Go.Proofs.YteenmolhopbpeaaDoor
open Go.RowKit
section monok
variable {P : Program} {Q : Exit → Act → World → Prop} {n : Nat} {f : Fr} {w : World}
def vO (f : Fr) (o : Oper) : Value := match o.dst with
  | some d => f d
  | none => undef
def rO (R : Nat → Value → World → Prop) (i : Nat) (o : Oper) (v : Value) (w : World) : Prop := match o.dst with
  | some _ => R i v w
  | none => R i undef w
def monoK (l : List Oper) (m : Nat) (S : List Nat) : Bool :=
  decide (l.length = m) && (List.range l.length).all (fun i => match l[i]? with
    | some o => o.guard.isNone && (deps o).all (fun j => decide (j < i)) && (match o.dst with
      | some d => mem S d && (List.range l.length).all (fun j => decide (i = j) || (match l[j]? with | some o' => !(o'.dst == some d) | none => true))
      | none => true)
    | none => false)
theorem os_wl0 {Post : Value → World → Prop} {op : Op} {ty : TypeId} {pos : String} {af : Array Edge} (h : ∀ (ops : Array Oper) (Q : Exit → Act → World → Prop), (∀ w', Post undef w' → WL P ops Q [] n f w') → WL P ops Q [⟨none, op, ty, pos, af, none⟩] n f w) : OS P n f w ⟨none, op, ty, pos, af, none⟩ Post := by
  unfold OS
  intro K Q hK
  have h1 := h #[] (onlyN K Q) (fun w' hp => by
    unfold WL
    refine wpList_nil ?_
    have := hK undef w' hp
    exact this)
  unfold WL wpList at h1
  rw [if_pos (by simp [Region.wanted])] at h1
  have ho : ¬ LetsOut (onlyN K Q) := fun ⟨_, _, h⟩ => h
  rcases h1 with h1 | ⟨_, h1⟩
  · exact oper_wp_mono2 (Q := onlyN K Q) (fun a w h => h) (fun c a w h => h) ho h1
  · exact absurd h1 ho
theorem c_monoK {id : Nat} {l : List Oper} (m : Nat) (S X : List Nat) (R : Nat → Value → World → Prop) (J : World → Prop) (hm : P.follows .mixedOrders = true) (hB : monoK l m S = true) (hJ0 : ∀ w', Same [] w w' → J w')
    (step : ∀ i o, i < m → l[i]? = some o → ∀ f' w', Same X w w' → J w' → Ag S f' f → (∀ j o', j ∈ deps o → l[j]? = some o' → R j (vO f' o') w') → OS P n f' w' o (fun v w'' => Same X w' w'' ∧ J w'' ∧ rO R i o v w'' ∧ ∀ k v, k ≠ i → R k v w' → R k v w''))
    (fin : ∀ f' w', Same X w w' → J w' → Ag S f' f → (∀ i o, l[i]? = some o → R i (vO f' o) w') → WL P l.toArray Q [] n f' w') : WC P (.region id l.toArray true) Q n f w := by
  unfold WC
  refine wp_region_any hm ?_
  simp only [monoK, Bool.and_eq_true, List.all_eq_true, List.mem_range, decide_eq_true_eq] at hB
  obtain ⟨hlm, hB⟩ := hB
  have hget : ∀ i o, l[i]? = some o → o.guard = none ∧ (∀ j ∈ deps o, j < i) ∧ ∀ d, o.dst = some d → mem S d = true ∧ ∀ j o', l[j]? = some o' → i ≠ j → o'.dst ≠ some d := fun i o ho => by
    have hil : i < l.length := (List.getElem?_eq_some_iff.1 ho).1
    have h := hB i hil
    simp only [ho, Bool.and_eq_true] at h
    obtain ⟨⟨h1, h2⟩, h3⟩ := h
    refine ⟨Option.isNone_iff_eq_none.1 h1, fun j hj => by simpa using List.all_eq_true.1 h2 j hj, fun d hd => ?_⟩
    simp only [hd, Bool.and_eq_true] at h3
    refine ⟨h3.1, fun j o' ho' hne hd' => ?_⟩
    have h4 := List.all_eq_true.1 h3.2 j (List.mem_range.2 (List.getElem?_eq_some_iff.1 ho').1)
    simp [ho', hd', hne] at h4
  have key : ∀ (fuel : Nat) (listed : Array Bool) (f' : Fr) (w' : World), listed.size = l.length → Dn l listed → Same X w w' → J w' → Ag S f' f → (∀ i o, l[i]? = some o → listed.getD i false = true → R i (vO f' o) w') →
      (List.range l.length).countP (fun i => !listed.getD i false) ≤ fuel → wpAny P .any l.toArray Q fuel listed (AF n f') w' := by
    have fin' : ∀ (listed : Array Bool) (f' : Fr) (w' : World), Same X w w' → J w' → Ag S f' f → (∀ i o, l[i]? = some o → listed.getD i false = true → R i (vO f' o) w') → (∀ i, i < l.length → listed.getD i false = true) → Q .normal (AF n f') w' := fun listed f' w' hs hj hag hR hall => by
      have := fin f' w' hs hj hag (fun i o ho => hR i o ho (hall i (List.getElem?_eq_some_iff.1 ho).1))
      unfold WL at this; exact this
    intro fuel
    induction fuel with
    | zero =>
      intro listed f' w' hs hD hsm hj hag hR hc
      have hall : ∀ i, i < l.length → listed.getD i false = true := by
        intro i hi
        have h0 : (List.range l.length).countP (fun i => !listed.getD i false) = 0 := by omega
        rw [List.countP_eq_zero] at h0
        have := h0 i (List.mem_range.2 hi)
        simpa using this
      refine ⟨?_, fin' listed f' w' hsm hj hag hR hall⟩
      cases hr : Region.ready .any l.toArray listed with
      | nil => rfl
      | cons i r =>
        obtain ⟨o, ho, hn, _⟩ := ready_inv' listed i (by rw [hr]; simp)
        have : i < l.length := (List.getElem?_eq_some_iff.1 ho).1
        rw [hall i om] at hn; cases hn
    | succ fuel ih =>
      intro listed f' w' hs hD hsm hj hag hR hc
      refine ⟨fun hr => ?_, fun i hi => ?_⟩
      · have hall : ∀ k, k ≤ l.length → ∀ i, i < k → listed.getD i false = true := by
          intro k
          induction k with
          | zero => intro _ i hi; omega
          | succ k ihk =>
            intro hk i hi
            have ihk' := ihk om
            by_cases hik : i < k
            · exact ihk' i hik
            · have : i = k := by omega
              subst this
              cases hb : listed.getD i false with
              | true => rfl
              | false =>
                have ho : l[i]? = some l[i] := List.getElem?_eq_getElem om
                have := ready_of' listed i _ hs ho hb (fun j hj => ihk' j ((hget i _ ho).2.1 j hj))
                rw [hr] at this; cases this
        exact fin' listed f' w' hsm hj hag hR (hall l.length (Nat.le_refl _))
      · obtain ⟨o, ho, hn, hd⟩ := ready_inv' listed i hi
        have hil : i < l.length := (List.getElem?_eq_some_iff.1 ho).1
        obtain ⟨hg, hdl, hdd⟩ := hget i o ho
        unfold wpOp
        simp only [List.getElem?_toArray, ho]
        rw [if_pos (by simp [Region.wanted, hg])]
        left
        have hst1 := step i o om ho f' w' hsm hj hag (fun j o' hjd ho' => hR j o' ho' (hd j hjd))
        unfold OS at hst1
        refine hst1 _ _ ?_
        rintro v w'' ⟨hs1, hj1, hr1, hk1⟩
        have hli : ∀ j, i ≠ j → (listed.setIfInBounds i true).getD j false = listed.getD j false := fun j hij => by
          simp only [Array.getD_eq_getD_getElem?, Array.getElem?_setIfInBounds_ne hij]
        have hlt := countP_lt (p := fun i => !listed.getD i false) (q := fun k => !(listed.setIfInBounds i true).getD k false) (fun x hx => by
          by_cases hix : i = x
          · subst hix; simp [hn]
          · simpa only [Array.getD_eq_getD_getElem?, Array.getElem?_setIfInBounds_ne hix] using hx) (List.range l.length) i (List.mem_range.2 hil) (by simp [hn]) (by
            have : i < listed.size := by omega
            simp [this])
        cases hdst : o.dst with
        | none =>
          have hri : R i undef w'' := by simpa only [rO, hdst] using hr1
          show wpAny P .any l.toArray Q fuel (listed.setIfInBounds i true) (AF n f') w''
          refine ih _ _ _ (by simpa using hs) (hD.set om ho hd) (hsm.trans hs1) hj1 hag (fun j o' ho' hl' => ?_) om
          by_cases hij : i = j
          · subst hij
            rw [ho] at ho'; cases ho'
            simpa only [vO, hdst] using hri
          · rw [hli j hij] at hl'
            exact hk1 j _ (fun e => hij e.symm) (hR j o' ho' hl')
        | some d =>
          have hri : R i v w'' := by simpa only [rO, hdst] using hr1
          obtain ⟨hSd, hne⟩ := hdd d hdst
          rw [put_AF]
          refine ih _ _ _ (by simpa using hs) (hD.set om ho hd) (hsm.trans hs1) hj1 (ag_upd hSd hag) (fun j o' ho' hl' => ?_) om
          by_cases hij : i = j
          · subst hij
            rw [ho] at ho'; cases ho'
            have : vO (upd f' d v) o = v := by simp [vO, hdst, upd]
            rw [this]; exact hri
          · rw [hli j hij] at hl'
            have : vO (upd f' d v) o' = vO f' o' := by
              unfold vO
              cases hd' : o'.dst with
              | none => rfl
              | some d' =>
                have h1 := hne j o' ho' hij
                rw [hd'] at h1
                simp only [upd]
                have : Nat.beq d' d = false := by
                  cases hb : Nat.beq d' d
                  · rfl
                  · exact absurd (congrArg some (Nat.eq_of_beq_eq_true hb)) h1
                simp [this]
            rw [this]
            exact hk1 j _ (fun e => hij e.symm) (hR j o' ho' hl')
  have h0 := key l.length (Array.replicate l.length false) f { w with drawn := w.drawn + 1 } (by simp) (fun j o _ h => by
    simp only [Array.getD_eq_getD_getElem?, Array.getElem?_replicate] at h
    split at h <;> cases h) ((Same.drew w 1).weak (fun x hx => by cases hx)) (hJ0 _ (Same.drew w 1)) ag_refl (fun i o _ h => by
    simp only [Array.getD_eq_getD_getElem?, Array.getElem?_replicate] at h
    split at h <;> cases h) (by
      have := List.countP_le_length (p := fun i => !(Array.replicate l.length false).getD i false) (l := List.range l.length)
      simp only [List.length_range] at this
      omega)
  simpa using h0
theorem c_monoKO {id : Nat} {l : List Oper} (m : Nat) (S X : List Nat) (R : Nat → Value → World → Prop) (J : World → Prop) (hm : P.follows .mixedOrders = true) (hB : monoK l m S = true)
    (hst : ∀ i v w1 w2, R i v w1 → Same [] w1 w2 → R i v w2) (hJ : ∀ w1 w2, J w1 → Same [] w1 w2 → J w2) (hJ0 : J w)
    (step : ∀ i o, i < m → l[i]? = some o → ∀ g w', Same X w w' → J w' → (∀ j o', j ∈ deps o → l[j]? = some o' → R j (vO g o') w') → match o.dst with
      | some _ => OS P n (ovr S g f) w' o (fun v w'' => Same [] w' w'' ∧ R i v w'' ∧ Frsh false w' w'' v)
      | none => OS P n (ovr S g f) w' o (fun _ w'' => Same X w' w'' ∧ J w'' ∧ R i undef w'' ∧ ∀ k v, k ≠ i → R k v w' → R k v w''))
    (fin : ∀ g w', Same X w w' → J w' → (∀ i o, l[i]? = some o → R i (vO g o) w') → WL P l.toArray Q [] n (ovr S g f) w') : WC P (.region id l.toArray true) Q n f w := by
  refine c_monoK m S X R J hm hB (fun w' hs => hJ _ _ hJ0 hs) (fun i o hi ho f' w' hs hj hag hd => ?_) (fun f' w' hs hj hag hR => ?_)
  · have h := step i o hi ho f' w' hs hj hd
    rw [← ag_ovr hag] at h
    unfold rO
    cases hdst : o.dst with
    | some d =>
      simp only [hdst] at h
      unfold OS at h ⊢
      exact fun K Q hK => h K Q (fun v w'' ⟨h1, h2, _⟩ => hK v w'' ⟨h1.weak (fun x hx => by cases hx), hJ _ _ hj h1, h2, fun k v _ hr => hst k v _ _ hr h1⟩)
    | none =>
      simp only [hdst] at h
      unfold OS at h ⊢
      exact fun K Q hK => h K Q (fun v w'' h1 => hK v w'' h1)
  · have := fin f' w' hs hj hR
    rwa [← ag_ovr hag] at this
end monok
end Go.Proofs.YteenmolhopbpeaaDoor
