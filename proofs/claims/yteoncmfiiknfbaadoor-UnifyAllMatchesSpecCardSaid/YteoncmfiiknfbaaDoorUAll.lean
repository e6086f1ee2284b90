/- What these functions of the program compute, at every world: glosswright/unify.All. -/
import Derived.Test.YteoncmfiiknfbaaDoorU
import Derived.Test.YteoncmfiiknfbaaDoorEng3
import Derived.Test.YteoncmfiiknfbaaDoorEng4
namespace Go.Proofs.YteoncmfiiknfbaaDoor
open Go.RowKit
def GrsIn (w : World) (A : Option Addr) (L : List (List Nd)) : Prop :=
  L.length ≤ maxI ∧ (L ≠ [] → ∃ b o, A = some ⟨b, o, none⟩ ∧ b < w.heap.size ∧ ∀ k (hk : k < L.length), ∃ A' c, w.rangeAt b (o + k * 1) [.slice A' (L[k]).length c] ∧ NodesIn w A' L[k])
theorem GrsIn.mono {w w' : World} {A : Option Addr} {L : List (List Nd)} (h : GrsIn w A L) (hb : Bel w w') : GrsIn w' A L :=
  ⟨h.1, fun hn => by
    obtain ⟨b, o, e, hl, hc⟩ := h.2 hn
    refine ⟨b, o, e, lL hl hb.size, fun k hk => ?_⟩
    obtain ⟨A', c, h1, h2⟩ := hc k hk
    exact ⟨A', c, hb.range hl h1, h2.mono hb⟩⟩
theorem GrsIn.at_ {w w' : World} {A : Option Addr} {L : List (List Nd)} (h : GrsIn w A L) (hb : Bel w w') {k : Nat} (hk : k < L.length) :
    ∃ b o A' c, A = some ⟨b, o, none⟩ ∧ w'.rangeAt b (o + k * 1) [.slice A' (L[k]).length c] ∧ NodesIn w A' L[k] := by
  obtain ⟨b, o, e, hl, hc⟩ := h.2 (by rintro rfl; simp at hk)
  obtain ⟨A', c, h1, h2⟩ := hc k hk
  exact ⟨b, o, A', c, e, hb.range hl h1, h2⟩
theorem types0_of {l : List Ty} {fs : List Ft} (h : (hierFault l fs).1 = 0) : (typesFault l).1 = 0 := by
  unfold hierFault at h
  by_cases h4 : 40 < fs.length
  · rw [if_pos h4] at h; cases h
  rw [if_neg h4] at h
  by_cases ht : (typesFault l).1 ≠ 0
  · rw [if_pos ht] at h; exact absurd h ht
  exact Decidable.not_not.1 ht
theorem few_of {l : List Ty} {fs : List Ft} (h : (hierFault l fs).1 = 0) : fs.length ≤ 40 := by
  unfold hierFault at h
  by_cases h4 : 40 < fs.length
  · rw [if_pos h4] at h; cases h
  · omega
theorem PoolAt.fr {w w2 : World} {ob bp : Nat} {c0 c1 : Value} {n : Nat} {PA TA LA : Option Addr} {cp ct cl : Nat} {P : Nat → Nat} {T : Nat → Int} {V : Nat → Value} {L : Nat → List (Int × Int)} (h : PoolAt w ob bp c0 c1 n PA TA LA cp ct cl P T V L) (hf : FrSame bp w w2) (hbo : bp < ob) : PoolAt w2 ob bp c0 c1 n PA TA LA cp ct cl P T V L :=
  have hf2 : FrSame ob w w2 := ⟨hf.size, fun b hb hl => hf.blk b om hl⟩
  ⟨hf.at_ h.bp (Nat.le_refl _), h.pa.fr (Nat.le_refl _) hf2, h.ta.fr (Nat.le_refl _) hf2, h.la.fr (Nat.le_refl _) hf2, fun x hx => ((h.rows x hx).fr hf2).up hf.size, h.dis⟩
theorem topG_gok {nt nf : Nat} (h : 0 < nt) : GOk nt nf topG := by
  have h0 : ∀ i (hi : i < topG.length), topG[i] = ⟨0, []⟩ := fun i hi => by
    have : i = 0 := by simp [topG] at hi; omega
    subst this; rfl
  refine ⟨by simp [topG], by simp [topG], fun i hi => ?_, fun i hi x hx => ?_, fun i hi => ?_⟩
  · rw [h0 i hi]; simp; omega
  · rw [h0 i hi] at hx; cases hx
  · rw [h0 i hi]; simp
theorem allF_h {l : List Ty} {fs : List Ft} {gs : List (List Nd)} (h : ¬ (hierFault l fs).1 = 0) : allF l fs gs = hierFault l fs := by unfold allF; rw [if_pos h]
theorem allF_many {l : List Ty} {fs : List Ft} {gs : List (List Nd)} (h : (hierFault l fs).1 = 0) (hn : 300 < gs.length) : allF l fs gs = (2, -2) := by unfold allF; rw [if_neg (fun k => k h), if_pos hn]
theorem allF_bad {l : List Ty} {fs : List Ft} {gs : List (List Nd)} (h : (hierFault l fs).1 = 0) (hn : ¬ 300 < gs.length) {k : Nat} (hk : k < gs.length) (h0 : ∀ i (hi : i < k), (withinF l fs (gs[i]'om)).1 = 0) (hb : ¬ (withinF l fs gs[k]).1 = 0) : allF l fs gs = ((withinF l fs gs[k]).1, (k : Int)) := by
  unfold allF
  rw [if_neg (fun k => k h), if_neg hn, witF_hit hk h0 hb, Nat.zero_add]
theorem allF_zero {l : List Ty} {fs : List Ft} {gs : List (List Nd)} (h : (hierFault l fs).1 = 0) (hn : ¬ 300 < gs.length) (h0 : ∀ i (hi : i < gs.length), (withinF l fs gs[i]).1 = 0) : (allF l fs gs).1 = 0 := by
  unfold allF
  rw [if_neg (fun k => k h), if_neg hn, witF_no h0]
theorem al_fin {l : List Ty} {fs : List Ft} {gs : List (List Nd)} {X : List Nd} {A A2 : Option Addr} {ok2 : Bool} {n2 c2 lo : Nat} {x y : Int} {w : World} (hh : (hierFault l fs).1 = 0) (hS : Sound l) (ht : (typesFault l).1 = 0) (h0 : (allF l fs gs).1 = 0) (hv : ∀ i (hi : i < gs.length), GV l fs gs[i]) (hU : UniR l (UA gs gs.length) (JA gs gs.length) X) (hs : SizedS A X.length X.length true A2 n2 c2 ok2 x y) (hN : ∀ w2, FrSame lo w w2 → NodesIn w2 A X) : ∃ X2 : List Nd, X2.length = n2 ∧ c2 = n2 ∧ (∀ w2, FrSame lo w w2 → NodesIn w2 A2 X2) ∧ AllS l fs gs ok2 (x, y) X2 := by
  have hl := all_lub hS ht (fun i hi => (hv i hi).gx) hU
  rcases hs with ⟨a1, _⟩ | ⟨a1, a2, rfl, rfl, rfl, rfl, rfl, rfl⟩ | ⟨a1, a2, rfl, rfl, rfl, rfl, rfl, rfl⟩
  · cases a1
  · exact ⟨[], rfl, rfl, fun w2 _ => nodes_nil w2 none, .inr (.inr (.inl ⟨h0, rfl, rfl, rfl, X, hl, a2⟩))⟩
  · exact ⟨X, rfl, rfl, hN, .inr (.inr (.inr ⟨h0, rfl, rfl, hl, a2, all_valid hh ht hv hU a2⟩))⟩
theorem fn24_UAll : callable Tryd.prog 24 = true := by kernel_rfl
theorem fn25_UAll : callable Tryd.prog 25 = true := by kernel_rfl
theorem fn26_UAll : callable Tryd.prog 26 = true := by kernel_rfl
theorem fn27_UAll : callable Tryd.prog 27 = true := by kernel_rfl
theorem fn28_UAll : callable Tryd.prog 28 = true := by kernel_rfl
theorem fn29_UAll : callable Tryd.prog 29 = true := by kernel_rfl
theorem fn30_UAll : callable Tryd.prog 30 = true := by kernel_rfl
theorem sz22_UAll : (Tryd.prog.info? 22).map (·.size) = some 1 := by kernel_rfl
theorem sz25_UAll : (Tryd.prog.info? 25).map (·.size) = some 2 := by kernel_rfl
theorem sz28_UAll : (Tryd.prog.info? 28).map (·.size) = some 1 := by kernel_rfl
theorem sz3_UAll : (Tryd.prog.info? 3).map (·.size) = some 1 := by kernel_rfl
theorem sz30_UAll : (Tryd.prog.info? 30).map (·.size) = some 2 := by kernel_rfl
theorem sz55_UAll : (Tryd.prog.info? 55).map (·.size) = some 2 := by kernel_rfl
theorem sz60_UAll : (Tryd.prog.info? 60).map (·.size) = some 2 := by kernel_rfl
theorem ze28_UAll : (Tryd.prog.info? 28).map (·.zero) = some (some (.agg #[.slice none 0 0])) := by kernel_rfl
theorem ze30_UAll : (Tryd.prog.info? 30).map (·.zero) = some (some (.agg #[.int .i64 0, .int .i64 0])) := by kernel_rfl
theorem ze55_UAll : (Tryd.prog.info? 55).map (·.zero) = some (some (.agg #[.int .i64 0, .slice none 0 0])) := by kernel_rfl
set_option maxRecDepth 100000 in
set_option maxHeartbeats 4000000 in
theorem uall_any (A B LA : Option Addr) (c d lc : Nat) (l : List Ty) (fs : List Ft) (gs : List (List Nd)) (w : World) (hTab : TabIn w) (hT : TypesIn w A l) (hF : FeatsIn w B fs) (hL : GrsIn w LA gs) : Calls Tryd.prog 9 #[.agg #[.slice A l.length c, .slice B fs.length d], .slice LA gs.length lc] w fun e w' => (∃ A X ok f, e = .returned (.tuple #[.agg #[.slice A (List.length X) X.length], .bool ok, .agg #[.int .i64 (Prod.fst f), .int .i64 f.2]]) ∧ (∀ w2, FrSame w.heap.size w' w2 → NodesIn w2 A X) ∧ AllS l fs gs ok f X) ∧ Bel w w' := by
 have hLm := hL.1
 refine enter Tryd.func9 Tryd.ntmps9 rfl (Nat.le_of_ble_eq_true rfl) ?_
 have hB : Bel w w := Below.refl _ _
 refine c_seq (c_region ?_)
 refine wl_bx (v := .agg #[_, _]) (cs := #[_, _]) rfl rfl (fun b2 w1 hb2 hs hr => ?_)
 have lo2 := lT (Bel.size hB) hr
 replace hB := hB.tr0 hs
 clear hs
 clear hr
 refine wl_al (cs := #[.slice none 0 0]) ze28_UAll rfl (fun b4 w2 hb4 hs hr => ?_)
 have or_b2_b4 : b2 < b4 := lL hb2.lt hr
 have lo4 := lT (Bel.size hB) hr
 replace hB := hB.tr0 hs
 replace hb2 := hb2.tr0 hs
 clear hs
 clear hr
 refine waB rfl ?_
 refine wl_al (cs := #[.int .i64 0, .int .i64 0]) ze30_UAll rfl (fun b6 w3 hb6 hs hr => ?_)
 have or_b2_b6 : b2 < b6 := lL hb2.lt hr
 have or_b4_b6 : b4 < b6 := lL hb4.lt hr
 have lo6 := lT (Bel.size hB) hr
 replace hB := hB.tr0 hs
 replace hb2 := hb2.tr0 hs
 replace hb4 := hb4.tr0 hs
 clear hs
 clear hr
 refine x_nil (e_S (c_seq (c_seq (c_region (wl (r_ldS U25 rfl rfl hb2.range0 sz25_UAll) ?_)))))
 refine wl_cl fn24_UAll (validate_any A B c d l fs _ (hTab.mono hB) (hT.mono hB) (hF.mono hB)) rfl (fun e' w4 hr => ?_)
 obtain ⟨rfl, hs⟩ := hr
 replace hs := Same.of_bel hs
 replace hB := hB.tr0 hs
 replace hb2 := hb2.tr0 hs
 replace hb4 := hb4.tr0 hs
 replace hb6 := hb6.tr0 hs
 clear hs
 refine ⟨_, rfl, ?_⟩
 refine wl_al (cs := #[.int .i64 0, .int .i64 0]) ze30_UAll rfl (fun b7 w5 hb7 hs hr => ?_)
 have or_b2_b7 : b2 < b7 := lL hb2.lt hr
 have or_b4_b7 : b4 < b7 := lL hb4.lt hr
 have or_b6_b7 : b6 < b7 := lL hb6.lt hr
 have lo7 := lT (Bel.size hB) hr
 replace hB := hB.tr0 hs
 replace hb2 := hb2.tr0 hs
 replace hb4 := hb4.tr0 hs
 replace hb6 := hb6.tr0 hs
 clear hs
 clear hr
 refine wl_stW hb7 rfl rfl sz30_UAll rfl oneA (fun w6 hq hs => ?_)
 replace hB := hB.tr1 hs lo7
 replace hb2 := hb2.tr1 hs om
 replace hb4 := hb4.tr1 hs om
 replace hb6 := hb6.tr1 hs om
 clear hs
 replace hb7 := hq
 refine x_nil (e_S (c_seq (c_region (wl (r_fa U30 sz3_UAll dE rfl rfl rfl) (wl (r_ld1 (v := .int _ _) U3 rfl rfl (hb7.cell rfl)) ?_)))))
 refine wl (r_neq rfl rfl) (x_nil (e_S ?_))
 refine c_ifd rfl (fun c19 => ?_) (fun c19 => ?_)
 ·
  refine c_seq ?_
  refine c_monoKO 5 [20, 21, 5] [b4, b6] (fun ix v wv => match ix with | 0 => v = .agg #[.slice none 0 0] | 1 => v = .agg #[.int .i64 (hierFault l fs).1, .int .i64 (hierFault l fs).2] | 2 => Blk wv b4 28 #[.slice none 0 0] | 3 => v = .bool false | 4 => Blk wv b6 30 #[.int .i64 (hierFault l fs).1, .int .i64 (hierFault l fs).2] | _ => True) (fun wq => (∃ z, Blk wq b4 28 #[z]) ∧ ∃ z y, Blk wq b6 30 #[z, y]) kR kR ?_ ?_ ⟨⟨_, hb4⟩, _, _, hb6⟩ ?_ ?_
  ·
   intro ix v wv wv2 h hs
   match ix, h with
   | 0, h => exact h
   | 1, h => exact h
   | 2, h => exact (show Blk wv b4 28 #[.slice none 0 0] from h).tr0 hs
   | 3, h => exact h
   | 4, h => exact (show Blk wv b6 30 #[.int .i64 (hierFault l fs).1, .int .i64 (hierFault l fs).2] from h).tr0 hs
   | _ + 5, h => exact trivial
  ·
   intro wv wv2 h hs
   obtain ⟨⟨z1, hb4⟩, z2, z3, hb6⟩ := h
   replace hb4 := hb4.tr0 hs
   replace hb6 := hb6.tr0 hs
   exact ⟨⟨_, hb4⟩, _, _, hb6⟩
  ·
   intro ix o hix hoq gg wx hs hJ hd
   match ix, hix, hoq with
   | 0, _, hoq =>
    obtain rfl := sI hoq
    show OS _ _ _ _ _ _
    refine os_rv (r_bd (vs := #[]) (cs := #[.slice none 0 0]) (by simp) kR) ⟨Same.refl _ _, ?_, frsh_no⟩
    exact rfl
   | 1, _, hoq =>
    obtain rfl := sI hoq
    replace hb7 := hb7.tr hs (fun hx => by simp only [List.mem_cons, List.not_mem_nil, or_false] at hx; omega)
    show OS _ _ _ _ _ _
    refine os_rv (r_ldS U30 rfl rfl hb7.range0 sz30_UAll) ⟨Same.refl _ _, ?_, frsh_no⟩
    exact rfl
   | 2, _, hoq =>
    obtain rfl := sI hoq
    show OS _ _ _ _ _ _
    have d0 : gg 20 = .agg #[.slice none 0 0] := hd 0 _ (dep_of kR) rfl
    have e20 := d0
    refine os_know 20 (.agg #[.slice none 0 0]) e20 nu ?_
    obtain ⟨⟨z1, hb4⟩, z2, z3, hb6⟩ := hJ
    refine os_wl0 (fun ops Q K => ?_)
    refine wl_stW hb4 rfl rfl sz28_UAll rfl oneA (fun w2 hq hs2 => ?_)
    have K2 := K w2
    refine K2 ⟨hs2.weak (by simp), ?_, hq, fun kx v hne h => ?_⟩
    ·
     replace hb6 := hb6.tr hs2 (by simp; omega)
     replace hb4 := hq
     exact ⟨⟨_, hb4⟩, _, _, hb6⟩
    match kx, hne, h with
    | 0, _, h => exact h
    | 1, _, h => exact h
    | 2, hne, _ => exact absurd rfl hne
    | 3, _, h => exact h
    | 4, _, h => exact (show Blk wx b6 30 #[.int .i64 (hierFault l fs).1, .int .i64 (hierFault l fs).2] from h).tr hs2 (by simp; omega)
    | _ + 5, _, _ => exact trivial
   | 3, _, hoq =>
    obtain rfl := sI hoq
    show OS _ _ _ _ _ _
    refine os_rv (r_as (v := .bool _) rfl) ⟨Same.refl _ _, ?_, frsh_no⟩
    exact rfl
   | 4, _, hoq =>
    obtain rfl := sI hoq
    show OS _ _ _ _ _ _
    have d1 : gg 21 = .agg #[.int .i64 (hierFault l fs).1, .int .i64 (hierFault l fs).2] := hd 1 _ (dep_of kR) rfl
    have e21 := d1
    refine os_know 21 (.agg #[.int .i64 (hierFault l fs).1, .int .i64 (hierFault l fs).2]) e21 nu ?_
    obtain ⟨⟨z1, hb4⟩, z2, z3, hb6⟩ := hJ
    refine os_wl0 (fun ops Q K => ?_)
    refine wl_stW hb6 rfl rfl sz30_UAll rfl oneA (fun w2 hq hs2 => ?_)
    have K2 := K w2
    refine K2 ⟨hs2.weak (by simp), ?_, hq, fun kx v hne h => ?_⟩
    ·
     replace hb4 := hb4.tr hs2 (by simp; omega)
     replace hb6 := hq
     exact ⟨⟨_, hb4⟩, _, _, hb6⟩
    match kx, hne, h with
    | 0, _, h => exact h
    | 1, _, h => exact h
    | 2, _, h => exact (show Blk wx b4 28 #[.slice none 0 0] from h).tr hs2 (by simp; omega)
    | 3, _, h => exact h
    | 4, hne, _ => exact absurd rfl hne
    | _ + 5, _, _ => exact trivial
   | _ + 5, hix, _ => exact absurd hix om
  intro gg w7 hs hJ hR
  replace hB := hB.tr hs (fun q hx => by simp only [List.mem_cons, List.not_mem_nil, or_false] at hx; omega)
  replace hb2 := hb2.tr hs (fun hx => by simp only [List.mem_cons, List.not_mem_nil, or_false] at hx; omega)
  replace hb7 := hb7.tr hs (fun hx => by simp only [List.mem_cons, List.not_mem_nil, or_false] at hx; omega)
  have hq2 : Blk w7 b4 28 #[.slice none 0 0] := hR 2 _ rfl
  have hq4 : Blk w7 b6 30 #[.int .i64 (hierFault l fs).1, .int .i64 (hierFault l fs).2] := hR 4 _ rfl
  replace hb4 := hq2
  replace hb6 := hq4
  have d3 : gg 5 = .bool false := hR 3 _ rfl
  have e5 := d3
  refine wl_know 5 (.bool false) e5 nu (x_nil (e_S (c_ret (e_Sr (fin3 (.inl rfl) rfl (rr_cell U28 rfl rfl hb4.range0 sz28_UAll) rfl (rr_cell U30 rfl rfl hb6.range0 sz30_UAll) ?_)))))
  exact ⟨⟨none, [], false, hierFault l fs, rfl, fun w2 _ => nodes_nil w2 none, .inl ⟨by rw [allF_h c19]; exact c19, rfl, (allF_h c19).symm, rfl⟩⟩, hB⟩
 have h0 := Decidable.not_not.1 c19
 have hS := sound_of h0
 have hfo := fok_of h0
 have ht0 := types0_of h0
 refine c_skip (e_S (c_seq (c_seq (c_region (wmS rfl ?_)))))
 refine wl (r_len U35 rfl) (wl (r_gtr rfl rfl) (x_nil (e_S ?_)))
 refine c_ifd rfl (fun c24 => ?_) (fun c24 => ?_)
 ·
  refine c_seq (c_region (wl (r_bd (vs := #[]) (cs := #[.slice none 0 0]) (by simp) kR) (wl (r_bd2 (v0 := .int _ _) (v1 := .int _ _) (fun v0 v1 => #[v0, v1]) rfl rfl kR) ?_)))
  refine wl_stW hb4 rfl rfl sz28_UAll rfl oneA (fun w8 hq hs => ?_)
  replace hB := hB.tr1 hs lo4
  replace hb2 := hb2.tr1 hs om
  replace hb6 := hb6.tr1 hs om
  replace hb7 := hb7.tr1 hs om
  clear hs
  replace hb4 := hq
  refine waB rfl ?_
  refine wl_stW hb6 rfl rfl sz30_UAll rfl oneA (fun w9 hq hs => ?_)
  replace hB := hB.tr1 hs lo6
  replace hb2 := hb2.tr1 hs om
  replace hb4 := hb4.tr1 hs om
  replace hb7 := hb7.tr1 hs om
  clear hs
  replace hb6 := hq
  refine x_nil (e_S (c_ret (e_Sr (fin3 (.inl rfl) rfl (rr_cell U28 rfl rfl hb4.range0 sz28_UAll) rfl (rr_cell U30 rfl rfl hb6.range0 sz30_UAll) ?_))))
  exact ⟨⟨none, [], false, (2, -2), rfl, fun w2 _ => nodes_nil w2 none, .inl ⟨by rw [allF_many h0 om]; decide, rfl, (allF_many h0 om).symm, rfl⟩⟩, hB⟩
 have h300 : ¬ 300 < gs.length := by omega
 refine c_skip (e_S (c_seq (c_region (wl (r_fa U25 sz22_UAll dE rfl rfl rfl) (wl (r_ld1 (v := .slice _ _ _) U22 rfl rfl (hb2.cell rfl)) ?_)))))
 refine wl_cl fn25_UAll (tables_any _ _ _ _ (hT.mono hB) hS.vt hS.le) rfl (fun e' w10 hr => ?_)
 obtain ⟨bu, bd, rfl, hTI, hs⟩ := hr
 replace hs := Same.of_bel hs
 replace hB := hB.tr0 hs
 replace hb2 := hb2.tr0 hs
 replace hb4 := hb4.tr0 hs
 replace hb6 := hb6.tr0 hs
 replace hb7 := hb7.tr0 hs
 clear hs
 have hTabT := hTab.mono hB
 obtain ⟨wT, hwT⟩ : ∃ x, x = w10 := ⟨_, rfl⟩
 have hBT : Bel wT w10 := by rw [hwT]; exact Below.refl _ _
 rw [← hwT] at hTI hTabT
 refine ⟨_, rfl, ?_⟩
 refine wl (r_bd1 (v0 := .agg _) (fun v0 => #[(cellOf v0 0), (cellOf v0 1), .slice none 0 0, .slice none 0 0, .slice none 0 0]) rfl kR) ?_
 refine wl_bx (v := .agg #[_, _, _, _, _]) (cs := #[_, _, _, _, _]) rfl rfl (fun b31 w11 hb31 hs hr => ?_)
 have or_b2_b31 : b2 < b31 := lL hb2.lt hr
 have or_b4_b31 : b4 < b31 := lL hb4.lt hr
 have or_b6_b31 : b6 < b31 := lL hb6.lt hr
 have or_b7_b31 : b7 < b31 := lL hb7.lt hr
 have lo31 := lT (Bel.size hB) hr
 have lo_hBT_b31 := lT (Bel.size hBT) hr
 replace hB := hB.tr0 hs
 replace hb2 := hb2.tr0 hs
 replace hb4 := hb4.tr0 hs
 replace hb6 := hb6.tr0 hs
 replace hb7 := hb7.tr0 hs
 replace hBT := hBT.tr0 hs
 clear hs
 clear hr
 refine wl (r_as (v := .pointer (some _)) rfl) (x_nil (e_S (c_seq (c_seq ?_))))
 replace hb31 : Blk w11 b31 64 #[.slice (some ⟨bu, 0, none⟩) l.length l.length, .slice (some ⟨bd, 0, none⟩) l.length l.length, .slice none 0 0, .slice none 0 0, .slice none 0 0] := hb31
 refine c_region (wmS rfl (wl (r_len U35 rfl) (wmI rfl (x_nil (e_S ?_)))))
 refine c_block ?_
 refine c_loopS [5, 9, 10, 11, 34, 35, 36, 37, 38, 39, 40, 41, 42, 43, 44, 45, 46, 47, 48, 49, 50, 51, 52, 53, 54] (fun m g w' => ∃ k : Nat, k ≤ gs.length ∧ m = gs.length - k ∧ g 34 = .int .i64 k ∧ Bel w w' ∧ Bel wT w' ∧ (∃ z, Blk w' b4 28 #[z]) ∧ (∃ z y, Blk w' b6 30 #[z, y]) ∧ Blk w' b2 25 #[.slice A l.length c, .slice B fs.length d] ∧ Blk w' b31 64 #[.slice (some ⟨bu, 0, none⟩) l.length l.length, .slice (some ⟨bd, 0, none⟩) l.length l.length, .slice none 0 0, .slice none 0 0, .slice none 0 0] ∧ ∀ i (hi : i < gs.length), i < k → (withinF l fs gs[i]).1 = 0) (gs.length) ?_ (fun m g8 w12 hI => ?_)
 ·
  exact ⟨0, Nat.zero_le _, rfl, rfl, hB, hBT, ⟨_, hb4⟩, ⟨_, _, hb6⟩, hb2, hb31, fun i hi h => by omega⟩
 obtain ⟨k, hk, hm, h34, hB, hBT, ⟨z1, hb4⟩, ⟨z2, z3, hb6⟩, hb2, hb31, hz⟩ := hI
 refine c_know 34 (.int .i64 k) h34 nu (c_seq (c_region (wl (r_lss rfl rfl) (x_nil (e_S ?_)))))
 refine c_seq ?_
 refine c_ifd rfl (fun c35 => ?_) (fun c35 => ?_)
 ·
  have hlt : k < gs.length := by omega
  obtain ⟨gb, go, GA, gc, rfl, hgr, hgn⟩ := hL.at_ hB hlt
  refine c_skip (e_S (c_seq (c_block (c_seq (c_region ?_)))))
  refine wmI rfl (wl (r_ia (i := k) U35 sz28_UAll rfl rfl hlt rfl) (wl (r_ldS U28 rfl rfl hgr sz28_UAll) ?_))
  refine wl_al (cs := #[.slice none 0 0]) ze28_UAll rfl (fun b10 w13 hb10 hs hr => ?_)
  have or_b2_b10 : b2 < b10 := lL hb2.lt hr
  have or_b4_b10 : b4 < b10 := lL hb4.lt hr
  have or_b6_b10 : b6 < b10 := lL hb6.lt hr
  have or_b31_b10 : b31 < b10 := lL hb31.lt hr
  have lo10 := lT (Bel.size hB) hr
  have lo_hBT_b10 := lT (Bel.size hBT) hr
  replace hB := hB.tr0 hs
  replace hb2 := hb2.tr0 hs
  replace hb4 := hb4.tr0 hs
  replace hb6 := hb6.tr0 hs
  replace hBT := hBT.tr0 hs
  replace hb31 := hb31.tr0 hs
  clear hs
  clear hr
  refine waI rfl ?_
  refine wl_stW hb10 rfl rfl sz28_UAll rfl oneA (fun w14 hq hs => ?_)
  replace hB := hB.tr1 hs lo10
  replace hb2 := hb2.tr1 hs om
  replace hb4 := hb4.tr1 hs om
  replace hb6 := hb6.tr1 hs om
  replace hBT := hBT.tr1 hs lo_hBT_b10
  replace hb31 := hb31.tr1 hs om
  clear hs
  replace hb10 := hq
  refine x_nil (e_S (c_seq ?_))
  have hsz10 := Bel.size hB
  have hszT10 := Bel.size hBT
  have y2 := hb2.lt
  have y4 := hb4.lt
  have y6 := hb6.lt
  have y31 := hb31.lt
  have y10 := hb10.lt
  refine c_monoIO 8 [39, 40, 41, 42, 43, 44, 45, 11] (fun ix => ix) (fun ix v la ha wv => match ix with | 0 => v = .agg #[.slice A l.length c, .slice B fs.length d] | 1 => v = .pointer (some ⟨b31, 0, none⟩) | 2 => v = .pointer (some ⟨b31, 0, none⟩) | 3 => v = .pointer (some ⟨b31, 0, none⟩) | 4 => v = .agg #[.slice (some ⟨bu, 0, none⟩) l.length l.length, .slice (some ⟨bd, 0, none⟩) l.length l.length] | 5 => v = .agg #[.slice GA (gs[k]).length gc] | 6 => v = .agg #[.int .i64 (withinF l fs gs[k]).1, .int .i64 (withinF l fs gs[k]).2] | 7 => ∃ b, v = .pointer (some ⟨b, 0, none⟩) ∧ w14.heap.size ≤ b ∧ Blk wv b 30 #[.int .i64 0, .int .i64 0] ∧ la ≤ b ∧ b < ha | _ => True) kR kR kR ?_ ?_ ?_
  ·
   intro ix v la ha wv wv2 h hle hs
   match ix, h with
   | 0, h => exact h
   | 1, h => exact h
   | 2, h => exact h
   | 3, h => exact h
   | 4, h => exact h
   | 5, h => exact h
   | 6, h => exact h
   | 7, h =>
    obtain ⟨b11, e11, lo11, hb11, la11, ha11⟩ := (show ∃ b, v = .pointer (some ⟨b, 0, none⟩) ∧ w14.heap.size ≤ b ∧ Blk wv b 30 #[.int .i64 0, .int .i64 0] ∧ la ≤ b ∧ b < ha from h)
    exact ⟨b11, e11, lo11, hb11.tr0 hs, la11, ha11⟩
   | _ + 8, h => exact trivial
  ·
   intro ix o hix hoq gg wx lo hi hs hd hdis
   match ix, hix, hoq with
   | 0, _, hoq =>
    obtain rfl := sI hoq
    have hs0 := hs
    replace hb2 := hb2.tr0 hs
    clear hs
    refine ⟨fun _ => ?_, fun hw => Bool.noConfusion (show true = false from hw)⟩
    refine os_rv (r_ldS U25 rfl rfl hb2.range0 sz25_UAll) ⟨Same.refl _ _, ?_⟩
    exact rfl
   | 1, _, hoq =>
    obtain rfl := sI hoq
    have hs0 := hs
    replace hb31 := hb31.tr0 hs
    clear hs
    refine ⟨fun _ => ?_, fun hw => Bool.noConfusion (show true = false from hw)⟩
    refine os_rv (r_mv (v := .pointer (some _)) rfl) ⟨Same.refl _ _, ?_⟩
    exact rfl
   | 2, _, hoq =>
    obtain rfl := sI hoq
    have hs0 := hs
    replace hb31 := hb31.tr0 hs
    clear hs
    have d1 : gg 40 = .pointer (some ⟨b31, 0, none⟩) := (hd 1 (dep_of kR)).1
    have e40 := d1
    refine ⟨fun _ => ?_, fun hw => Bool.noConfusion (show true = false from hw)⟩
    refine os_know 40 (.pointer (some ⟨b31, 0, none⟩)) e40 nu ?_
    refine os_rv (r_nc rfl) ⟨Same.refl _ _, ?_⟩
    exact rfl
   | 3, _, hoq =>
    obtain rfl := sI hoq
    have hs0 := hs
    replace hb31 := hb31.tr0 hs
    clear hs
    have d2 : gg 41 = .pointer (some ⟨b31, 0, none⟩) := (hd 2 (dep_of kR)).1
    have e41 := d2
    refine ⟨fun _ => ?_, fun hw => Bool.noConfusion (show true = false from hw)⟩
    refine os_know 41 (.pointer (some ⟨b31, 0, none⟩)) e41 nu ?_
    refine os_rv (r_fa U64 sz60_UAll dE rfl rfl rfl) ⟨Same.refl _ _, ?_⟩
    exact rfl
   | 4, _, hoq =>
    obtain rfl := sI hoq
    have hs0 := hs
    replace hb31 := hb31.tr0 hs
    clear hs
    have d3 : gg 42 = .pointer (some ⟨b31, 0, none⟩) := (hd 3 (dep_of kR)).1
    have e42 := d3
    refine ⟨fun _ => ?_, fun hw => Bool.noConfusion (show true = false from hw)⟩
    refine os_know 42 (.pointer (some ⟨b31, 0, none⟩)) e42 nu ?_
    refine os_rv (r_ldS U60 rfl rfl (range_two hb31 rfl rfl) sz60_UAll) ⟨Same.refl _ _, ?_⟩
    exact rfl
   | 5, _, hoq =>
    obtain rfl := sI hoq
    have hs0 := hs
    replace hb10 := hb10.tr0 hs
    clear hs
    refine ⟨fun _ => ?_, fun hw => Bool.noConfusion (show true = false from hw)⟩
    refine os_rv (r_ldS U28 rfl rfl hb10.range0 sz28_UAll) ⟨Same.refl _ _, ?_⟩
    exact rfl
   | 6, _, hoq =>
    obtain rfl := sI hoq
    have hs0 := hs
    replace hB := hB.tr0 hs
    replace hBT := hBT.tr0 hs
    clear hs
    have d0 : gg 39 = .agg #[.slice A l.length c, .slice B fs.length d] := (hd 0 (dep_of kR)).1
    have e39 := d0
    have d4 : gg 43 = .agg #[.slice (some ⟨bu, 0, none⟩) l.length l.length, .slice (some ⟨bd, 0, none⟩) l.length l.length] := (hd 4 (dep_of kR)).1
    have e43 := d4
    have d5 : gg 44 = .agg #[.slice GA (gs[k]).length gc] := (hd 5 (dep_of kR)).1
    have e44 := d5
    refine ⟨fun _ => ?_, fun hw => Bool.noConfusion (show true = false from hw)⟩
    refine os_know 39 (.agg #[.slice A l.length c, .slice B fs.length d]) e39 nu (os_know 43 (.agg #[.slice (some ⟨bu, 0, none⟩) l.length l.length, .slice (some ⟨bd, 0, none⟩) l.length l.length]) e43 nu (os_know 44 (.agg #[.slice GA (gs[k]).length gc]) e44 nu ?_))
    refine os_cl fn26_UAll (within_any A B GA c d gc bu bd l fs gs[k] wx (hTI.mono hBT) hS.le (hF.mono hB) (hgn.mono hB) hfo) rfl (fun e' w2 hr => ?_)
    obtain ⟨rfl, hs⟩ := hr
    exact ⟨_, rfl, Same.of_bel hs, rfl⟩
   | 7, _, hoq =>
    obtain rfl := sI hoq
    have hs0 := hs
    clear hs
    refine ⟨fun _ => ?_, fun hw => Bool.noConfusion (show true = false from hw)⟩
    refine os_wl (fun ops Q K => ?_)
    refine wl_al (cs := #[.int .i64 0, .int .i64 0]) ze30_UAll rfl (fun b11 w15 hb11 hs hr => ?_)
    exact K _ _ ⟨hs, ⟨_, rfl, lT hs0.size hr, hb11, hr, hb11.lt⟩⟩
   | _ + 8, hix, _ => exact absurd hix om
  intro gg w16 lo hi hs hR hdis
  have hs0 := hs
  replace hB := hB.tr0 hs
  replace hb2 := hb2.tr0 hs
  replace hb4 := hb4.tr0 hs
  replace hb6 := hb6.tr0 hs
  replace hBT := hBT.tr0 hs
  replace hb31 := hb31.tr0 hs
  replace hb10 := hb10.tr0 hs
  clear hs
  have d6 : gg 45 = .agg #[.int .i64 (withinF l fs gs[k]).1, .int .i64 (withinF l fs gs[k]).2] := (hR 6 dE).1
  have e45 := d6
  have d7 : ∃ b, gg 11 = .pointer (some ⟨b, 0, none⟩) ∧ w14.heap.size ≤ b ∧ Blk w16 b 30 #[.int .i64 0, .int .i64 0] ∧ (lo 7) ≤ b ∧ b < (hi 7) := (hR 7 dE).1
  obtain ⟨b11, e11, lo11, hb11, la11, ha11⟩ := d7
  have or_b2_b11 : b2 < b11 := lL y2 lo11
  have or_b4_b11 : b4 < b11 := lL y4 lo11
  have or_b6_b11 : b6 < b11 := lL y6 lo11
  have or_b31_b11 : b31 < b11 := lL y31 lo11
  have or_b10_b11 : b10 < b11 := lL y10 lo11
  have lo_hBT_b11 := lT hszT10 lo11
  replace lo11 := lT hsz10 lo11
  refine wl_know 45 (.agg #[.int .i64 (withinF l fs gs[k]).1, .int .i64 (withinF l fs gs[k]).2]) e45 nu (wl_know 11 (.pointer (some ⟨b11, 0, none⟩)) e11 nu ?_)
  refine wl_stW hb11 rfl rfl sz30_UAll rfl oneA (fun w17 hq hs => ?_)
  replace hB := hB.tr1 hs lo11
  replace hb2 := hb2.tr1 hs om
  replace hb4 := hb4.tr1 hs om
  replace hb6 := hb6.tr1 hs om
  replace hBT := hBT.tr1 hs lo_hBT_b11
  replace hb31 := hb31.tr1 hs om
  replace hb10 := hb10.tr1 hs om
  clear hs
  replace hb11 := hq
  refine x_nil (e_S (c_seq (c_region (wl (r_fa U30 sz3_UAll dE rfl rfl rfl) (wl (r_ld1 (v := .int _ _) U3 rfl rfl (hb11.cell rfl)) ?_)))))
  refine wl (r_neq rfl rfl) (x_nil (e_S ?_))
  refine c_ifd rfl (fun c48 => ?_) (fun c48 => ?_)
  ·
   have hbad : ¬ (withinF l fs gs[k]).1 = 0 := c48
   refine c_seq ?_
   refine c_monoKO 8 [49, 50, 51, 52, 53, 5] [b4, b6] (fun ix v wv => match ix with | 0 => v = .agg #[.slice none 0 0] | 1 => v = .pointer (some ⟨b11, 0, none⟩) | 2 => v = .int .i64 (withinF l fs gs[k]).1 | 3 => v = .int .i64 k | 4 => v = .agg #[.int .i64 (withinF l fs gs[k]).1, .int .i64 k] | 5 => Blk wv b4 28 #[.slice none 0 0] | 6 => v = .bool false | 7 => Blk wv b6 30 #[.int .i64 (withinF l fs gs[k]).1, .int .i64 k] | _ => True) (fun wq => (∃ z, Blk wq b4 28 #[z]) ∧ ∃ z y, Blk wq b6 30 #[z, y]) kR kR ?_ ?_ ⟨⟨_, hb4⟩, _, _, hb6⟩ ?_ ?_
   ·
    intro ix v wv wv2 h hs
    match ix, h with
    | 0, h => exact h
    | 1, h => exact h
    | 2, h => exact h
    | 3, h => exact h
    | 4, h => exact h
    | 5, h => exact (show Blk wv b4 28 #[.slice none 0 0] from h).tr0 hs
    | 6, h => exact h
    | 7, h => exact (show Blk wv b6 30 #[.int .i64 (withinF l fs gs[k]).1, .int .i64 k] from h).tr0 hs
    | _ + 8, h => exact trivial
   ·
    intro wv wv2 h hs
    obtain ⟨⟨z1, hb4⟩, z2, z3, hb6⟩ := h
    replace hb4 := hb4.tr0 hs
    replace hb6 := hb6.tr0 hs
    exact ⟨⟨_, hb4⟩, _, _, hb6⟩
   ·
    intro ix o hix hoq gg wx hs hJ hd
    match ix, hix, hoq with
    | 0, _, hoq =>
     obtain rfl := sI hoq
     show OS _ _ _ _ _ _
     refine os_rv (r_bd (vs := #[]) (cs := #[.slice none 0 0]) (by simp) kR) ⟨Same.refl _ _, ?_, frsh_no⟩
     exact rfl
    | 1, _, hoq =>
     obtain rfl := sI hoq
     replace hb11 := hb11.tr hs (fun hx => by simp only [List.mem_cons, List.not_mem_nil, or_false] at hx; omega)
     show OS _ _ _ _ _ _
     refine os_rv (r_fa U30 sz3_UAll dE rfl rfl rfl) ⟨Same.refl _ _, ?_, frsh_no⟩
     exact rfl
    | 2, _, hoq =>
     obtain rfl := sI hoq
     replace hb11 := hb11.tr hs (fun hx => by simp only [List.mem_cons, List.not_mem_nil, or_false] at hx; omega)
     show OS _ _ _ _ _ _
     have d1 : gg 50 = .pointer (some ⟨b11, 0, none⟩) := hd 1 _ (dep_of kR) rfl
     have e50 := d1
     refine os_know 50 (.pointer (some ⟨b11, 0, none⟩)) e50 nu ?_
     refine os_rv (r_ld1 (v := .int _ _) U3 rfl rfl (hb11.cell rfl)) ⟨Same.refl _ _, ?_, frsh_no⟩
     exact rfl
    | 3, _, hoq =>
     obtain rfl := sI hoq
     show OS _ _ _ _ _ _
     refine os_rv (r_mv (v := .int _ _) rfl) ⟨Same.refl _ _, ?_, frsh_no⟩
     exact rfl
    | 4, _, hoq =>
     obtain rfl := sI hoq
     show OS _ _ _ _ _ _
     have d2 : gg 51 = .int .i64 (withinF l fs gs[k]).1 := hd 2 _ (dep_of kR) rfl
     have e51 := d2
     have d3 : gg 52 = .int .i64 k := hd 3 _ (dep_of kR) rfl
     have e52 := d3
     refine os_know 51 (.int .i64 (withinF l fs gs[k]).1) e51 nu (os_know 52 (.int .i64 k) e52 nu ?_)
     refine os_rv (r_bd2 (v0 := .int _ _) (v1 := .int _ _) (fun v0 v1 => #[v0, v1]) rfl rfl kR) ⟨Same.refl _ _, ?_, frsh_no⟩
     exact rfl
    | 5, _, hoq =>
     obtain rfl := sI hoq
     show OS _ _ _ _ _ _
     have d0 : gg 49 = .agg #[.slice none 0 0] := hd 0 _ (dep_of kR) rfl
     have e49 := d0
     refine os_know 49 (.agg #[.slice none 0 0]) e49 nu ?_
     obtain ⟨⟨z1, hb4⟩, z2, z3, hb6⟩ := hJ
     refine os_wl0 (fun ops Q K => ?_)
     refine wl_stW hb4 rfl rfl sz28_UAll rfl oneA (fun w2 hq hs2 => ?_)
     have K2 := K w2
     refine K2 ⟨hs2.weak (by simp), ?_, hq, fun kx v hne h => ?_⟩
     ·
      replace hb6 := hb6.tr hs2 (by simp; omega)
      replace hb4 := hq
      exact ⟨⟨_, hb4⟩, _, _, hb6⟩
     match kx, hne, h with
     | 0, _, h => exact h
     | 1, _, h => exact h
     | 2, _, h => exact h
     | 3, _, h => exact h
     | 4, _, h => exact h
     | 5, hne, _ => exact absurd rfl hne
     | 6, _, h => exact h
     | 7, _, h => exact (show Blk wx b6 30 #[.int .i64 (withinF l fs gs[k]).1, .int .i64 k] from h).tr hs2 (by simp; omega)
     | _ + 8, _, _ => exact trivial
    | 6, _, hoq =>
     obtain rfl := sI hoq
     show OS _ _ _ _ _ _
     refine os_rv (r_as (v := .bool _) rfl) ⟨Same.refl _ _, ?_, frsh_no⟩
     exact rfl
    | 7, _, hoq =>
     obtain rfl := sI hoq
     show OS _ _ _ _ _ _
     have d4 : gg 53 = .agg #[.int .i64 (withinF l fs gs[k]).1, .int .i64 k] := hd 4 _ (dep_of kR) rfl
     have e53 := d4
     refine os_know 53 (.agg #[.int .i64 (withinF l fs gs[k]).1, .int .i64 k]) e53 nu ?_
     obtain ⟨⟨z1, hb4⟩, z2, z3, hb6⟩ := hJ
     refine os_wl0 (fun ops Q K => ?_)
     refine wl_stW hb6 rfl rfl sz30_UAll rfl oneA (fun w2 hq hs2 => ?_)
     have K2 := K w2
     refine K2 ⟨hs2.weak (by simp), ?_, hq, fun kx v hne h => ?_⟩
     ·
      replace hb4 := hb4.tr hs2 (by simp; omega)
      replace hb6 := hq
      exact ⟨⟨_, hb4⟩, _, _, hb6⟩
     match kx, hne, h with
     | 0, _, h => exact h
     | 1, _, h => exact h
     | 2, _, h => exact h
     | 3, _, h => exact h
     | 4, _, h => exact h
     | 5, _, h => exact (show Blk wx b4 28 #[.slice none 0 0] from h).tr hs2 (by simp; omega)
     | 6, _, h => exact h
     | 7, hne, _ => exact absurd rfl hne
     | _ + 8, _, _ => exact trivial
    | _ + 8, hix, _ => exact absurd hix om
   intro gg w18 hs hJ hR
   replace hB := hB.tr hs (fun q hx => by simp only [List.mem_cons, List.not_mem_nil, or_false] at hx; omega)
   replace hb2 := hb2.tr hs (fun hx => by simp only [List.mem_cons, List.not_mem_nil, or_false] at hx; omega)
   replace hb31 := hb31.tr hs (fun hx => by simp only [List.mem_cons, List.not_mem_nil, or_false] at hx; omega)
   replace hb10 := hb10.tr hs (fun hx => by simp only [List.mem_cons, List.not_mem_nil, or_false] at hx; omega)
   replace hb11 := hb11.tr hs (fun hx => by simp only [List.mem_cons, List.not_mem_nil, or_false] at hx; omega)
   have hq5 : Blk w18 b4 28 #[.slice none 0 0] := hR 5 _ rfl
   have hq7 : Blk w18 b6 30 #[.int .i64 (withinF l fs gs[k]).1, .int .i64 k] := hR 7 _ rfl
   replace hb4 := hq5
   replace hb6 := hq7
   have d6 : gg 5 = .bool false := hR 6 _ rfl
   have e5 := d6
   refine wl_know 5 (.bool false) e5 nu (x_nil (e_S (c_ret (e_Br (e_Sr ?_)))))
   refine e_LSr (e_Br (e_Sr (fin3 (.inl rfl) rfl (rr_cell U28 rfl rfl hb4.range0 sz28_UAll) rfl (rr_cell U30 rfl rfl hb6.range0 sz30_UAll) ?_)))
   have hab := allF_bad h0 h300 hlt (fun i hi => hz i om hi) hbad
   exact ⟨⟨none, [], false, ((withinF l fs gs[k]).1, (k : Int)), rfl, fun w2 _ => nodes_nil w2 none, .inl ⟨by rw [hab]; exact hbad, rfl, hab.symm, rfl⟩⟩, hB⟩
  have hwz : (withinF l fs gs[k]).1 = 0 := Decidable.not_not.1 c48
  refine c_skip (e_B (e_S (c_region (wl (r_add rfl rfl rfl om) (wmI rfl ?_)))))
  refine x_nil (e_LS (gs.length - (k + 1)) om agA ?_)
  refine ⟨k + 1, by omega, rfl, rfl, hB, hBT, ⟨_, hb4⟩, ⟨_, _, hb6⟩, hb2, hb31, fun i hi h => ?_⟩
  by_cases e : i = k
  · subst e; exact hwz
  · exact hz i hi om
 have hke : k = gs.length := by omega
 subst hke
 have hzz : ∀ i (hi : i < gs.length), (withinF l fs gs[i]).1 = 0 := fun i hi => hz i hi hi
 have hgv : ∀ i (hi : i < gs.length), GV l fs gs[i] := fun i hi => gv_of (by rw [gf_in h0]; exact hzz i hi)
 refine c_exit (e_Sx (e_LSx (e_Bx (e_S (c_seq ?_)))))
 refine c_region (wl (r_mv (v := .pointer (some _)) rfl) (wl (r_bd (vs := #[]) (cs := #[.int .i64 0, .slice none 0 0]) (by simp) kR) ?_))
 refine wl_bs (cs := #[_, _]) [(0, .agg _)] rfl U26 sz55_UAll ze55_UAll dE dE kR rfl (fun b57 w19 hb57 hs hr => ?_)
 have or_b2_b57 : b2 < b57 := lL hb2.lt hr
 have or_b4_b57 : b4 < b57 := lL hb4.lt hr
 have or_b6_b57 : b6 < b57 := lL hb6.lt hr
 have or_b31_b57 : b31 < b57 := lL hb31.lt hr
 have lo57 := lT (Bel.size hB) hr
 have lo_hBT_b57 := lT (Bel.size hBT) hr
 replace hB := hB.tr0 hs
 replace hb2 := hb2.tr0 hs
 replace hb4 := hb4.tr0 hs
 replace hb6 := hb6.tr0 hs
 replace hBT := hBT.tr0 hs
 replace hb31 := hb31.tr0 hs
 clear hs
 clear hr
 refine wl (r_bd1 (v0 := .slice _ _ _) (fun v0 => #[v0]) rfl kR) ?_
 obtain ⟨ob, hob⟩ : ∃ z, z = (w19).heap.size := ⟨_, rfl⟩
 have hob1 : ob ≤ (w19).heap.size := Nat.le_of_eq hob
 have hz31 := hb31.lt
 have hz57 := hb57.lt
 have hz4 := hb4.lt
 have hz6 := hb6.lt
 have hwTs := Bel.size hBT
 rw [← hob] at hz31 hz57 hz4 hz6 hwTs
 have hwob : w.heap.size ≤ ob := by rw [hob]; exact Bel.size hB
 refine wl_cl fn27_UAll (padd_any (ob := ob) (n := 0) (nf := fs.length) (gr := topG) l.length _ (pool_nil hb31 rfl rfl rfl) hz31 hob1 om (fun w2 hc => nodes_of_blk (l := topG) (hb57.chg hc hz57 (by simp; omega)) (.cons (links_nil _ _) .nil) dE) (topG_gok hS.pos) (by have := few_of h0; omega)) rfl (fun e' w20 hr => ?_)
 obtain ⟨⟨PA, TA, LA', cp, ct, cl, V, rfl, hp⟩, hC, hs1⟩ := hr
 replace hB := hB.chg hC om (by simp; omega)
 replace hBT := hBT.chg hC om (by simp; omega)
 replace hb4 := hb4.chg hC om (by simp; omega)
 replace hb6 := hb6.chg hC om (by simp; omega)
 rw [Nat.zero_add] at hp
 have hus := US.first (topG_gy hS)
 have hgyA : ∀ i (hi : i < gs.length), GY l gs[i] := fun i hi => (hgv i hi).gx.toGY
 have h60A : ∀ i (hi : i < gs.length), (gs[i]).length ≤ 60 := fun i hi => (hgv i hi).gok.le
 have hppA : ∀ i (hi : i < gs.length), 0 < (gs[i]).length := fun i hi => (hgv i hi).gok.pos
 have hnf1 : fs.length ≤ 1000 := by have := few_of h0; omega
 refine ⟨_, rfl, ?_⟩
 refine x_nil (e_S (c_seq (c_seq (c_region (wmS rfl ?_)))))
 refine wl (r_len U35 rfl) (wmI rfl (x_nil (e_S (c_block ?_))))
 refine c_loopS [5, 13, 62, 63, 64, 65, 66, 67, 68, 69, 70, 71, 72, 73, 74] (fun m g w' => ∃ (k : Nat) (PA TA LA' : Option Addr) (cp ct cl : Nat) (P rep ρ : Nat → Nat) (T : Nat → Int) (V : Nat → Value) (L : Nat → List (Int × Int)), k ≤ gs.length ∧ m = gs.length - k ∧ g 62 = .int .i64 k ∧ Bel w w' ∧ Bel wT w' ∧ (∃ z, Blk w' b4 28 #[z]) ∧ (∃ z y, Blk w' b6 30 #[z, y]) ∧ PoolAt w' ob b31 (.slice (some ⟨bu, 0, none⟩) l.length l.length) (.slice (some ⟨bd, 0, none⟩) l.length l.length) (UA gs k).length PA TA LA' cp ct cl P T V L ∧ US l (UA gs k) (JA gs k) P rep ρ T L [] ∧ ob ≤ w'.heap.size) (gs.length) ?_ (fun m g16 w21 hI => ?_)
 ·
  exact ⟨0, PA, TA, LA', cp, ct, cl, _, _, _, _, V, _, Nat.zero_le _, rfl, rfl, hB, hBT, ⟨_, hb4⟩, ⟨_, _, hb6⟩, by rw [UA_zero]; exact hp, by rw [UA_zero]; exact hus, hs1⟩
 obtain ⟨k, PA, TA, LA', cp, ct, cl, P, rep, ρ, T, V, L, hk, hm, h62, hB, hBT, ⟨z1, hb4⟩, ⟨z2, z3, hb6⟩, hp, hus, hs1⟩ := hI
 obtain ⟨wP, hwP⟩ : ∃ x, x = w21 := ⟨_, rfl⟩
 have hFrP : FrSame b31 wP w21 := by rw [hwP]; exact FrSame.refl _ _
 rw [← hwP] at hp hs1
 have hul := UA_len h60A k hk
 have hUf := UA_feat (nf := fs.length) (fun i hi => gok_feat (hgv i hi).gok) k hk
 refine c_know 62 (.int .i64 k) h62 nu (c_seq (c_region (wl (r_lss rfl rfl) (x_nil (e_S ?_)))))
 refine c_seq ?_
 refine c_ifd rfl (fun c63 => ?_) (fun c63 => ?_)
 ·
  have hlt : k < gs.length := by omega
  obtain ⟨gb, go, GA, gc, rfl, hgr, hgn⟩ := hL.at_ hB hlt
  have hUl : (UA gs (k + 1)).length = (UA gs k).length + (gs[k]).length := by rw [UA_succ hlt, List.length_append, List.length_map]
  have h60k := h60A k hlt
  have hppk := hppA k hlt
  have hUf2 := UA_feat (nf := fs.length) (fun i hi => gok_feat (hgv i hi).gok) (k + 1) om
  refine c_skip (e_S (c_seq (c_block (c_seq (c_region ?_)))))
  refine wl (r_ia (i := k) U35 sz28_UAll rfl rfl hlt rfl) (wl (r_ldS U28 rfl rfl hgr sz28_UAll) ?_)
  refine wl_al (cs := #[.slice none 0 0]) ze28_UAll rfl (fun b13 w22 hb13 hs hr => ?_)
  have or_b4_b13 : b4 < b13 := lL hb4.lt hr
  have or_b6_b13 : b6 < b13 := lL hb6.lt hr
  have or_hFrP_b13 := (lT hFrP.size hr)
  have lo13 := lT (Bel.size hB) hr
  have lo_hBT_b13 := lT (Bel.size hBT) hr
  replace hB := hB.tr0 hs
  replace hb4 := hb4.tr0 hs
  replace hb6 := hb6.tr0 hs
  replace hBT := hBT.tr0 hs
  replace hFrP := hFrP.of hs (by simp)
  clear hs
  clear hr
  refine wl_stW hb13 rfl rfl sz28_UAll rfl oneA (fun w23 hq hs => ?_)
  replace hB := hB.tr1 hs lo13
  replace hb4 := hb4.tr1 hs om
  replace hb6 := hb6.tr1 hs om
  replace hBT := hBT.tr1 hs lo_hBT_b13
  replace hFrP := hFrP.of hs (fun g hg => by rw [List.mem_singleton.1 hg]; omega)
  clear hs
  replace hb13 := hq
  refine x_nil (e_S (c_seq (c_region (wl (r_mv (v := .pointer (some _)) rfl) (wl (r_mv (v := .pointer (some _)) rfl) ?_)))))
  refine wl (r_ldS U28 rfl rfl hb13.range0 sz28_UAll) ?_
  have hpW := hp.fr hFrP hz31
  have hs1W := lT hs1 hFrP.size
  refine wl_cl fn27_UAll (padd_any (n := (UA gs k).length) (nf := fs.length) l.length _ hpW hz31 hs1W om (fun w2 hc => hgn.chgB hB hc hwob lo31) (hgv k hlt).gok hnf1) rfl (fun e' w24 hr => ?_)
  obtain ⟨⟨PA2, TA2, LA2, cp2, ct2, cl2, V2, rfl, hp2⟩, hC, hs2⟩ := hr
  replace hB := hB.chg hC om (by simp; omega)
  replace hBT := hBT.chg hC om (by simp; omega)
  replace hb4 := hb4.chg hC om (by simp; omega)
  replace hb6 := hb6.chg hC om (by simp; omega)
  have hus2 := (hus.add (hgyA k hlt) (JA_lt h60A hppA k hk)).push (a := 0) (b := (UA gs k).length) (by rw [← UA_succ hlt]; omega) (by rw [← UA_succ hlt]; omega)
  rw [← UA_succ hlt, ← JA_succ] at hus2
  rw [← hUl] at hp2
  refine ⟨_, rfl, ?_⟩
  refine wl_cl fn28_UAll (pjoin_any (U := UA gs (k + 1)) (J := JA gs (k + 1)) (nf := fs.length) (x := 0) (y := (UA gs k).length) wT _ hTabT hTI hS hBT hwTs hp2 hz31 hs2 om hnf1 hUf2 om hus2) rfl (fun e' w25 hr => ?_)
  obtain ⟨⟨b, rfl, hyes, hno⟩, hC, hs3⟩ := hr
  replace hB := hB.chg hC om (by simp; omega)
  replace hBT := hBT.chg hC om (by simp; omega)
  replace hb4 := hb4.chg hC om (by simp; omega)
  replace hb6 := hb6.chg hC om (by simp; omega)
  refine ⟨_, rfl, ?_⟩
  refine wl (r_not rfl) (x_nil (e_S ?_))
  refine c_if rfl (fun c71 => ?_) (fun c71 => ?_)
  ·
   have hbf : b = false := by simpa using c71
   refine c_seq (c_region (wl (r_bd (vs := #[]) (cs := #[.slice none 0 0]) (by simp) kR) (wl (r_bd (vs := #[]) (cs := #[.int .i64 0, .int .i64 0]) (by simp) kR) ?_)))
   refine wl_stW hb4 rfl rfl sz28_UAll rfl oneA (fun w26 hq hs => ?_)
   replace hB := hB.tr1 hs lo4
   replace hb6 := hb6.tr1 hs om
   clear hs
   replace hb4 := hq
   refine waB rfl ?_
   refine wl_stW hb6 rfl rfl sz30_UAll rfl oneA (fun w27 hq hs => ?_)
   replace hB := hB.tr1 hs lo6
   replace hb4 := hb4.tr1 hs om
   clear hs
   replace hb6 := hq
   refine x_nil (e_S (c_ret (e_Br (e_Sr (e_LSr ?_)))))
   refine e_Br (e_Sr (fin3 (.inl rfl) rfl (rr_cell U28 rfl rfl hb4.range0 sz28_UAll) rfl (rr_cell U30 rfl rfl hb6.range0 sz30_UAll) ?_))
   exact ⟨⟨none, [], false, (0, 0), rfl, fun w2 _ => nodes_nil w2 none, .inr (.inl ⟨allF_zero h0 h300 hzz, rfl, rfl, rfl, all_bound hS ht0 hgyA om (hno hbf)⟩)⟩, hB⟩
  have hbt : b = true := by simpa using c71
  obtain ⟨P3, rep3, ρ3, T3, V3, L3, hp3, hus3⟩ := hyes hbt
  refine c_skip (e_B (e_S (c_region (wl (r_add rfl rfl rfl om) (wmI rfl ?_)))))
  refine x_nil (e_LS (gs.length - (k + 1)) om agA ?_)
  exact ⟨k + 1, PA2, TA2, LA2, cp2, ct2, cl2, P3, rep3, ρ3, T3, V3, L3, by omega, rfl, rfl, hB, hBT, ⟨_, hb4⟩, ⟨_, _, hb6⟩, hp3, hus3, hs3⟩
 have hke : k = gs.length := by omega
 subst hke
 refine c_exit (e_Sx (e_LSx (e_Bx (e_S (c_seq ?_)))))
 refine c_region (wl (r_mv (v := .pointer (some _)) rfl) ?_)
 have hpW := hp.fr hFrP hz31
 have hs1W := lT hs1 hFrP.size
 have hszv := Bel.size hB
 have hz4b := hb4.lt
 have hz6b := hb6.lt
 refine wl_cl fn29_UAll (pgraph_any (r := 0) (nf := fs.length) _ hpW hus.uf hz31 hs1W om hnf1 (pool_gok2 hus om om hUf) om (fun i hi hr z hz => by
    obtain ⟨u, hu, _, hm⟩ := hus.val i hi hr z hz
    exact hus.ur u hu z hm) (fun i hi hr => by
    have := srt_len (nf := fs.length) (lo := 0) (hus.srt i hi) (fun z hz => by
      obtain ⟨u, hu, _, hm⟩ := hus.val i hi hr z hz
      exact hUf u hu z hm) (Int.le_refl _) om
    omega)) rfl (fun e' w28 hr => ?_)
 obtain ⟨⟨o, AF, hD, rfl, hN⟩, hC, hs4⟩ := hr
 replace hB := hB.chg hC om (by simp; omega)
 replace hBT := hBT.chg hC om (by simp; omega)
 replace hb4 := hb4.chg hC om (by simp; omega)
 replace hb6 := hb6.chg hC om (by simp; omega)
 have hFr : FrSame (w21).heap.size w28 w28 := FrSame.refl _ _
 obtain ⟨Z0, hZ0⟩ : ∃ z, z = (w21).heap.size := ⟨_, rfl⟩
 rw [← hZ0] at hN hFr hz4b hz6b hszv
 obtain ⟨wZ, hwZ⟩ : ∃ z, z = w28 := ⟨_, rfl⟩
 replace hFr : FrSame Z0 wZ w28 := by rw [hwZ]; exact FrSame.refl _ _
 rw [← hwZ] at hN
 refine ⟨_, rfl, ?_⟩
 refine wl_al (cs := #[.slice none 0 0]) ze28_UAll rfl (fun b14 w29 hb14 hs hr => ?_)
 have or_b4_b14 : b4 < b14 := lL hb4.lt hr
 have or_b6_b14 : b6 < b14 := lL hb6.lt hr
 have or_hFr_b14 := (lT hFr.size hr)
 have lo14 := lT (Bel.size hB) hr
 have lo_hBT_b14 := lT (Bel.size hBT) hr
 replace hB := hB.tr0 hs
 replace hb4 := hb4.tr0 hs
 replace hb6 := hb6.tr0 hs
 replace hBT := hBT.tr0 hs
 replace hFr := hFr.of hs (by simp)
 clear hs
 clear hr
 refine wl_stW hb14 rfl rfl sz28_UAll rfl oneA (fun w30 hq hs => ?_)
 replace hB := hB.tr1 hs lo14
 replace hb4 := hb4.tr1 hs om
 replace hb6 := hb6.tr1 hs om
 replace hBT := hBT.tr1 hs lo_hBT_b14
 replace hFr := hFr.of hs (fun g hg => by rw [List.mem_singleton.1 hg]; omega)
 clear hs
 replace hb14 := hq
 refine x_nil (e_S (c_seq (c_region (wl (r_ldS U28 rfl rfl hb14.range0 sz28_UAll) ?_))))
 refine wl_cl fn30_UAll (sized_any _ _ _ true _) rfl (fun e' w31 hr => ?_)
 obtain ⟨⟨A2, n2, c2_, ok2, x2, y2, rfl, hsz⟩, hs⟩ := hr
 replace hs := Same.of_bel hs
 replace hB := hB.tr0 hs
 replace hb4 := hb4.tr0 hs
 replace hb6 := hb6.tr0 hs
 replace hFr := hFr.of hs (by simp)
 replace hb14 := hb14.tr0 hs
 clear hs
 refine ⟨_, rfl, ?_⟩
 refine wl (r_ex (v := _) rfl rfl) (wl (r_ex (v := _) rfl rfl) (wl (r_ex (v := _) rfl rfl) ?_))
 refine wl_stW hb4 rfl rfl sz28_UAll rfl oneA (fun w32 hq hs => ?_)
 replace hB := hB.tr1 hs lo4
 replace hb6 := hb6.tr1 hs om
 replace hFr := hFr.of hs (fun g hg => by rw [List.mem_singleton.1 hg]; omega)
 replace hb14 := hb14.tr1 hs om
 clear hs
 replace hb4 := hq
 refine waB rfl ?_
 refine wl_stW hb6 rfl rfl sz30_UAll rfl oneA (fun w33 hq hs => ?_)
 replace hB := hB.tr1 hs lo6
 replace hb4 := hb4.tr1 hs om
 replace hFr := hFr.of hs (fun g hg => by rw [List.mem_singleton.1 hg]; omega)
 replace hb14 := hb14.tr1 hs om
 clear hs
 replace hb6 := hq
 refine x_nil (e_S (c_ret (fin3 (.inl rfl) rfl (rr_cell U28 rfl rfl hb4.range0 sz28_UAll) rfl (rr_cell U30 rfl rfl hb6.range0 sz30_UAll) ?_)))
 have hcl : (canG (poolG (UA gs gs.length).length rep T L) o).length = o.length := canG_len _ _
 rw [← hcl] at hsz
 obtain ⟨X2, hn2, hc2, hN2, hU2⟩ := al_fin h0 hS ht0 (allF_zero h0 h300 hzz) hgv ⟨P, rep, ρ, T, L, o, hus, hD, rfl⟩ hsz (fun w2 hf => hN w2 (hFr.then hf hszv))
 exact ⟨⟨A2, X2, ok2, (x2, y2), ret_un hn2 (hn2.trans (hc2.symm)) rfl, hN2, hU2⟩, hB⟩
end Go.Proofs.YteoncmfiiknfbaaDoor
