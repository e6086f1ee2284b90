/- What these functions of the program compute, at every world: glosswright/glosswrightlaw3.HierarchyCompleteIsLeast. -/
import Derived.Test.YtahdbbgkgokkhaaDoorCLa
import Derived.Test.YtahdbbgkgokkhaaDoorCle
import Derived.Test.YtahdbbgkgokkhaaDoorCMt
import Derived.Test.YtahdbbgkgokkhaaDoorCBi
import Derived.Test.YtahdbbgkgokkhaaDoorGraph
namespace Go.Proofs.YtahdbbgkgokkhaaDoor
open Go.RowKit

def ksI (ks : List Nat) : List Int := ks.map (fun n : Nat => (n : Int))
theorem ksI_len (ks : List Nat) : (ksI ks).length = ks.length := by simp [ksI]
theorem ksI_get {ks : List Nat} {i : Nat} (h : i < ks.length) : (ksI ks)[i]'(by rw [ksI_len]; exact h) = ((ks[i] : Nat) : Int) := by simp [ksI]
theorem ksI_snoc (ks : List Nat) (i : Nat) : ksI (ks ++ [i]) = ksI ks ++ [(i : Int)] := by simp [ksI]
theorem comps_P {l T : List Ty} {f : Fl} (h : CompS l T f) (ht : (typesFault l).1 = 0) : f = (17, -1) ∨ ∃ ds D : List Nat, compS l = some (base l ++ ds) ∧ D.Perm ds ∧ AddD l D ∧ OutP (outL l D) ∧ f = (0, 0) ∧ T = outT (outL l D) := by
  have hb := types_len ht
  rcases h with ⟨h1, _⟩ | ⟨_, _, h2, _⟩ | ⟨_, ds, D, h1, h2, h3, h4, h5⟩
  · exact absurd ht h1
  · exact .inl h2
  · have hA := addD_of (vt_of ht) (by omega) h1 h2 h3
    exact .inr ⟨ds, D, h1, h2, hA, hA.outP ht h1 h2, h4, h5⟩
theorem comps_fix {O : List (Nat × ByteArray)} {T : List Ty} {f : Fl} (hO : OutP O) (h : CompS (outT O) T f) : f = (0, 0) ∧ T = outT O := by
  rcases h with ⟨h1, _⟩ | ⟨_, h1, _⟩ | ⟨_, ds, D, h1, h2, _, h4, h5⟩
  · exact absurd hO.types h1
  · rw [hO.comp] at h1; cases h1
  · rw [hO.comp] at h1
    have e := List.append_cancel_left (Option.some.inj h1)
    rw [← e] at h2
    rw [List.perm_nil.1 h2, hO.fix] at h5
    exact ⟨h4, h5⟩
theorem same_blk {w w' : World} {b : Nat} {t : TypeId} {cs : Array Value} (h : Blk w b t cs) (k : Blk w' b t cs) (hs : Same [b] w w') : Same [] w w' :=
  ⟨hs.os, hs.tape, hs.output, hs.size, fun i hi _ => by
    by_cases e : i = b
    · subst e; exact k.trans h.symm
    · exact hs.blk i hi (fun hm => e (List.mem_singleton.1 hm))⟩
def mkP (l : List Ty) (i j : Nat) : Bool := (meet l i j).2.1 && decide ((meet l i j).1 ≠ i) && decide ((meet l i j).1 ≠ j)
theorem mkP_of {l : List Ty} {i j m : Nat} (h : meet l i j = (m, true, false)) (h1 : m ≠ i) (h2 : m ≠ j) : mkP l i j = true := by
  unfold mkP
  rw [h]
  simp [h1, h2]
theorem mp0 {l : List Ty} {i j : Nat} (h : ¬ (meet l i j).2.1 = true) : Value.bool false = .bool (decide (mkP l i j = true)) := by simp [mkP, h]
theorem mp1 {l : List Ty} {i j : Nat} (h : ¬ ((meet l i j).1 : Int) ≠ (i : Int)) : Value.bool false = .bool (decide (mkP l i j = true)) := by
  have : (meet l i j).1 = i := by omega
  simp [mkP, this]
theorem mp2 {l : List Ty} {i j : Nat} (h0 : (meet l i j).2.1 = true) (h : ((meet l i j).1 : Int) ≠ (i : Int)) : Value.bool (decide (((meet l i j).1 : Int) ≠ (j : Int))) = .bool (decide (mkP l i j = true)) := by
  have h1 : (meet l i j).1 ≠ i := by omega
  refine congrArg Value.bool (decide_eq_decide.2 ?_)
  simp only [mkP, h0, h1, Bool.true_and, ne_eq, decide_not, Bool.not_eq_true', decide_eq_false_iff_not, decide_false, Bool.not_false]
  omega
theorem outT_nm {O : List (Nat × ByteArray)} {T : List Ty} {i : Nat} (h : T = outT O) (hi : i < T.length) (hj : i < O.length) : (T[i]).name = (O[i]).2 := by
  subst h
  rw [outT_get]
  simp [tyO, List.getD, hj]
theorem mk_set {mk : Nat → Bool} {j x : Nat} (h : mk x = true) : setB mk j x = true := by
  unfold setB
  by_cases e : x = j
  · rw [if_pos e]
  · rw [if_neg e]; exact h
theorem mk_self {mk : Nat → Bool} {j : Nat} : setB mk j j = true := by unfold setB; rw [if_pos rfl]
theorem MkI.skip {l : List Ty} {O : List (Nat × ByteArray)} {ks : List Nat} {i j : Nat} {mk : Nat → Bool} (h : MkI l O ks i j mk) (hn : ∀ m, meet (outT O) i j = (m, true, false) → m ≠ i → m ≠ j → mk m = true) : MkI l O ks i (j + 1) mk :=
  ⟨h.old, fun i' j' m h1 h2 h3 h4 h5 h6 => by
    by_cases e : i' = i ∧ j' = j
    · obtain ⟨rfl, rfl⟩ := e; exact hn m h4 h5 h6
    · exact h.new i' j' m h1 h2 (by omega) h4 h5 h6⟩
theorem MkI.set {l : List Ty} {O : List (Nat × ByteArray)} {ks : List Nat} {i j m : Nat} {mk : Nat → Bool} (h : MkI l O ks i j mk) : MkI l O ks i j (setB mk m) :=
  ⟨fun q hq => mk_set (h.old q hq), fun i' j' m h1 h2 h3 h4 h5 h6 => mk_set (h.new i' j' m h1 h2 h3 h4 h5 h6)⟩
theorem MkI.row {l : List Ty} {O : List (Nat × ByteArray)} {ks : List Nat} {i : Nat} {mk : Nat → Bool} (h : MkI l O ks i i mk) : MkI l O ks (i + 1) 0 mk :=
  ⟨h.old, fun i' j' m h1 h2 h3 => h.new i' j' m h1 h2 (by omega)⟩

theorem fn10 : callable Tryd.prog 10 = true := by kernel_rfl
theorem fn11 : callable Tryd.prog 11 = true := by kernel_rfl
theorem fn8 : callable Tryd.prog 8 = true := by kernel_rfl
set_option maxRecDepth 100000 in
set_option maxHeartbeats 8000000 in
theorem law34_any (A : Option Addr) (c : Nat) (l : List Ty) (w : World) (hTab : TabIn w) (hlc : l.length ≤ c) (hT : TypesIn w A l) : Calls Tryd.prog 3 #[.slice A l.length c] w fun e w' => e = .returned (.bool true) ∧ Bel w w' := by
 refine enter Tryd.func3 Tryd.ntmps3 rfl (Nat.le_of_ble_eq_true rfl) ?_
 have hB : Bel w w := Below.refl _ _
 refine c_seq ?_
 refine c_region ?_
 refine wl (r_as (v := .bool _) rfl) ?_
 refine x_nil ?_
 refine e_S ?_
 refine c_seq ?_
 refine c_seq ?_
 refine c_region ?_
 refine wl_cl fn6 (unmetT_any _) rfl (fun e' w1 hr => ?_)
 obtain ⟨⟨A21, c21, rfl, hT21⟩, hs⟩ := hr
 replace hs := Same.of_bel hs
 replace hB := hB.tr0 hs
 clear hs
 refine ⟨_, rfl, ?_⟩
 refine wl_cl fn5 (unm_any hT21 (hTab.mono hB)) rfl (fun e' w2 hr => ?_)
 obtain ⟨⟨B22, c22, rfl, hT22⟩, hs⟩ := hr
 replace hs := Same.of_bel hs
 replace hB := hB.tr0 hs
 clear hs
 refine ⟨_, rfl, ?_⟩
 refine wl (r_mv (v := .tuple _) rfl) ?_
 refine wl (r_ex (v := .slice _ _ _) rfl rfl) ?_
 refine wl (r_ex (v := .agg _) rfl rfl) ?_
 refine wl_al (cs := #[.int .i64 0, .int .i64 0]) ze24 rfl (fun b4 w3 hb4 hs hr => ?_)
 have lo4 := Nat.le_trans (Bel.size hB) hr
 replace hB := hB.tr0 hs
 clear hs
 clear hr
 refine wl (r_as (v := .slice _ _ _) rfl) ?_
 refine wl_stW hb4 rfl rfl sz24 rfl (by repeat (first | rfl | refine one_cons (by first | rfl | assumption) ?_)) (fun w4 hq hs => ?_)
 replace hB := hB.tr1 hs lo4
 clear hs
 replace hb4 := hq
 refine x_nil ?_
 refine e_S ?_
 refine c_seq ?_
 refine c_region ?_
 refine wl (r_mv (v := .slice _ _ _) rfl) ?_
 refine wl (r_len Tryd.underlying22 rfl) ?_
 refine wl (r_neq rfl rfl) ?_
 refine x_nil ?_
 refine e_S ?_
 refine c_ifd rfl (fun c27 => ?_) (fun c27 => ?_)
 ·
  exact absurd rfl c27
 ·
  refine c_skip ?_
  refine e_S ?_
  refine c_seq ?_
  refine c_seq ?_
  refine c_region ?_
  refine wl (r_mv (v := .slice _ _ _) rfl) ?_
  refine wl_cl fn7_CLa (typesFault_any _ _ _ _ hlc (hT.mono hB)) rfl (fun e' w5 hr => ?_)
  obtain ⟨rfl, hs⟩ := hr
  replace hs := Same.of_bel hs
  replace hB := hB.tr0 hs
  replace hb4 := hb4.tr0 hs
  clear hs
  refine ⟨_, rfl, ?_⟩
  refine wl (r_fd1 (v := .int _ _) Tryd.underlying24 rfl Tryd.underlying3 rfl rfl rfl) ?_
  refine wl (r_neq rfl rfl) ?_
  refine x_nil ?_
  refine e_S ?_
  refine c_ifd rfl (fun c31 => ?_) (fun c31 => ?_)
  ·
   refine c_seq ?_
   refine c_region ?_
   refine wl (r_as (v := .bool _) rfl) ?_
   refine x_nil ?_
   refine e_S ?_
   refine c_ret ?_
   refine e_Sr ?_
   refine fin1 (.inl rfl) rfl rfl ?_
   exact ⟨rfl, hB⟩
  ·
   have ht0 : (typesFault l).1 = 0 := Decidable.not_not.1 c31
   have hv := vt_of ht0
   have htl := types_len ht0
   have h60 : l.length ≤ 60 := by omega
   refine c_skip ?_
   refine e_S ?_
   refine c_seq ?_
   refine c_region ?_
   refine wl (r_mv (v := .slice _ _ _) rfl) ?_
   refine wl_cl fn5 (comps_any A c l _ (hT.mono hB) (hTab.mono hB)) rfl (fun e' w6 hr => ?_)
   obtain ⟨⟨TX, fX, BX, cX, rfl, hTX, hSX, hcX⟩, hs⟩ := hr
   replace hs := Same.of_bel hs
   replace hB := hB.tr0 hs
   clear hs
   obtain ⟨wX, hwX⟩ : ∃ z, z = w6 := ⟨_, rfl⟩
   have hBX : Bel wX w6 := by rw [hwX]; exact Below.refl _ _
   have hBwX : Bel w wX := by rw [hwX]; exact hB
   rw [← hwX] at hTX
   clear hwX
   refine ⟨_, rfl, ?_⟩
   refine wl (r_mv (v := .tuple _) rfl) ?_
   refine wl (r_ex (v := .slice _ _ _) rfl rfl) ?_
   refine wl (r_ex (v := .agg _) rfl rfl) ?_
   refine wl_al (cs := #[.int .i64 0, .int .i64 0]) ze24 rfl (fun b6 w7 hb6 hs hr => ?_)
   have lo6 := Nat.le_trans (Bel.size hB) hr
   have lo_hBX_b6 := Nat.le_trans (Bel.size hBX) hr
   replace hB := hB.tr0 hs
   replace hBX := hBX.tr0 hs
   clear hs
   clear hr
   refine wl (r_as (v := .slice _ _ _) rfl) ?_
   refine wl_stW hb6 rfl rfl sz24 rfl (by repeat (first | rfl | refine one_cons (by first | rfl | assumption) ?_)) (fun w8 hq hs => ?_)
   replace hB := hB.tr1 hs lo6
   replace hBX := hBX.tr1 hs lo_hBX_b6
   clear hs
   replace hb6 := hq
   refine x_nil ?_
   refine e_S ?_
   refine c_seq ?_
   refine c_seq ?_
   refine c_region ?_
   refine wl (r_fa Tryd.underlying24 sz3_Tables (by decide) rfl rfl rfl) ?_
   refine wl (r_ld1 (v := .int _ _) Tryd.underlying3 rfl rfl (hb6.cell rfl)) ?_
   refine wl (r_neq rfl rfl) ?_
   refine x_nil ?_
   refine e_S ?_
   refine c_ifd rfl (fun c39 => ?_) (fun c39 => ?_)
   ·
    obtain rfl : fX = (17, -1) := (comps_P hSX ht0).resolve_right (fun ⟨_, _, _, _, _, _, h, _⟩ => c39 (by rw [h]))
    refine c_seq ?_
    refine c_region ?_
    refine wl (r_fa Tryd.underlying24 sz3_Tables (by decide) rfl rfl rfl) ?_
    refine wl (r_ld1 (v := .int _ _) Tryd.underlying3 rfl rfl (hb6.cell rfl)) ?_
    refine wl (r_eql rfl rfl) ?_
    refine wl (r_as (v := .bool true) (congrArg Value.bool (decide_eq_true rfl))) ?_
    refine x_nil ?_
    refine e_S ?_
    refine c_ret ?_
    refine e_Sr ?_
    refine fin1 (.inl rfl) rfl rfl ?_
    exact ⟨rfl, hB⟩
   ·
    obtain ⟨ds, D, hC, hperm, hA, hO, hfX, hTXe⟩ := (comps_P hSX ht0).resolve_left (fun h => c39 (by rw [h]; decide))
    subst hfX
    clear hSX
    have hn : TX.length = (outL l D).length := by rw [hTXe, outT_len]
    have hO60 := hO.le
    refine c_skip ?_
    refine e_S ?_
    refine c_seq ?_
    refine c_seq ?_
    refine c_region ?_
    refine wl (r_mv (v := .slice _ _ _) rfl) ?_
    refine wl (r_bd1 (v0 := .slice _ _ _) (fun v0 => #[v0, .slice none 0 0]) rfl (by kernel_rfl)) ?_
    refine wl_cl fn8 (hierFault_any BX none cX 0 TX [] _ hcX (Nat.le_refl _) (hTX.mono hBX) ⟨Nat.zero_le _, fun h => absurd rfl h⟩) rfl (fun e' w9 hr => ?_)
    obtain ⟨rfl, hs⟩ := hr
    replace hs := Same.of_bel hs
    replace hB := hB.tr0 hs
    replace hBX := hBX.tr0 hs
    replace hb6 := hb6.tr0 hs
    clear hs
    refine ⟨_, rfl, ?_⟩
    refine wl (r_fd1 (v := .int _ _) Tryd.underlying24 rfl Tryd.underlying3 rfl rfl rfl) ?_
    refine wl (r_neq rfl rfl) ?_
    refine x_nil ?_
    refine e_S ?_
    refine c_ifd rfl (fun c47 => ?_) (fun c47 => ?_)
    ·
     exact absurd (by rw [hTXe]; exact hO.hier) c47
    ·
     refine c_skip ?_
     refine e_S ?_
     refine c_seq ?_
     obtain ⟨wF, hwF⟩ : ∃ z, z = w9 := ⟨_, rfl⟩
     have hBF : Bel wF w9 := by rw [hwF]; exact Below.refl _ _
     have hbF : Blk wF b6 24 #[.int .i64 0, .int .i64 0] := by rw [hwF]; exact hb6
     have hTF : TypesIn wF A l := by rw [hwF]; exact hT.mono hB
     have hXF : TypesIn wF BX TX := by rw [hwF]; exact hTX.mono hBX
     have hTabF : TabIn wF := by rw [hwF]; exact hTab.mono hB
     have sF : w.heap.size ≤ wF.heap.size := by rw [hwF]; exact Bel.size hB
     have hBwF : Bel w wF := by rw [hwF]; exact hB
     have hBXF : Bel wX wF := by rw [hwF]; exact hBX
     clear hwF hBX hb6
     obtain ⟨ab, ao, hAe, hab, har⟩ := hTF.2 (by rintro rfl; simp at htl)
     obtain ⟨xb, xo, hXe, hxb, hxr⟩ := hXF.2 (by rintro rfl; have := hO.pos; rw [← hn] at this; simp at this)
     subst hAe hXe
     refine c_region ?_
     refine wl (r_as (v := .slice _ _ _) rfl) ?_
     refine x_nil ?_
     refine e_S ?_
     refine c_seq ?_
     refine c_seq ?_
     refine c_region ?_
     refine wl (r_mv (v := .slice _ _ _) rfl) ?_
     refine wl (r_len Tryd.underlying22 rfl) ?_
     refine wl (r_mv (v := .int _ _) rfl) ?_
     refine x_nil ?_
     refine e_S ?_
     refine c_block ?_
     refine c_loopS [7, 8, 50, 51, 52, 53, 54, 55, 56, 57, 58, 59, 60, 61, 62, 63, 64, 65, 66, 67, 68, 69, 70, 71, 72, 73, 74, 75, 76] (fun m g w' => ∃ (i : Nat) (A7 : Option Addr) (c7 : Nat) (ks : List Nat), i ≤ TX.length ∧ m = TX.length - i ∧ g 50 = .int .i64 i ∧ g 7 = .slice A7 (ksI ks).length c7 ∧ AtI l (outL l D) i ks ∧ Bel w w' ∧ Bel wF w' ∧ Own w' wF.heap.size 3 1 A7 (ksI ks).length c7 ((ksI ks).map (Value.int .i64))) (TX.length) ?_ (fun m g13 w10 hI => ?_)
     ·
      exact ⟨0, none, 0, [], Nat.zero_le _, rfl, rfl, rfl, hA.at0 ht0, hB, hBF, Own.nil _ _ _ _⟩
     obtain ⟨i, A7, c7, ks, hi, hm, h50, h7, hAt, hB, hBF, ho7⟩ := hI
     refine c_know 50 (.int .i64 i) h50 (by simp [undef]) ?_
     refine c_know 7 (.slice A7 (ksI ks).length c7) h7 (by simp [undef]) ?_
     refine c_seq ?_
     refine c_region ?_
     refine wl (r_lss rfl rfl) ?_
     refine x_nil ?_
     refine e_S ?_
     refine c_seq ?_
     refine c_ifd rfl (fun c51 => ?_) (fun c51 => ?_)
     ·
      have hlt : i < TX.length := by omega
      have hkl := ksI_len ks
      have hkle := hAt.le
      obtain ⟨Aq, cq, htxr, _⟩ := hxr i hlt
      have hnmc : ∀ h : ks.length < l.length, wF.cell? ⟨ab, ao + (ksI ks).length * 2 + 0, none⟩ = some (.string (nmL l ks.length)) := fun h => by
        obtain ⟨Aq, cq, htlr, _⟩ := har ks.length h
        rw [hkl, nmL_get h]
        exact htlr 0 _ rfl
      refine c_skip ?_
      refine e_S ?_
      refine c_seq ?_
      refine c_block ?_
      refine c_seq ?_
      refine c_region ?_
      refine wl (r_mv (v := .int _ _) rfl) ?_
      refine wl (r_as (v := .int _ _) rfl) ?_
      refine x_nil ?_
      refine e_S ?_
      refine c_seq ?_
      refine c_cutS [53, 54, 55, 56, 57, 58, 59, 60, 61, 62, 63, 64, 65, 66, 67, 68, 69, 70, 71] (fun g w' => g 71 = .bool ((decide (((ksI ks).length : Int) < (l.length : Int))) && (decide ((TX[i]'hlt).name = (nmL l ks.length)))) ∧ Same [] w10 w') ?_ (fun g15 w11 hI => ?_)
      ·
       refine c_held [] [0, 1, 2, 3, 4, 5, 6, 7, 8, 9, 10, 11, 12, 13, 14, 15, 16, 17, 18] rfl (fun w12 hs => ?_)
       have hs0 := hs
       replace hB := hB.tr0 hs
       replace hBF := hBF.tr0 hs
       replace ho7 := ho7.tr0 hs
       clear hs
       refine hl rfl (fun _ => r_mv (v := .slice _ _ _) rfl) ?_
       refine hl rfl (fun _ => r_len Tryd.underlying33 rfl) ?_
       refine hl rfl (fun _ => r_mv (v := .slice _ _ _) rfl) ?_
       refine hl rfl (fun _ => r_len Tryd.underlying22 rfl) ?_
       refine hl rfl (fun _ => r_lss rfl rfl) ?_
       refine hl rfl (fun _ => r_mv (v := .bool _) rfl) ?_
       refine h_casesd 58 rfl (fun g58 => ?_) (fun g58 => ?_)
       ·
        refine hg 58 rfl rfl rfl (fun _ _ => r_mv (v := .slice _ _ _) rfl) ?_
        refine hg 58 rfl rfl rfl (fun _ _ => r_mv (v := .int _ _) rfl) ?_
        refine hg 58 rfl rfl rfl (fun _ _ => r_ia (i := i) Tryd.underlying22 sz35_Tables rfl rfl (by omega) rfl) ?_
        refine hg 58 rfl rfl rfl (fun _ _ => r_fa Tryd.underlying35 sz9 (by decide) rfl rfl rfl) ?_
        refine hg1 (v := .string _) 58 rfl rfl rfl Tryd.underlying9 rfl rfl (hBF.cell hxb (htxr 0 _ rfl)) ?_
        refine hg 58 rfl rfl rfl (fun _ _ => r_mv (v := .slice _ _ _) rfl) ?_
        refine hg 58 rfl rfl rfl (fun _ _ => r_mv (v := .slice _ _ _) rfl) ?_
        refine hg 58 rfl rfl rfl (fun _ _ => r_len Tryd.underlying33 rfl) ?_
        refine hg 58 rfl rfl rfl (fun _ _ => r_ia (i := (ksI ks).length) Tryd.underlying22 sz35_Tables rfl rfl (by omega) rfl) ?_
        refine hg 58 rfl rfl rfl (fun _ _ => r_fa Tryd.underlying35 sz9 (by decide) rfl rfl rfl) ?_
        refine hg1 (v := .string _) 58 rfl rfl rfl Tryd.underlying9 rfl rfl (hBF.cell hab (hnmc (by have := g58; omega))) ?_
        refine hg 58 rfl rfl rfl (fun _ _ => r_eqlS rfl rfl) ?_
        refine hl rfl (fun _ => r_pt (v := .bool _) rfl rfl) ?_
        refine h_end ?_
        refine e_R ⟨(by repeat (first | exact ag_refl | exact ag_ovr' | refine ag_upd rfl ?_ | refine ag_sub rfl ?_ | refine ag_kn (by assumption) ?_)), ?_, hs0⟩
        show Value.bool _ = Value.bool _
        exact congrArg Value.bool (by simp [g58])
       ·
        refine hsk 58 rfl rfl rfl ?_
        refine hsk 58 rfl rfl rfl ?_
        refine hsk 58 rfl rfl rfl ?_
        refine hsk 58 rfl rfl rfl ?_
        refine hsk 58 rfl rfl rfl ?_
        refine hsk 58 rfl rfl rfl ?_
        refine hsk 58 rfl rfl rfl ?_
        refine hsk 58 rfl rfl rfl ?_
        refine hsk 58 rfl rfl rfl ?_
        refine hsk 58 rfl rfl rfl ?_
        refine hsk 58 rfl rfl rfl ?_
        refine hsk 58 rfl rfl rfl ?_
        refine hl rfl (fun _ => r_pf (v := .bool _) rfl rfl) ?_
        refine h_end ?_
        refine e_R ⟨(by repeat (first | exact ag_refl | exact ag_ovr' | refine ag_upd rfl ?_ | refine ag_sub rfl ?_ | refine ag_kn (by assumption) ?_)), ?_, hs0⟩
        show Value.bool _ = Value.bool _
        exact congrArg Value.bool (by simp [g58])
      obtain ⟨h71, hs⟩ := hI
      replace hB := hB.tr0 hs
      replace hBF := hBF.tr0 hs
      replace ho7 := ho7.tr0 hs
      clear hs
      refine e_know 71 (.bool ((decide (((ksI ks).length : Int) < (l.length : Int))) && (decide ((TX[i]'hlt).name = (nmL l ks.length))))) h71 (by simp [undef]) ?_
      refine e_S ?_
      refine c_if rfl (fun c71 => ?_) (fun c71 => ?_)
      ·
       simp only [Bool.and_eq_true, decide_eq_true_eq] at c71
       have hyes := hAt.yes hO (by omega) (by omega) ((outT_nm hTXe hlt (by omega)).symm.trans c71.2)
       refine c_region ?_
       refine wl (r_mv (v := .slice _ _ _) rfl) ?_
       refine wl (r_mv (v := .int _ _) rfl) ?_
       refine wl_bs (cs := #[_]) [(0, .int _ _)] rfl Tryd.underlying33 sz3_Tables ze3 (by decide) (by decide) (by kernel_rfl) rfl (fun b74 w13 hb74 hs hr => ?_)
       have or_ho7_b74 := fun g hg => Nat.lt_of_lt_of_le (ho7.lt g hg).2 hr
       have lo74 := Nat.le_trans (Bel.size hB) hr
       have lo_hBF_b74 := Nat.le_trans (Bel.size hBF) hr
       replace hB := hB.tr0 hs
       replace hBF := hBF.tr0 hs
       replace ho7 := ho7.tr0 hs
       clear hs
       clear hr
       refine wl_app Tryd.underlying33 in3_CMt rfl (by decide) ho7 hb74 rfl rfl rfl (by repeat (first | rfl | refine one_cons (by first | rfl | assumption) ?_)) (by decide) (by omega) (by omega) (Bel.size hBF) (fun g75 cap75 w14 ho75 hs hg => ?_)
       replace hB := hB.tr hs (fun g hg => Nat.le_trans (by omega) (ho7.lt g hg).1)
       replace hBF := hBF.tr hs (fun g hg => Nat.le_trans (by omega) (ho7.lt g hg).1)
       refine wl (r_as (v := .slice _ _ _) rfl) ?_
       refine x_nil ?_
       refine e_B ?_
       refine e_S ?_
       refine c_region ?_
       refine wl (r_add rfl rfl rfl (by omega)) ?_
       refine wl (r_mv (v := .int _ _) rfl) ?_
       refine x_nil ?_
       refine e_LS (TX.length - (i + 1)) (by omega) (by repeat (first | exact ag_refl | exact ag_ovr' | refine ag_upd rfl ?_ | refine ag_sub rfl ?_ | refine ag_kn (by assumption) ?_)) ?_
       first
         | exact ⟨i + 1, _, _, ks ++ [i], by omega, rfl, rfl, (by rw [ksI_snoc]; exact sl_snoc _ _ _ _), hyes, hB, hBF, (by rw [ksI_snoc]; exact own_snoc ho75)⟩
         | exact ⟨i + 1, A7, c7, ks, by omega, rfl, rfl, rfl, hno, hB, hBF, ho7⟩
      ·
       have hno := hAt.no (by omega) (fun h => by
         rw [show (decide (((ksI ks).length : Int) < (l.length : Int))) = true from decide_eq_true (by omega), Bool.true_and] at c71
         exact absurd ((outT_nm hTXe hlt (by omega)).trans h.2) (of_decide_eq_false c71))
       refine c_skip ?_
       refine e_B ?_
       refine e_S ?_
       refine c_region ?_
       refine wl (r_add rfl rfl rfl (by omega)) ?_
       refine wl (r_mv (v := .int _ _) rfl) ?_
       refine x_nil ?_
       refine e_LS (TX.length - (i + 1)) (by omega) (by repeat (first | exact ag_refl | exact ag_ovr' | refine ag_upd rfl ?_ | refine ag_sub rfl ?_ | refine ag_kn (by assumption) ?_)) ?_
       first
         | exact ⟨i + 1, _, _, ks ++ [i], by omega, rfl, rfl, (by rw [ksI_snoc]; exact sl_snoc _ _ _ _), hyes, hB, hBF, (by rw [ksI_snoc]; exact own_snoc ho75)⟩
         | exact ⟨i + 1, A7, c7, ks, by omega, rfl, rfl, rfl, hno, hB, hBF, ho7⟩
     ·
      have hie : i = TX.length := by omega
      rw [hie, hn] at hAt
      have hfull := hAt.full
      have hkl := ksI_len ks
      refine c_exit ?_
      refine e_Sx ?_
      refine e_LSx ?_
      refine e_Bx ?_
      refine e_S ?_
      refine c_seq ?_
      refine c_seq ?_
      refine c_region ?_
      refine wl (r_mv (v := .slice _ _ _) rfl) ?_
      refine wl (r_len Tryd.underlying33 rfl) ?_
      refine wl (r_mv (v := .slice _ _ _) rfl) ?_
      refine wl (r_len Tryd.underlying22 rfl) ?_
      refine wl (r_neq rfl rfl) ?_
      refine x_nil ?_
      refine e_S ?_
      refine c_ifd rfl (fun c81 => ?_) (fun c81 => ?_)
      ·
       exact absurd (by omega) c81
      ·
       refine c_skip ?_
       refine e_S ?_
       refine c_seq ?_
       refine c_seq ?_
       obtain ⟨wA, hwA⟩ : ∃ z, z = w10 := ⟨_, rfl⟩
       have hBA : Bel wA w10 := by rw [hwA]; exact Below.refl _ _
       have hbA : Blk wA b6 24 #[.int .i64 0, .int .i64 0] := by rw [hwA]; exact hbF.bel hBF
       have hTA : TypesIn wA (some ⟨ab, ao, none⟩) l := by rw [hwA]; exact hTF.mono hBF
       have hXA : TypesIn wA (some ⟨xb, xo, none⟩) TX := by rw [hwA]; exact hXF.mono hBF
       have hTabA : TabIn wA := by rw [hwA]; exact hTabF.mono hBF
       have hIA : IntsIn wA A7 (ksI ks) := by rw [hwA]; exact own_ints ho7
       have sA : w.heap.size ≤ wA.heap.size := by rw [hwA]; exact Bel.size hB
       have hBwA : Bel w wA := by rw [hwA]; exact hB
       have hBXA : Bel wX wA := by rw [hwA]; exact hBXF.tr0 (Same.of_bel hBF)
       have hvX : VT TX := by rw [hTXe]; exact vt_out _
       have hX60 : TX.length ≤ 60 := by omega
       have hkn : ∀ q (h : q < ks.length), ks[q] < TX.length := fun q h => by rw [hn]; exact (hAt.at' q h).1
       clear hwA hBF
       refine c_region ?_
       refine wl (r_mv (v := .slice _ _ _) rfl) ?_
       refine wl (r_len Tryd.underlying22 rfl) ?_
       refine wl (r_mv (v := .int _ _) rfl) ?_
       refine x_nil ?_
       refine e_S ?_
       refine c_block ?_
       refine c_loopS [2, 9, 10, 84, 85, 86, 87, 88, 89, 90, 91, 92, 93, 94, 95, 96, 97, 98, 99, 100, 101, 102, 103, 104, 105, 106, 107, 108] (fun m g w' => ∃ i : Nat, i ≤ l.length ∧ m = l.length - i ∧ g 84 = .int .i64 i ∧ Bel w w' ∧ Bel wA w') (l.length) ?_ (fun m g21 w15 hI => ?_)
       ·
        exact ⟨0, Nat.zero_le _, rfl, rfl, hB, hBA⟩
       obtain ⟨i, hi, hm, h84, hB, hBA⟩ := hI
       refine c_know 84 (.int .i64 i) h84 (by simp [undef]) ?_
       refine c_seq ?_
       refine c_region ?_
       refine wl (r_lss rfl rfl) ?_
       refine x_nil ?_
       refine e_S ?_
       refine c_seq ?_
       refine c_ifd rfl (fun c85 => ?_) (fun c85 => ?_)
       ·
        have hil : i < l.length := by omega
        have hik : i < ks.length := by omega
        refine c_skip ?_
        refine e_S ?_
        refine c_seq ?_
        refine c_block ?_
        refine c_seq ?_
        refine c_region ?_
        refine wl (r_mv (v := .int _ _) rfl) ?_
        refine wl (r_as (v := .int _ _) rfl) ?_
        refine x_nil ?_
        refine e_S ?_
        refine c_seq ?_
        refine c_region ?_
        refine wl (r_mv (v := .slice _ _ _) rfl) ?_
        refine wl (r_len Tryd.underlying22 rfl) ?_
        refine wl (r_mv (v := .int _ _) rfl) ?_
        refine x_nil ?_
        refine e_S ?_
        refine c_block ?_
        refine c_loopS [2, 10, 89, 90, 91, 92, 93, 94, 95, 96, 97, 98, 99, 100, 101, 102, 103, 104, 105, 106, 107] (fun m g w' => ∃ j : Nat, j ≤ l.length ∧ m = l.length - j ∧ g 89 = .int .i64 j ∧ Bel w w' ∧ Bel wA w') (l.length) ?_ (fun m g24 w16 hI => ?_)
        ·
         exact ⟨0, Nat.zero_le _, rfl, rfl, hB, hBA⟩
        obtain ⟨j, hj, hm2, h89, hB, hBA⟩ := hI
        refine c_know 89 (.int .i64 j) h89 (by simp [undef]) ?_
        refine c_seq ?_
        refine c_region ?_
        refine wl (r_lss rfl rfl) ?_
        refine x_nil ?_
        refine e_S ?_
        refine c_seq ?_
        refine c_ifd rfl (fun c90 => ?_) (fun c90 => ?_)
        ·
         have hjl : j < l.length := by omega
         have hjk : j < ks.length := by omega
         obtain ⟨kb, ko, hke, hkb, hkc⟩ := hIA.at_ (show i < (ksI ks).length by omega)
         obtain ⟨kb2, ko2, hke2, _, hkd⟩ := hIA.at_ (show j < (ksI ks).length by omega)
         rw [hke] at hke2
         cases hke2
         rw [ksI_get hik] at hkc
         rw [ksI_get hjk] at hkd
         have hsub : sub l i j = sub TX (ks[i]) (ks[j]) := by rw [hTXe]; exact hAt.sub hv hO hik hjk
         have hki := hkn i hik
         have hkj := hkn j hjk
         subst hke
         refine c_skip ?_
         refine e_S ?_
         refine c_seq ?_
         refine c_block ?_
         refine c_seq ?_
         refine c_region ?_
         refine wl (r_mv (v := .int _ _) rfl) ?_
         refine wl (r_as (v := .int _ _) rfl) ?_
         refine x_nil ?_
         refine e_S ?_
         refine c_seq ?_
         refine c_held [] [0, 1, 2, 4, 5, 6, 7, 8, 9, 10, 11, 12, 3, 13, 14] rfl (fun w17 hs => ?_)
         replace hB := hB.tr0 hs
         replace hBA := hBA.tr0 hs
         clear hs
         refine hl rfl (fun _ => r_mv (v := .slice _ _ _) rfl) ?_
         refine hl rfl (fun _ => r_mv (v := .int _ _) rfl) ?_
         refine hl rfl (fun _ => r_mv (v := .int _ _) rfl) ?_
         refine hl rfl (fun _ => r_mv (v := .slice _ _ _) rfl) ?_
         refine hl rfl (fun _ => r_mv (v := .slice _ _ _) rfl) ?_
         refine hl rfl (fun _ => r_mv (v := .int _ _) rfl) ?_
         refine hl rfl (fun _ => r_ia (i := i) Tryd.underlying33 sz3_Tables rfl rfl (by omega) rfl) ?_
         refine hl1 (v := .int _ _) rfl Tryd.underlying3 rfl rfl (hBA.cell hkb hkc) ?_
         refine hl rfl (fun _ => r_mv (v := .slice _ _ _) rfl) ?_
         refine hl rfl (fun _ => r_mv (v := .int _ _) rfl) ?_
         refine hl rfl (fun _ => r_ia (i := j) Tryd.underlying33 sz3_Tables rfl rfl (by omega) rfl) ?_
         refine hl1 (v := .int _ _) rfl Tryd.underlying3 rfl rfl (hBA.cell hkb hkd) ?_
         refine hcl (fun v wv => v = .bool (sub l i j)) rfl fn9_CRc (sub_any _ _ _ _ _ w17 (hTA.mono hBA) hv h60 hil hjl) rfl (fun e' w2 hr => ?_) (fun v95 w18 hs d95 => ?_)
         ·
          obtain ⟨rfl, hs⟩ := hr
          exact ⟨_, rfl, Same.of_bel hs, rfl⟩
         ·
          replace hB := hB.tr0 hs
          replace hBA := hBA.tr0 hs
          clear hs
          have e95 := d95
          subst e95
          refine hcl (fun v wv => v = .bool (sub TX (ks[i]) (ks[j]))) rfl fn9_CRc (sub_any _ _ _ _ _ w18 (hXA.mono hBA) hvX hX60 hki hkj) rfl (fun e' w2 hr => ?_) (fun v105 w19 hs d105 => ?_)
          ·
           obtain ⟨rfl, hs⟩ := hr
           exact ⟨_, rfl, Same.of_bel hs, rfl⟩
          ·
           replace hB := hB.tr0 hs
           replace hBA := hBA.tr0 hs
           clear hs
           have e105 := d105
           subst e105
           refine hl rfl (fun _ => r_neqB Tryd.underlying4 rfl rfl) ?_
           refine h_end ?_
           refine e_S ?_
           refine c_if rfl (fun c106 => ?_) (fun c106 => ?_)
           ·
            exact absurd c106 (by rw [hsub]; simp)
           ·
            refine c_skip ?_
            refine e_B ?_
            refine e_S ?_
            refine c_region ?_
            refine wl (r_add rfl rfl rfl (by omega)) ?_
            refine wl (r_mv (v := .int _ _) rfl) ?_
            refine x_nil ?_
            refine e_LS (l.length - (j + 1)) (by omega) (by repeat (first | exact ag_refl | exact ag_ovr' | refine ag_upd rfl ?_ | refine ag_sub rfl ?_ | refine ag_kn (by assumption) ?_)) ?_
            exact ⟨j + 1, by omega, rfl, rfl, hB, hBA⟩
        ·
         refine c_exit ?_
         refine e_Sx ?_
         refine e_LSx ?_
         refine e_Bx ?_
         refine e_B ?_
         refine e_S ?_
         refine c_region ?_
         refine wl (r_add rfl rfl rfl (by omega)) ?_
         refine wl (r_mv (v := .int _ _) rfl) ?_
         refine x_nil ?_
         refine e_LS (l.length - (i + 1)) (by omega) (by repeat (first | exact ag_refl | exact ag_ovr' | refine ag_upd rfl ?_ | refine ag_sub rfl ?_ | refine ag_kn (by assumption) ?_)) ?_
         exact ⟨i + 1, by omega, rfl, rfl, hB, hBA⟩
       ·
        refine c_exit ?_
        refine e_Sx ?_
        refine e_LSx ?_
        refine e_Bx ?_
        refine e_S ?_
        refine c_seq ?_
        refine c_region ?_
        refine wl (r_mv (v := .slice _ _ _) rfl) ?_
        refine wl (r_len Tryd.underlying22 rfl) ?_
        refine wl_mkR (m := TX.length) Tryd.underlying37 in4 rfl rfl rfl (by omega) (by omega) (fun b111 w20 hb111 hs hr => ?_)
        have lo111 := Nat.le_trans (Bel.size hB) hr
        have lo_hBA_b111 := Nat.le_trans (Bel.size hBA) hr
        replace hB := hB.tr0 hs
        replace hBA := hBA.tr0 hs
        clear hs
        clear hr
        refine wl (r_as (v := .slice _ _ _) rfl) ?_
        refine x_nil ?_
        refine e_S ?_
        refine c_seq ?_
        refine c_seq ?_
        refine c_region ?_
        refine wl (r_mv (v := .slice _ _ _) rfl) ?_
        refine wl (r_len Tryd.underlying33 rfl) ?_
        refine wl (r_mv (v := .int _ _) rfl) ?_
        refine x_nil ?_
        refine e_S ?_
        refine c_block ?_
        refine c_loopS [13, 114, 115, 116, 117, 118, 119, 120, 121] (fun m g w' => ∃ (q : Nat) (mk : Nat → Bool), q ≤ ks.length ∧ m = ks.length - q ∧ g 114 = .int .i64 q ∧ (∀ p (h : p < ks.length), p < q → mk ks[p] = true) ∧ Bel w w' ∧ Bel wA w' ∧ Blk w' b111 4 (row TX.length (fun x => .bool (mk x)))) (ks.length) ?_ (fun m g32 w21 hI => ?_)
        ·
         exact ⟨0, fun _ => false, Nat.zero_le _, rfl, rfl, (fun p _ h => by omega), hB, hBA, hb111⟩
        obtain ⟨q, mk, hq, hmq, h114, hold, hB, hBA, hb111⟩ := hI
        refine c_know 114 (.int .i64 q) h114 (by simp [undef]) ?_
        refine c_seq ?_
        refine c_region ?_
        refine wl (r_lss rfl rfl) ?_
        refine x_nil ?_
        refine e_S ?_
        refine c_seq ?_
        refine c_ifd rfl (fun c115 => ?_) (fun c115 => ?_)
        ·
         have hqk : q < ks.length := by omega
         obtain ⟨kb, ko, hke, hkb, hkc⟩ := hIA.at_ (show q < (ksI ks).length by omega)
         rw [ksI_get hqk] at hkc
         have hkq := hkn q hqk
         subst hke
         refine c_skip ?_
         refine e_S ?_
         refine c_seq ?_
         refine c_block ?_
         refine c_seq ?_
         refine c_region ?_
         refine wl (r_ia (i := q) Tryd.underlying33 sz3_Tables rfl rfl (by omega) rfl) ?_
         refine wl (r_ld1 (v := .int _ _) Tryd.underlying3 rfl rfl (hBA.cell hkb hkc)) ?_
         refine wl (r_as (v := .int _ _) rfl) ?_
         refine x_nil ?_
         refine e_S ?_
         refine c_region ?_
         refine wl (r_mv (v := .slice _ _ _) rfl) ?_
         refine wl (r_mv (v := .int _ _) rfl) ?_
         refine wl (r_ia (i := ks[q]) Tryd.underlying37 sz4 rfl rfl hkq rfl) ?_
         refine wl_st1 (v := .bool _) hb111 rfl rfl sz4 (by rw [row_size]; omega) rfl row_set (fun w22 hq hs => ?_)
         replace hB := hB.tr1 hs lo111
         replace hBA := hBA.tr1 hs lo_hBA_b111
         clear hs
         replace hb111 := hq
         rw [row_setB] at hb111
         refine x_nil ?_
         refine e_B ?_
         refine e_S ?_
         refine c_region ?_
         refine wl (r_add rfl rfl rfl (by omega)) ?_
         refine wl (r_mv (v := .int _ _) rfl) ?_
         refine x_nil ?_
         refine e_LS (ks.length - (q + 1)) (by omega) (by repeat (first | exact ag_refl | exact ag_ovr' | refine ag_upd rfl ?_ | refine ag_sub rfl ?_ | refine ag_kn (by assumption) ?_)) ?_
         exact ⟨q + 1, setB mk ks[q], by omega, rfl, rfl, (fun p hp h => by
           by_cases e : p = q
           · subst e; exact mk_self
           · exact mk_set (hold p hp (by omega))), hB, hBA, hb111⟩
        ·
         have hqe : q = ks.length := by omega
         subst hqe
         refine c_exit ?_
         refine e_Sx ?_
         refine e_LSx ?_
         refine e_Bx ?_
         refine e_S ?_
         refine c_seq ?_
         refine c_seq ?_
         refine c_region ?_
         refine wl (r_mv (v := .slice _ _ _) rfl) ?_
         refine wl (r_len Tryd.underlying22 rfl) ?_
         refine wl (r_mv (v := .int _ _) rfl) ?_
         refine x_nil ?_
         refine e_S ?_
         refine c_block ?_
         refine c_loopS [14, 15, 16, 17, 18, 124, 125, 126, 127, 128, 129, 130, 131, 132, 133, 134, 135, 136, 137, 138, 139, 140, 141, 142, 143, 144, 145, 146, 147, 148, 149, 150, 151, 152, 153, 154] (fun m g w' => ∃ (i : Nat) (mk : Nat → Bool), i ≤ TX.length ∧ m = TX.length - i ∧ g 124 = .int .i64 i ∧ MkI l (outL l D) ks i 0 mk ∧ Bel w w' ∧ Bel wA w' ∧ Blk w' b111 4 (row TX.length (fun x => .bool (mk x)))) (TX.length) ?_ (fun m g37 w23 hI => ?_)
         ·
          exact ⟨0, mk, Nat.zero_le _, rfl, rfl, ⟨fun p h => hold p h h, fun i' j' m _ _ h => by omega⟩, hB, hBA, hb111⟩
         obtain ⟨i, mk, hi, hm, h124, hMk, hB, hBA, hb111⟩ := hI
         refine c_know 124 (.int .i64 i) h124 (by simp [undef]) ?_
         refine c_seq ?_
         refine c_region ?_
         refine wl (r_lss rfl rfl) ?_
         refine x_nil ?_
         refine e_S ?_
         refine c_seq ?_
         refine c_ifd rfl (fun c125 => ?_) (fun c125 => ?_)
         ·
          have hlt : i < TX.length := by omega
          refine c_skip ?_
          refine e_S ?_
          refine c_seq ?_
          refine c_block ?_
          refine c_seq ?_
          refine c_region ?_
          refine wl (r_mv (v := .int _ _) rfl) ?_
          refine wl (r_as (v := .int _ _) rfl) ?_
          refine x_nil ?_
          refine e_S ?_
          refine c_seq ?_
          refine c_region ?_
          refine wl (r_mv (v := .int _ _) rfl) ?_
          refine wl (r_mv (v := .int _ _) rfl) ?_
          refine x_nil ?_
          refine e_S ?_
          refine c_block ?_
          refine c_loopS [15, 16, 17, 18, 128, 129, 130, 131, 132, 133, 134, 135, 136, 137, 138, 139, 140, 141, 142, 143, 144, 145, 146, 147, 148, 149, 150, 151, 152, 153] (fun m g w' => ∃ (j : Nat) (mk2 : Nat → Bool), j ≤ i ∧ m = i - j ∧ g 128 = .int .i64 j ∧ MkI l (outL l D) ks i j mk2 ∧ Bel w w' ∧ Bel wA w' ∧ Blk w' b111 4 (row TX.length (fun x => .bool (mk2 x)))) (i) ?_ (fun m g40 w24 hI => ?_)
          ·
           exact ⟨0, mk, Nat.zero_le _, rfl, rfl, hMk, hB, hBA, hb111⟩
          obtain ⟨j, mk2, hj, hmj, h128, hMk2, hB, hBA, hb111⟩ := hI
          refine c_know 128 (.int .i64 j) h128 (by simp [undef]) ?_
          refine c_seq ?_
          refine c_region ?_
          refine wl (r_lss rfl rfl) ?_
          refine x_nil ?_
          refine e_S ?_
          refine c_seq ?_
          refine c_ifd rfl (fun c129 => ?_) (fun c129 => ?_)
          ·
           have hji : j < i := by omega
           have hmlt : (meet TX i j).2.1 = true → (meet TX i j).1 < TX.length := fun h => (meet_spec hX60 h).1
           refine c_skip ?_
           refine e_S ?_
           refine c_seq ?_
           refine c_block ?_
           refine c_seq ?_
           refine c_region ?_
           refine wl (r_mv (v := .int _ _) rfl) ?_
           refine wl (r_as (v := .int _ _) rfl) ?_
           refine x_nil ?_
           refine e_S ?_
           refine c_seq ?_
           refine c_region ?_
           refine wl (r_mv (v := .slice _ _ _) rfl) ?_
           refine wl (r_mv (v := .int _ _) rfl) ?_
           refine wl (r_mv (v := .int _ _) rfl) ?_
           refine wl_cl fn10 (smeet_any _ _ TX i j _ (hXA.mono hBA) hvX hX60 hlt (by omega)) rfl (fun e' w25 hr => ?_)
           obtain ⟨⟨u135, rfl⟩, hs⟩ := hr
           replace hs := Same.of_bel hs
           replace hB := hB.tr0 hs
           replace hBA := hBA.tr0 hs
           replace hb111 := hb111.tr0 hs
           clear hs
           refine ⟨_, rfl, ?_⟩
           refine wl (r_mv (v := .tuple _) rfl) ?_
           refine wl (r_ex (v := .int _ _) rfl rfl) ?_
           refine wl (r_ex (v := .bool _) rfl rfl) ?_
           refine wl (r_ex (v := .bool _) rfl rfl) ?_
           refine wl (r_as (v := .int _ _) rfl) ?_
           refine wl (r_as (v := .bool _) rfl) ?_
           refine wl (r_as (v := .bool _) rfl) ?_
           refine x_nil ?_
           refine e_S ?_
           refine c_seq ?_
           refine c_cut1 [139, 140, 141, 142, 143, 144, 145, 146, 147, 148, 149] 149 (.bool (decide (mkP TX i j = true))) (by simp [undef]) ?_ (fun gq => ?_)
           ·
            refine c_region ?_
            refine wl (r_mv (v := .bool _) rfl) ?_
            refine wl (r_mv (v := .bool _) rfl) ?_
            refine wl_cases 140 rfl (fun g140 => ?_) (fun g140 => ?_)
            ·
             refine wl_gd 140 rfl rfl ?_
             refine wl (r_mv (v := .int _ _) rfl) ?_
             refine wl_gd 140 rfl rfl ?_
             refine wl (r_mv (v := .int _ _) rfl) ?_
             refine wl_gd 140 rfl rfl ?_
             refine wl (r_neq rfl rfl) ?_
             refine wl (r_pt (v := .bool _) rfl rfl) ?_
             refine wl (r_mv (v := .bool _) rfl) ?_
             refine wl_casesd 145 rfl (fun g145 => ?_) (fun g145 => ?_)
             ·
              refine wl_gd 145 rfl rfl ?_
              refine wl (r_mv (v := .int _ _) rfl) ?_
              refine wl_gd 145 rfl rfl ?_
              refine wl (r_mv (v := .int _ _) rfl) ?_
              refine wl_gd 145 rfl rfl ?_
              refine wl (r_neq rfl rfl) ?_
              refine wl (r_pt (v := .bool _) rfl rfl) ?_
              refine x_nil (e_R ⟨rfl, (by repeat (first | exact ag_refl | exact ag_ovr' | refine ag_upd rfl ?_ | refine ag_sub rfl ?_ | refine ag_kn (by assumption) ?_)), ?_⟩)
              show Value.bool _ = Value.bool _
              first | exact mp0 g140 | exact mp0 (Bool.eq_false_iff.1 g140) | exact mp1 g145 | exact mp2 g140 g145
             ·
              refine wlgn 145 rfl rfl rfl ?_
              refine wlgn 145 rfl rfl rfl ?_
              refine wlgn 145 rfl rfl rfl ?_
              refine wl (r_pf (v := .bool _) rfl rfl) ?_
              refine x_nil (e_R ⟨rfl, (by repeat (first | exact ag_refl | exact ag_ovr' | refine ag_upd rfl ?_ | refine ag_sub rfl ?_ | refine ag_kn (by assumption) ?_)), ?_⟩)
              show Value.bool _ = Value.bool _
              first | exact mp0 g140 | exact mp0 (Bool.eq_false_iff.1 g140) | exact mp1 g145 | exact mp2 g140 g145
            ·
             refine wlgn 140 rfl rfl rfl ?_
             refine wlgn 140 rfl rfl rfl ?_
             refine wlgn 140 rfl rfl rfl ?_
             refine wl (r_pf (v := .bool _) rfl rfl) ?_
             refine wl (r_mv (v := .bool _) rfl) ?_
             refine wlgn 145 rfl rfl rfl ?_
             refine wlgn 145 rfl rfl rfl ?_
             refine wlgn 145 rfl rfl rfl ?_
             refine wl (r_pf (v := .bool _) rfl rfl) ?_
             refine x_nil (e_R ⟨rfl, (by repeat (first | exact ag_refl | exact ag_ovr' | refine ag_upd rfl ?_ | refine ag_sub rfl ?_ | refine ag_kn (by assumption) ?_)), ?_⟩)
             show Value.bool _ = Value.bool _
             first | exact mp0 g140 | exact mp0 (Bool.eq_false_iff.1 g140) | exact mp1 g145 | exact mp2 g140 g145
           refine e_S ?_
           refine c_ifd rfl (fun c149 => ?_) (fun c149 => ?_)
           ·
            have hml : (meet TX i j).1 < TX.length := hmlt (by
              unfold mkP at c149
              simp only [Bool.and_eq_true] at c149
              exact c149.1.1)
            refine c_region ?_
            refine wl (r_mv (v := .slice _ _ _) rfl) ?_
            refine wl (r_mv (v := .int _ _) rfl) ?_
            refine wl (r_ia (i := (meet TX i j).1) Tryd.underlying37 sz4 rfl rfl hml rfl) ?_
            refine wl_st1 (v := .bool _) hb111 rfl rfl sz4 (by rw [row_size]; omega) rfl row_set (fun w26 hq hs => ?_)
            replace hB := hB.tr1 hs lo111
            replace hBA := hBA.tr1 hs lo_hBA_b111
            clear hs
            replace hb111 := hq
            rw [row_setB] at hb111
            refine x_nil ?_
            refine e_B ?_
            refine e_S ?_
            refine c_region ?_
            refine wl (r_add rfl rfl rfl (by omega)) ?_
            refine wl (r_mv (v := .int _ _) rfl) ?_
            refine x_nil ?_
            refine e_LS (i - (j + 1)) (by omega) (by repeat (first | exact ag_refl | exact ag_ovr' | refine ag_upd rfl ?_ | refine ag_sub rfl ?_ | refine ag_kn (by assumption) ?_)) ?_
            first
              | exact ⟨j + 1, setB mk2 (meet TX i j).1, by omega, rfl, rfl, hMk2.set.skip (fun m h1 _ _ => by rw [hTXe, h1]; exact mk_self), hB, hBA, hb111⟩
              | exact ⟨j + 1, mk2, by omega, rfl, rfl, hMk2.skip (fun m h1 h2 h3 => absurd (mkP_of (by rw [hTXe]; exact h1) h2 h3) c149), hB, hBA, hb111⟩
           ·
            refine c_skip ?_
            refine e_B ?_
            refine e_S ?_
            refine c_region ?_
            refine wl (r_add rfl rfl rfl (by omega)) ?_
            refine wl (r_mv (v := .int _ _) rfl) ?_
            refine x_nil ?_
            refine e_LS (i - (j + 1)) (by omega) (by repeat (first | exact ag_refl | exact ag_ovr' | refine ag_upd rfl ?_ | refine ag_sub rfl ?_ | refine ag_kn (by assumption) ?_)) ?_
            first
              | exact ⟨j + 1, setB mk2 (meet TX i j).1, by omega, rfl, rfl, hMk2.set.skip (fun m h1 _ _ => by rw [hTXe, h1]; exact mk_self), hB, hBA, hb111⟩
              | exact ⟨j + 1, mk2, by omega, rfl, rfl, hMk2.skip (fun m h1 h2 h3 => absurd (mkP_of (by rw [hTXe]; exact h1) h2 h3) c149), hB, hBA, hb111⟩
          ·
           have hje : j = i := by omega
           rw [hje] at hMk2
           refine c_exit ?_
           refine e_Sx ?_
           refine e_LSx ?_
           refine e_Bx ?_
           refine e_B ?_
           refine e_S ?_
           refine c_region ?_
           refine wl (r_add rfl rfl rfl (by omega)) ?_
           refine wl (r_mv (v := .int _ _) rfl) ?_
           refine x_nil ?_
           refine e_LS (TX.length - (i + 1)) (by omega) (by repeat (first | exact ag_refl | exact ag_ovr' | refine ag_upd rfl ?_ | refine ag_sub rfl ?_ | refine ag_kn (by assumption) ?_)) ?_
           exact ⟨i + 1, mk2, by omega, rfl, rfl, hMk2.row, hB, hBA, hb111⟩
         ·
          have hie : i = TX.length := by omega
          rw [hie, hn] at hMk
          refine c_exit ?_
          refine e_Sx ?_
          refine e_LSx ?_
          refine e_Bx ?_
          refine e_S ?_
          refine c_seq ?_
          refine c_seq ?_
          refine c_region ?_
          refine wl (r_mv (v := .slice _ _ _) rfl) ?_
          refine wl_cl fn11 (bct_any b111 TX.length mk _ hb111 (by omega) (fun k hk => hMk.all ht0 hC hperm hA hO hAt (by rw [← hn]; exact hk))) rfl (fun e' w27 hr => ?_)
          obtain ⟨rfl, hs⟩ := hr
          replace hs := Same.of_bel hs
          replace hB := hB.tr0 hs
          replace hBA := hBA.tr0 hs
          replace hb111 := hb111.tr0 hs
          clear hs
          refine ⟨_, rfl, ?_⟩
          refine x_nil ?_
          refine e_S ?_
          refine c_if rfl (fun c156 => ?_) (fun c156 => ?_)
          ·
           cases c156
          ·
           refine c_skip ?_
           refine e_S ?_
           refine c_seq ?_
           have hb6 : Blk w27 b6 24 #[.int .i64 0, .int .i64 0] := hbA.bel hBA
           refine c_region ?_
           refine wl (r_mv (v := .slice _ _ _) rfl) ?_
           refine wl_cl fn5 (comps_any _ cX TX _ (hXA.mono hBA) (hTabA.mono hBA)) rfl (fun e' w28 hr => ?_)
           obtain ⟨⟨TY, fY, BY, cY, rfl, hTY, hSY, hcY⟩, hs⟩ := hr
           replace hs := Same.of_bel hs
           replace hB := hB.tr0 hs
           replace hBA := hBA.tr0 hs
           replace hb111 := hb111.tr0 hs
           replace hb6 := hb6.tr0 hs
           clear hs
           obtain ⟨wY, hwY⟩ : ∃ z, z = w28 := ⟨_, rfl⟩
           have hBY : Bel wY w28 := by rw [hwY]; exact Below.refl _ _
           rw [← hwY] at hTY
           clear hwY
           obtain ⟨rfl, hTYe⟩ := comps_fix hO (hTXe ▸ hSY)
           have hTYX : TX = TY := hTXe.trans hTYe.symm
           refine ⟨_, rfl, ?_⟩
           refine wl (r_mv (v := .tuple _) rfl) ?_
           refine wl (r_ex (v := .slice _ _ _) rfl rfl) ?_
           refine wl (r_ex (v := .agg _) rfl rfl) ?_
           refine wl (r_as (v := .slice _ _ _) rfl) ?_
           refine wl_stW hb6 rfl rfl sz24 rfl (by repeat (first | rfl | refine one_cons (by first | rfl | assumption) ?_)) (fun w29 hq hs => ?_)
           replace hs := same_blk hb6 hq hs
           replace hB := hB.tr0 hs
           replace hBA := hBA.tr0 hs
           replace hb111 := hb111.tr0 hs
           replace hBY := hBY.tr0 hs
           clear hs
           replace hb6 := hq
           refine x_nil ?_
           refine e_S ?_
           refine c_seq ?_
           refine c_region ?_
           refine wl (r_fa Tryd.underlying24 sz3_Tables (by decide) rfl rfl rfl) ?_
           refine wl (r_ld1 (v := .int .i64 0) Tryd.underlying3 rfl rfl (hb6.cell rfl)) ?_
           refine wl (r_eql rfl rfl) ?_
           refine wl (r_mv (v := .bool true) (congrArg Value.bool (decide_eq_true rfl))) ?_
           refine wl_gd 165 rfl rfl ?_
           refine wl (r_mv (v := .slice _ _ _) rfl) ?_
           refine wl_gd 165 rfl rfl ?_
           refine wl (r_mv (v := .slice _ _ _) rfl) ?_
           refine wl_gd 165 rfl rfl ?_
           refine wl_cl fn12 (teq_any _ _ _ _ TX TY _ (hXA.mono hBA) (hTY.mono hBY)) rfl (fun e' w30 hr => ?_)
           obtain ⟨⟨bE, rfl, hbE⟩, hs⟩ := hr
           replace hs := Same.of_bel hs
           replace hB := hB.tr0 hs
           replace hBA := hBA.tr0 hs
           replace hb111 := hb111.tr0 hs
           replace hb6 := hb6.tr0 hs
           replace hBY := hBY.tr0 hs
           clear hs
           obtain rfl := hbE.2 hTYX
           refine ⟨_, rfl, ?_⟩
           refine wl (r_pt (v := .bool _) rfl rfl) ?_
           refine wl (r_as (v := .bool _) rfl) ?_
           refine x_nil ?_
           refine e_S ?_
           refine c_ret ?_
           refine fin1 (.inl rfl) rfl rfl ?_
           exact ⟨rfl, hB⟩
end Go.Proofs.YtahdbbgkgokkhaaDoor
