/- What these functions of the program compute, at every world: glosswright/glosswrightlaw3.AvmPrintMatchesSpec. Arguments opened: graphs. -/
import Derived.Test.YtegngekpmpdngaaDoorU
import Derived.Test.YtegngekpmpdngaaDoorShf
import Derived.Test.YtegngekpmpdngaaDoorAPr
import Derived.Test.YtegngekpmpdngaaDoorTypes
import Derived.Test.YtegngekpmpdngaaDoorDfs
namespace Go.Proofs.YtegngekpmpdngaaDoor
open Go.RowKit
theorem inc_sh : inc sharedG 0 = 1 ∧ inc sharedG 1 = 2 := by decide +kernel
theorem tgs_sh0 : tgs sharedG 0 = 0 := (last_no (by rw [inc_sh.1]; decide)).2
theorem tgs_sh1 : tgs sharedG 1 = 1 := by
  rw [(last_yes (by rw [inc_sh.2]; decide)).2]
  unfold lastN
  rw [show List.range 1 = [0] from rfl]
  simp [inc_sh.1]
theorem dig1 : Lib.decDigits 1 = [49] := Lib.decDigits_one dE
theorem shp_txt : txtB pairT pairF sharedG = [97, 40, 102, 61, 35, 49, 32, 98, 44, 32, 103, 61, 35, 49, 41] := by
  have l0 : (nd sharedG 0).ln = [(0, 1), (1, 1)] := rfl
  have l1 : (nd sharedG 1).ln = [] := rfl
  have n0 : nmB pairT sharedG 0 = [97] := by decide +kernel
  have n1 : nmB pairT sharedG 1 = [98] := by decide +kernel
  have f0 : ftB pairF 0 = [102] := by decide +kernel
  have f1 : ftB pairF 1 = [103] := by decide +kernel
  have a0 : lnAt sharedG 0 0 = (0, 1) := rfl
  have a1 : lnAt sharedG 0 1 = (1, 1) := rfl
  have q1 : ∀ m sn, sn 1 = false → wN pairT pairF sharedG (m + 1) sn 1 = ([35, 49, 32, 98], setB sn 1) := fun m sn h => by
    rw [wN_new h, tgs_sh1, l1, n1]
    simp [preB, tagB, dig1, wL, cloB]
  have q2 : ∀ m sn, sn 1 = true → wN pairT pairF sharedG (m + 1) sn 1 = ([35, 49], sn) := fun m sn h => by
    rw [wN_old (by rw [tgs_sh1]; decide) h, tgs_sh1]
    simp [tagB, dig1]
  unfold txtB
  rw [show sharedG.length + 1 = 1 + 1 + 1 from rfl, wN_new rfl, tgs_sh0, l0, n0]
  have e1 : wL pairF sharedG (wN pairT pairF sharedG (1 + 1)) 0 1 (setB (fun _ => false) 0) = ([40, 102, 61, 35, 49, 32, 98], setB (setB (fun _ => false) 0) 1) := by
    show (([] : List UInt8) ++ (sepB 0 ++ ftB pairF (lnAt sharedG 0 0).1 ++ [61] ++ (wN pairT pairF sharedG (1 + 1) (setB (fun _ => false) 0) (lnAt sharedG 0 0).2.toNat).1), (wN pairT pairF sharedG (1 + 1) (setB (fun _ => false) 0) (lnAt sharedG 0 0).2.toNat).2) = _
    rw [a0]
    show (([] : List UInt8) ++ (sepB 0 ++ ftB pairF 0 ++ [61] ++ (wN pairT pairF sharedG (1 + 1) (setB (fun _ => false) 0) 1).1), (wN pairT pairF sharedG (1 + 1) (setB (fun _ => false) 0) 1).2) = _
    rw [q1 1 _ dE, f0]
    rfl
  have e2 : wL pairF sharedG (wN pairT pairF sharedG (1 + 1)) 0 2 (setB (fun _ => false) 0) = ([40, 102, 61, 35, 49, 32, 98, 44, 32, 103, 61, 35, 49], setB (setB (fun _ => false) 0) 1) := by
    show ((wL pairF sharedG (wN pairT pairF sharedG (1 + 1)) 0 1 (setB (fun _ => false) 0)).1 ++ (sepB 1 ++ ftB pairF (lnAt sharedG 0 1).1 ++ [61] ++ (wN pairT pairF sharedG (1 + 1) (wL pairF sharedG (wN pairT pairF sharedG (1 + 1)) 0 1 (setB (fun _ => false) 0)).2 (lnAt sharedG 0 1).2.toNat).1), (wN pairT pairF sharedG (1 + 1) (wL pairF sharedG (wN pairT pairF sharedG (1 + 1)) 0 1 (setB (fun _ => false) 0)).2 (lnAt sharedG 0 1).2.toNat).2) = _
    rw [e1, a1]
    show (_ ++ (sepB 1 ++ ftB pairF 1 ++ [61] ++ (wN pairT pairF sharedG (1 + 1) (setB (setB (fun _ => false) 0) 1) 1).1), (wN pairT pairF sharedG (1 + 1) (setB (setB (fun _ => false) 0) 1) 1).2) = _
    rw [q2 1 _ dE, f1]
    rfl
  show preB 0 ++ [97] ++ (wL pairF sharedG (wN pairT pairF sharedG (1 + 1)) 0 2 (setB (fun _ => false) 0)).1 ++ cloB 2 = _
  rw [e2]
  rfl
theorem shp_any {w : World} {A B G : Option Addr} (hTab : TabIn w) (hT : TypesIn w A pairT) (hF : FeatsIn w B pairF) (hG : NodesIn w G sharedG) : Calls Tryd.prog 29 #[.agg #[.slice A 4 4, .slice B 2 2], .agg #[.slice G 2 2]] w fun e w' => e = .returned (.tuple #[.string ⟨#[97, 40, 102, 61, 35, 49, 32, 98, 44, 32, 103, 61, 35, 49, 41]⟩, .agg #[.int .i64 0, .int .i64 0]]) ∧ Bel w w' := by
  refine (aprint_any A B G 4 2 2 pairT pairF sharedG w hTab hT hF hG).mono fun e w' h => ?_
  obtain ⟨⟨s, f, he, hS⟩, hs⟩ := h
  rcases hS with ⟨h, _⟩ | ⟨_, o, hd, hS⟩
  · exact absurd shared_ok h
  have e1 := hd.det shared_dl
  subst e1
  have ec : canG sharedG [0, 1] = sharedG := by decide +kernel
  rw [ec, shp_txt] at hS
  rcases hS with ⟨_, h2, h3⟩ | ⟨h, _⟩
  · subst h2 h3
    exact ⟨he, hs⟩
  · exact absurd h dE
theorem fd35 : (Tryd.prog.fieldsOf 35).toList.map (fun f => (f.name == "_", f.type, f.offset)) = [(false, 3, 0), (false, 3, 1)] := by kernel_rfl
theorem fn10 : callable Tryd.prog 10 = true := by kernel_rfl
theorem fn29 : callable Tryd.prog 29 = true := by kernel_rfl
theorem fn30 : callable Tryd.prog 30 = true := by kernel_rfl
theorem fn31 : callable Tryd.prog 31 = true := by kernel_rfl
theorem ft35 : Tryd.prog.underlying 35 = some (.struct (Tryd.prog.fieldsOf 35)) := by kernel_rfl
set_option maxRecDepth 100000 in
set_option maxHeartbeats 4000000 in
theorem law26_any (A B G : Option Addr) (c d cg : Nat) (l : List Ty) (fs : List Ft) (gr : List Nd) (w : World) (hTab : TabIn w) (hcl : l.length ≤ c) (hdl : fs.length ≤ d) (hT : TypesIn w A l) (hF : FeatsIn w B fs) (hG1 : NodesIn w G gr) : Calls Tryd.prog 7 #[.agg #[.slice A l.length c, .slice B fs.length d], .agg #[.slice G gr.length cg]] w fun e w' => e = .returned (.bool true) ∧ Bel w w' := by
 refine enter Tryd.func7 Tryd.ntmps7 rfl (Nat.le_of_ble_eq_true rfl) ?_
 have hB : Bel w w := Below.refl _ _
 refine c_seq (c_region ?_)
 refine wl_bx (v := .agg #[_, _]) (cs := #[_, _]) rfl rfl (fun b2 w1 hb2 hs hr => ?_)
 have lo2 := nLT (Bel.size hB) hr
 replace hB := hB.tr0 hs
 clear hs
 clear hr
 refine wl_bx (v := .agg #[_]) (cs := #[_]) rfl rfl (fun b3 w2 hb3 hs hr => ?_)
 have or_b2_b3 : b2 < b3 := nLL hb2.lt hr
 have lo3 := nLT (Bel.size hB) hr
 replace hB := hB.tr0 hs
 replace hb2 := hb2.tr0 hs
 clear hs
 clear hr
 refine waB rfl (x_nil (e_S (c_seq (c_seq (c_region ?_)))))
 refine wl_cl fn10 (pair_any _) rfl (fun e' w3 hr => ?_)
 obtain ⟨⟨Ap, Bp, rfl, hTp, hFp⟩, hs⟩ := hr
 replace hs := Same.of_bel hs
 replace hB := hB.tr0 hs
 replace hb2 := hb2.tr0 hs
 replace hb3 := hb3.tr0 hs
 clear hs
 have hB0 : Bel w3 w3 := Below.refl _ _
 refine ⟨_, rfl, ?_⟩
 refine wl_cl fn30 (shared_any _) rfl (fun e' w4 hr => ?_)
 obtain ⟨⟨Gb, rfl, hGb⟩, hs⟩ := hr
 replace hs := Same.of_bel hs
 replace hB := hB.tr0 hs
 replace hb2 := hb2.tr0 hs
 replace hb3 := hb3.tr0 hs
 replace hB0 := hB0.tr0 hs
 clear hs
 have hB1 : Bel w4 w4 := Below.refl _ _
 refine ⟨_, rfl, ?_⟩
 refine wl_cl fn29 (shp_any (hTab.mono hB) (hTp.mono hB0) (hFp.mono hB0) (hGb.mono hB1)) rfl (fun e' w5 hr => ?_)
 obtain ⟨rfl, hs⟩ := hr
 replace hs := Same.of_bel hs
 replace hB := hB.tr0 hs
 replace hb2 := hb2.tr0 hs
 replace hb3 := hb3.tr0 hs
 replace hB0 := hB0.tr0 hs
 replace hB1 := hB1.tr0 hs
 clear hs
 refine ⟨_, rfl, ?_⟩
 refine wl (r_mv (v := .tuple _) rfl) (wl (r_ex (v := _) rfl rfl) (wl (r_ex (v := _) rfl rfl) ?_))
 refine wl_al (cs := #[.int .i64 0, .int .i64 0]) ze35_SFind rfl (fun b6 w6 hb6 hs hr => ?_)
 have or_b2_b6 : b2 < b6 := nLL hb2.lt hr
 have or_b3_b6 : b3 < b6 := nLL hb3.lt hr
 have lo6 := nLT (Bel.size hB) hr
 replace hB := hB.tr0 hs
 replace hb2 := hb2.tr0 hs
 replace hb3 := hb3.tr0 hs
 clear hs
 clear hr
 refine wl (r_as (v := .string _) rfl) ?_
 refine wl_stW hb6 rfl rfl sz35_SFind rfl oneA (fun w7 hq hs => ?_)
 replace hB := hB.tr1 hs lo6
 replace hb2 := hb2.tr1 hs om
 replace hb3 := hb3.tr1 hs om
 clear hs
 replace hb6 := hq
 refine x_nil (e_S (c_seq (c_region (wl (r_fa U35 sz3_GSearch dE rfl rfl rfl) (wl (r_ld1 (v := .int _ _) U3 rfl rfl (hb6.cell rfl)) ?_)))))
 refine wl (r_neq rfl rfl) (wl (r_mv (v := .bool false) (congrArg Value.bool (decide_eq_false (fun h => h rfl)))) (wl_gd 20 rfl rfl (wl (r_mv (v := .string _) rfl) (wl_gd 20 rfl rfl (wl (r_neqS rfl rfl) ?_)))))
 refine wl (r_pf (v := .bool _) rfl rfl) (x_nil (e_S ?_))
 refine c_ifd rfl (fun c23 => ?_) (fun c23 => ?_)
 ·
  exact absurd rfl c23
 refine c_skip (e_S (c_seq (c_region (wl (r_ldS U25 rfl rfl hb2.range0 sz25) (wl (r_ldS U28 rfl rfl hb3.range0 sz28) ?_)))))
 refine wl_cl fn29 (aprint_any A B G c d cg l fs gr _ (hTab.mono hB) (hT.mono hB) (hF.mono hB) (hG1.mono hB)) rfl (fun e' w8 hr => ?_)
 obtain ⟨⟨sX, fX, rfl, hSX⟩, hs⟩ := hr
 replace hs := Same.of_bel hs
 replace hB := hB.tr0 hs
 replace hb2 := hb2.tr0 hs
 replace hb3 := hb3.tr0 hs
 replace hb6 := hb6.tr0 hs
 clear hs
 refine ⟨_, rfl, ?_⟩
 refine wl (r_mv (v := .tuple _) rfl) (wl (r_ex (v := _) rfl rfl) (wl (r_ex (v := _) rfl rfl) ?_))
 refine wl_al (cs := #[.int .i64 0, .int .i64 0]) ze35_SFind rfl (fun b8 w9 hb8 hs hr => ?_)
 have or_b2_b8 : b2 < b8 := nLL hb2.lt hr
 have or_b3_b8 : b3 < b8 := nLL hb3.lt hr
 have or_b6_b8 : b6 < b8 := nLL hb6.lt hr
 have lo8 := nLT (Bel.size hB) hr
 replace hB := hB.tr0 hs
 replace hb2 := hb2.tr0 hs
 replace hb3 := hb3.tr0 hs
 replace hb6 := hb6.tr0 hs
 clear hs
 clear hr
 refine wl (r_as (v := .string _) rfl) ?_
 refine wl_stW hb8 rfl rfl sz35_SFind rfl oneA (fun w10 hq hs => ?_)
 replace hB := hB.tr1 hs lo8
 replace hb2 := hb2.tr1 hs om
 replace hb3 := hb3.tr1 hs om
 replace hb6 := hb6.tr1 hs om
 clear hs
 replace hb8 := hq
 refine x_nil (e_S (c_seq (c_seq (c_region (wl (r_ldS U25 rfl rfl hb2.range0 sz25) ?_)))))
 refine wl (r_ldS U28 rfl rfl hb3.range0 sz28) ?_
 refine wl_cl fn13 (gfau_any A B G c d cg l fs gr _ hcl hdl (hT.mono hB) (hF.mono hB) (hG1.mono hB)) rfl (fun e' w11 hr => ?_)
 obtain ⟨rfl, hs⟩ := hr
 replace hs := Same.of_bel hs
 replace hB := hB.tr0 hs
 replace hb2 := hb2.tr0 hs
 replace hb3 := hb3.tr0 hs
 replace hb6 := hb6.tr0 hs
 replace hb8 := hb8.tr0 hs
 clear hs
 refine ⟨_, rfl, ?_⟩
 refine wl_al (cs := #[.int .i64 0, .int .i64 0]) ze35_SFind rfl (fun b9 w12 hb9 hs hr => ?_)
 have or_b2_b9 : b2 < b9 := nLL hb2.lt hr
 have or_b3_b9 : b3 < b9 := nLL hb3.lt hr
 have or_b6_b9 : b6 < b9 := nLL hb6.lt hr
 have or_b8_b9 : b8 < b9 := nLL hb8.lt hr
 have lo9 := nLT (Bel.size hB) hr
 replace hB := hB.tr0 hs
 replace hb2 := hb2.tr0 hs
 replace hb3 := hb3.tr0 hs
 replace hb6 := hb6.tr0 hs
 replace hb8 := hb8.tr0 hs
 clear hs
 clear hr
 refine wl_stW hb9 rfl rfl sz35_SFind rfl oneA (fun w13 hq hs => ?_)
 replace hB := hB.tr1 hs lo9
 replace hb2 := hb2.tr1 hs om
 replace hb3 := hb3.tr1 hs om
 replace hb6 := hb6.tr1 hs om
 replace hb8 := hb8.tr1 hs om
 clear hs
 replace hb9 := hq
 refine x_nil (e_S (c_seq (c_region (wl (r_fa U35 sz3_GSearch dE rfl rfl rfl) (wl (r_ld1 (v := .int _ _) U3 rfl rfl (hb9.cell rfl)) ?_)))))
 refine wl (r_neq rfl rfl) (x_nil (e_S ?_))
 refine c_ifd rfl (fun c35 => ?_) (fun c35 => ?_)
 ·
  obtain ⟨rfl, rfl⟩ : fX = graphF l fs gr ∧ sX = ⟨#[]⟩ := by
    rcases hSX with ⟨_, h1, h2⟩ | ⟨h1, _⟩
    · exact ⟨h1, h2⟩
    · exact absurd h1 c35
  refine c_seq (c_region (wl (r_ldS U35 rfl rfl hb8.range0 sz35_SFind) (wl (r_ldS U35 rfl rfl hb9.range0 sz35_SFind) (wl (r_eqF Tryd.eqGuardType35 ft35 Tryd.stoodInHeld35 fd35 U3 rfl rfl) (wl (r_mv (v := .bool true) (congrArg Value.bool (decide_eq_true ⟨rfl, rfl⟩))) ?_)))))
  refine wl_gd 39 rfl rfl (wl (r_mv (v := .string _) rfl) (wl_gd 39 rfl rfl (wl (r_eqlS rfl rfl) (wl (r_pt (v := .bool _) rfl rfl) (wl (r_as (v := .bool true) (congrArg Value.bool (decide_eq_true rfl))) ?_)))))
  refine x_nil (e_S (c_ret (e_Sr (fin1 (.inl rfl) rfl rfl ?_))))
  exact ⟨rfl, hB⟩
 have h0 := Decidable.not_not.1 c35
 have hva := gv_of h0
 obtain ⟨_, o, hD, hSX⟩ := hSX.resolve_left (fun h => h.1 h0)
 have hTl : (⟨(txtB l fs (canG gr o)).toArray⟩ : ByteArray).size = (txtB l fs (canG gr o)).length := by rw [← bl_size]; rfl
 refine c_skip (e_S (c_seq (c_region (wl (r_ldS U25 rfl rfl hb2.range0 sz25) (wl (r_ldS U28 rfl rfl hb3.range0 sz28) ?_)))))
 refine wl_cl fn31 (wtn_any A B G c d cg l fs gr _ (hT.mono hB) (hF.mono hB) (hG1.mono hB) hva) rfl (fun e' w14 hr => ?_)
 obtain ⟨⟨o2, hD2, rfl⟩, hs⟩ := hr
 replace hs := Same.of_bel hs
 replace hB := hB.tr0 hs
 replace hb2 := hb2.tr0 hs
 replace hb3 := hb3.tr0 hs
 replace hb6 := hb6.tr0 hs
 replace hb8 := hb8.tr0 hs
 replace hb9 := hb9.tr0 hs
 clear hs
 have eo := hD2.det hD
 subst eo
 refine ⟨_, rfl, ?_⟩
 refine wl (r_as (v := .string _) rfl) (x_nil (e_S (c_seq (c_seq (c_region ?_)))))
 refine wl (r_mv (v := .string _) rfl) (wl (r_lenS U9 rfl) (wl (r_gtr rfl rfl) (x_nil (e_S ?_))))
 refine c_ifd rfl (fun c48 => ?_) (fun c48 => ?_)
 ·
  obtain ⟨rfl, rfl⟩ : fX = (1, -2) ∧ sX = ⟨#[]⟩ := by
    rcases hSX with ⟨h, _⟩ | ⟨_, h1, h2⟩
    · omega
    · exact ⟨h1, h2⟩
  refine c_seq (c_region (wl (r_ldS U35 rfl rfl hb8.range0 sz35_SFind) (wl (r_bd2 (v0 := .int _ _) (v1 := .int _ _) (fun v0 v1 => #[v0, v1]) rfl rfl kR) (wl (r_eqF Tryd.eqGuardType35 ft35 Tryd.stoodInHeld35 fd35 U3 rfl rfl) (wl (r_mv (v := .bool true) (congrArg Value.bool (decide_eq_true ⟨rfl, rfl⟩))) ?_)))))
  refine wl_gd 52 rfl rfl (wl (r_mv (v := .string _) rfl) (wl_gd 52 rfl rfl (wl (r_eqlS rfl rfl) (wl (r_pt (v := .bool _) rfl rfl) (wl (r_as (v := .bool true) (congrArg Value.bool (decide_eq_true rfl))) ?_)))))
  refine x_nil (e_S (c_ret (e_Sr (fin1 (.inl rfl) rfl rfl ?_))))
  exact ⟨rfl, hB⟩
 obtain ⟨rfl, rfl⟩ : fX = (0, 0) ∧ sX = ⟨(txtB l fs (canG gr o2)).toArray⟩ := by
   rcases hSX with ⟨_, h1, h2⟩ | ⟨h, _⟩
   · exact ⟨h1, h2⟩
   · omega
 refine c_skip (e_S (c_seq (c_region (wl (r_fa U35 sz3_GSearch dE rfl rfl rfl) (wl (r_ld1 (v := .int _ _) U3 rfl rfl (hb8.cell rfl)) ?_)))))
 refine wl (r_eql rfl rfl) (wl (r_mv (v := .bool true) (congrArg Value.bool (decide_eq_true rfl))) (wl_gd 59 rfl rfl (wl (r_mv (v := .string _) rfl) (wl_gd 59 rfl rfl (wl (r_mv (v := .string _) rfl) ?_)))))
 refine wl_gd 59 rfl rfl (wl (r_eqlS rfl rfl) (wl (r_pt (v := .bool _) rfl rfl) (wl (r_as (v := .bool true) (congrArg Value.bool (decide_eq_true rfl))) (x_nil (e_S ?_)))))
 refine c_ret (fin1 (.inl rfl) rfl rfl ?_)
 exact ⟨rfl, hB⟩
end Go.Proofs.YtegngekpmpdngaaDoor
namespace Go.Proofs.YtegngekpmpdngaaDoor
open Go.RowKit Go.ChangeShapes Go.WideShapes Go.Deep Go.Joins
section
variable {H : Type} {enc : TypeId × Value → H} {P : Program} {w : World} {base : Nat} {spare : Nat → Bool} {held : Bool}
theorem links_open {t e ti : TypeId} {f0 f1 : Field} {fuel : Nat} {v : Value} {x : DataW H × List MemPlace} (ht : P.underlying t = some (.slice e)) (he : P.underlying e = some (.struct #[f0, f1])) (hsz : P.cellsOf e = 2) (o0 : f0.offset = 0) (o1 : f1.offset = 1) (e0 : f0.type = ti) (e1 : f1.type = ti)
    (hi : P.underlying ti = some (.int .i64)) (hc1 : P.cellsOf ti = 1) (h : DataW.trod enc P w base spare held fuel t [v] = some x) :
    ∃ A xs c, v = .slice A (List.length xs) c ∧ xs.length ≤ c ∧ LinksIn w A xs := by
  obtain ⟨A, len, c, rfl, hl, hm, hx⟩ := sl_open ht hsz dE h
  by_cases h0 : len = 0
  · subst h0
    exact ⟨A, [], c, rfl, Nat.zero_le _, Nat.zero_le _, fun h => absurd rfl h⟩
  · obtain ⟨b, o, rfl, hlt, hc⟩ := hx h0
    obtain ⟨xs, hxl, hxs⟩ := choose_list (p := fun i (z : Int × Int) => w.rangeAt b (o + i * 2) [.int .i64 z.1, .int .i64 z.2]) (n := len) (fun i hi' => by
      obtain ⟨cs, k, y, h1, h2, h3⟩ := hc i hi'
      obtain ⟨v0, v1, n, y0, y1, rfl, g0, g1⟩ := two_cells he h1 o0 o1 (by rw [e0]; exact hc1) (by rw [e1]; exact hc1) h3
      rw [e0] at g0
      rw [e1] at g1
      obtain ⟨z1, h5, _, _⟩ := DataW.trod_int hi g0
      obtain ⟨z2, h6, _, _⟩ := DataW.trod_int hi g1
      rw [one_val h5, one_val h6] at h2
      exact ⟨(z1, z2), h2⟩)
    subst hxl
    exact ⟨_, xs, c, rfl, hl, nLT hl hm, fun _ => ⟨b, o, rfl, hlt, hxs⟩⟩
theorem nodes_open {t e ti tl te : TypeId} {f0 f1 g0 g1 : Field} {fuel : Nat} {v : Value} {x : DataW H × List MemPlace} (ht : P.underlying t = some (.slice e)) (he : P.underlying e = some (.struct #[f0, f1])) (hsz : P.cellsOf e = 2) (o0 : f0.offset = 0) (o1 : f1.offset = 1) (e0 : f0.type = ti) (e1 : f1.type = tl)
    (htl : P.underlying tl = some (.slice te)) (hte : P.underlying te = some (.struct #[g0, g1])) (hst : P.cellsOf te = 2) (p0 : g0.offset = 0) (p1 : g1.offset = 1) (d0 : g0.type = ti) (d1 : g1.type = ti) (hcl : P.cellsOf tl = 1)
    (hi : P.underlying ti = some (.int .i64)) (hc1 : P.cellsOf ti = 1) (h : DataW.trod enc P w base spare held fuel t [v] = some x) :
    ∃ A gr c, v = .slice A (List.length gr) c ∧ gr.length ≤ c ∧ NodesIn w A gr := by
  obtain ⟨A, len, c, rfl, hl, hm, hx⟩ := sl_open ht hsz dE h
  by_cases h0 : len = 0
  · subst h0
    exact ⟨A, [], c, rfl, Nat.zero_le _, Nat.zero_le _, fun h => absurd rfl h⟩
  · obtain ⟨b, o, rfl, hlt, hc⟩ := hx h0
    obtain ⟨gr, hxl, hxs⟩ := choose_list (p := fun i (z : Nd) => NdIn w b (o + i * 2) z) (n := len) (fun i hi' => by
      obtain ⟨cs, k, y, h1, h2, h3⟩ := hc i hi'
      obtain ⟨v0, v1, n, y0, y1, rfl, q0, q1⟩ := two_cells he h1 o0 o1 (by rw [e0]; exact hc1) (by rw [e1]; exact hcl) h3
      rw [e0] at q0
      rw [e1] at q1
      obtain ⟨z1, h5, _, _⟩ := DataW.trod_int hi q0
      obtain ⟨A', xs, c', rfl, _, hin⟩ := links_open htl hte hst p0 p1 d0 d1 hi hc1 q1
      rw [one_val h5] at h2
      exact ⟨⟨z1, xs⟩, A', c', h2, hin⟩)
    subst hxl
    exact ⟨_, gr, c, rfl, hl, nLT hl hm, fun _ => ⟨b, o, rfl, hlt, hxs⟩⟩
end
end Go.Proofs.YtegngekpmpdngaaDoor
