/- What these functions of the program compute, at every world: glosswright/glosswrightlaw3.shared. Unifying in any order: what All and Unify tell, compared. No program in sight. What these functions of the program compute, at every world: glosswright/glosswrightlaw3.UnifyInAnyOrder. What these functions of the program compute, at every world: glosswright/glosswrightref3.Unified. What these functions of the program compute, at every world: glosswright/glosswrightlaw3.UnifyMatchesSpec. Arguments opened: graphs. -/
import Derived.Test.YteoncmfiiknfbaaDoorPool
import Derived.Test.YteoncmfiiknfbaaDoorOrd
import Derived.Test.YteoncmfiiknfbaaDoorPath
import Derived.Test.YteoncmfiiknfbaaDoorGTgt
import Derived.Test.YteoncmfiiknfbaaDoorUAll
import Derived.Test.YteoncmfiiknfbaaDoorRJoin
import Derived.Test.YteoncmfiiknfbaaDoorEng4
import Derived.Test.YteoncmfiiknfbaaDoorGraph
namespace Go.Proofs.YteoncmfiiknfbaaDoor
open Go.RowKit

theorem two_mk {l : List Ty} {fs : List Ft} {ga gb : List Nd} (h1 : (graphF l fs ga).1 = 0) (h2 : (graphF l fs gb).1 = 0) : (twoG l fs ga gb).1 = 0 := by
  have hg := gv_of h1
  unfold twoG
  rw [if_neg (fun k => k h1)]
  rw [gf_in hg.h] at h2
  exact h2
end Go.Proofs.YteoncmfiiknfbaaDoor
namespace Go.Proofs.YteoncmfiiknfbaaDoor
open Go.RowKit
section many
variable {l : List Ty} {fs : List Ft}
/-- the same graphs, each at least once -/
def Sup (gs hs : List (List Nd)) : Prop := ∀ i (hi : i < gs.length), ∃ j, ∃ hj : j < hs.length, gs[i] = hs[j]
theorem Sup.of {gs hs : List (List Nd)} (h : ∀ g ∈ gs, g ∈ hs) : Sup gs hs := fun i hi => by
  obtain ⟨j, hj, e⟩ := List.getElem_of_mem (h _ (List.getElem_mem hi))
  exact ⟨j, hj, e.symm⟩
def AMaps (l : List Ty) (gs : List (List Nd)) (c : List Nd) : Prop := ∀ i (hi : i < gs.length), Maps l gs[i] c
theorem AMaps.sup {gs hs : List (List Nd)} {c : List Nd} (h : AMaps l hs c) (s : Sup gs hs) : AMaps l gs c := fun i hi => by
  obtain ⟨j, hj, e⟩ := s i hi
  rw [e]; exact h j hj
end many
end Go.Proofs.YteoncmfiiknfbaaDoor
namespace Go.Proofs.YteoncmfiiknfbaaDoor
open Go.RowKit

inductive GrVs (w : World) : List (List Nd) → List Value → Prop
  | nil : GrVs w [] []
  | cons {A : Option Addr} {g : List Nd} {c : Nat} {gs : List (List Nd)} {vs : List Value} (h : NodesIn w A g) (k : GrVs w gs vs) : GrVs w (g :: gs) (.slice A g.length c :: vs)
theorem GrVs.get {w : World} : ∀ {gs : List (List Nd)} {vs : List Value}, GrVs w gs vs → ∀ k (hk : k < gs.length), ∃ A c, vs[k]? = some (.slice A (gs[k]).length c) ∧ NodesIn w A gs[k]
  | _, _, .cons h _, 0, _ => ⟨_, _, rfl, h⟩
  | _, _, .cons _ r, k + 1, hk => by
    obtain ⟨A, c, h1, h2⟩ := r.get k (by simpa using hk)
    exact ⟨A, c, by simpa using h1, h2⟩
theorem grs_of_blk {w : World} {b t : Nat} {gs : List (List Nd)} {vs : List Value} (h : Blk w b t vs.toArray) (hv : GrVs w gs vs) (hl : gs.length ≤ maxI) : GrsIn w (some ⟨b, 0, none⟩) gs :=
  ⟨hl, fun _ => ⟨b, 0, rfl, h.lt, fun k hk => by
    obtain ⟨A, c, h1, h2⟩ := hv.get k hk
    refine ⟨A, c, fun j v hj => ?_, h2⟩
    match j, hj with
    | 0, hj => cases hj; exact h.cell (by simpa using h1)
    | _ + 1, hj => cases hj⟩⟩
theorem fd30 : (Tryd.prog.fieldsOf 30).toList.map (fun f => (f.name == "_", f.type, f.offset)) = [(false, 3, 0), (false, 3, 1)] := by kernel_rfl
theorem fn10_UOrd : callable Tryd.prog 10 = true := by kernel_rfl
theorem fn12 : callable Tryd.prog 12 = true := by kernel_rfl
theorem fn13_UOrd : callable Tryd.prog 13 = true := by kernel_rfl
theorem fn14_UOrd : callable Tryd.prog 14 = true := by kernel_rfl
theorem fn16_UOrd : callable Tryd.prog 16 = true := by kernel_rfl
theorem ft30 : Tryd.prog.underlying 30 = some (.struct (Tryd.prog.fieldsOf 30)) := by kernel_rfl
end Go.Proofs.YteoncmfiiknfbaaDoor
namespace Go.Proofs.YteoncmfiiknfbaaDoor
open Go.RowKit

theorem va_two (ga gb : List Nd) : VA [ga, gb] 2 = ga ++ gb.map (shN ga.length) := by
  show addU (addU [] ga) gb = _
  have e : addU [] ga = ga := by
    unfold addU
    rw [List.nil_append, List.length_nil, shN_zero]
  rw [e]; rfl
theorem pa_two (ga gb : List Nd) : PA [ga, gb] [0] = [(0, ga.length)] := by
  show [(0, (VA [ga, gb] 1).length)] = _
  have e : VA [ga, gb] 1 = ga := by
    show addU [] ga = _
    unfold addU
    rw [List.nil_append, List.length_nil, shN_zero]
  rw [e]
theorem uni_is {l : List Ty} {ga gb X : List Nd} (hga : GX l ga) (hgb : GX l gb) (h : UniR l (ga ++ gb.map (shN ga.length)) [(0, ga.length)] X) : Bound l (ga ++ gb.map (shN ga.length)) [(0, ga.length)] := by
  have hl := uni_lub hga hgb h
  exact pair_bound hl.gx.toGY hl.left hl.right hga.toGY hgb.toGY
/-- what Unify tells, and what the reference does -/
theorem un_ref {l : List Ty} {fs : List Ft} {ga gb X Y : List Nd} {ok ok2 : Bool} {f : Fl} (h0 : (twoG l fs ga gb).1 = 0) (hU : UnifyS l fs ga gb ok f X) (hR : (ok2 = true ∧ UniR l (ga ++ gb.map (shN ga.length)) [(0, ga.length)] Y) ∨ (ok2 = false ∧ Y = [] ∧ ¬ Bound l (ga ++ gb.map (shN ga.length)) [(0, ga.length)])) :
    (ok2 = false → f = (0, 0) ∧ ok = false ∧ X = []) ∧ (ok2 = true → 60 < Y.length → f = (17, -1) ∧ ok = false ∧ X = []) ∧ (ok2 = true → Y.length ≤ 60 → f = (0, 0) ∧ ok = true ∧ X = Y) := by
  obtain ⟨⟨hva, hvb⟩, _⟩ := two_gv h0
  have un : ∀ {A B : List Nd}, UniR l (ga ++ gb.map (shN ga.length)) [(0, ga.length)] A → UniR l (ga ++ gb.map (shN ga.length)) [(0, ga.length)] B → A = B := fun ha hb => (uni_lub hva.gx hvb.gx ha).uniq (uni_lub hva.gx hvb.gx hb)
  rcases hR with ⟨rfl, hY⟩ | ⟨rfl, rfl, hn⟩
  · refine ⟨(fun h => nomatch h), fun _ h60 => ?_, fun _ h60 => ?_⟩ <;> rcases hU with ⟨h, _⟩ | ⟨_, _, _, _, h⟩ | ⟨_, h2, h3, h4, Z, hZ, h6⟩ | ⟨_, h2, h3, hX, h5⟩
    · exact absurd h0 h
    · exact absurd (uni_is hva.gx hvb.gx hY) h
    · exact ⟨h3, h2, h4⟩
    · rw [un hX hY] at h5; omega
    · exact absurd h0 h
    · exact absurd (uni_is hva.gx hvb.gx hY) h
    · rw [un hZ hY] at h6; omega
    · exact ⟨h3, h2, un hX hY⟩
  · refine ⟨fun _ => ?_, (fun h => nomatch h), (fun h => nomatch h)⟩
    rcases hU with ⟨h, _⟩ | ⟨_, h2, h3, h4, _⟩ | ⟨_, _, _, _, Z, hZ, _⟩ | ⟨_, _, _, hX, _⟩
    · exact absurd h0 h
    · exact ⟨h3, h2, h4⟩
    · exact absurd (uni_is hva.gx hvb.gx hZ) hn
    · exact absurd (uni_is hva.gx hvb.gx hX) hn
theorem un_bad {l : List Ty} {fs : List Ft} {ga gb X : List Nd} {ok : Bool} {f : Fl} (h0 : ¬ (twoG l fs ga gb).1 = 0) (hU : UnifyS l fs ga gb ok f X) : ok = false ∧ f = twoG l fs ga gb ∧ X = [] := by
  rcases hU with ⟨_, h⟩ | ⟨h, _⟩ | ⟨h, _⟩ | ⟨h, _⟩
  · exact h
  · exact absurd h h0
  · exact absurd h h0
  · exact absurd h h0
/-! ## apart with the type c -/
def ap3 : List Nd := [⟨3, [(0, 1), (1, 2)]⟩, ⟨0, []⟩, ⟨2, []⟩]
def single3 : List Nd := [⟨3, []⟩]
theorem single3_ok : (graphF pairT pairF single3).1 = 0 := by
  have h0 : Rch single3 0 := .zero
  have hu : (-1 : Int) = unrI single3 := unr_is (.inl ⟨rfl, fun i hi => by
    have hi3 : i < 1 := hi
    match i, hi3 with
    | 0, _ => exact h0⟩)
  rw [gf_in (by rw [pair_fault]), wi_zero (by decide +kernel) (by decide +kernel) (by omega)]
theorem ap3_ok : (graphF pairT pairF ap3).1 = 0 := by
  have h0 : Rch ap3 0 := .zero
  have hu : (-1 : Int) = unrI ap3 := unr_is (.inl ⟨rfl, fun i hi => by
    have hi3 : i < 3 := hi
    match i, hi3 with
    | 0, _ => exact h0
    | 1, _ => exact Rch.step (x := (0, 1)) h0 (by decide) (by decide)
    | 2, _ => exact Rch.step (x := (1, 2)) h0 (by decide) (by decide)⟩)
  rw [gf_in (by rw [pair_fault]), wi_zero (by decide +kernel) (by decide +kernel) (by omega)]
theorem maps_a3 : Maps pairT apartG ap3 := ⟨fun i => if i = 0 then 0 else if i = 1 then 2 else 1, by
  refine ⟨rfl, fun i hi => ?_, fun i hi => ?_, fun i hi => ?_⟩ <;> (have hi3 : i < 3 := hi) <;> (match i, hi3 with | 0, _ => ?_ | 1, _ => ?_ | 2, _ => ?_) <;> decide +kernel⟩
theorem maps_s3 : Maps pairT single3 ap3 := ⟨fun _ => 0, by
  refine ⟨rfl, fun i hi => ?_, fun i hi => ?_, fun i hi => ?_⟩ <;> (have hi3 : i < 1 := hi) <;> (match i, hi3 with | 0, _ => ?_) <;> decide +kernel⟩
theorem a3_least {c : List Nd} (h1 : Maps pairT apartG c) (h2 : Maps pairT single3 c) : Maps pairT ap3 c := by
  obtain ⟨φ, hφ⟩ := h1
  obtain ⟨ψ, hψ⟩ := h2
  have l0 := hφ.ln 0 (by decide)
  have n0 : (nd apartG 0).ln = [(0, 2), (1, 1)] := rfl
  rw [n0] at l0
  have e1 := l0 (0, 2) (by simp)
  have e2 := l0 (1, 1) (by simp)
  rw [hφ.zero] at e1 e2
  refine ⟨fun i => if i = 0 then 0 else if i = 1 then φ 2 else φ 1, rfl, fun i hi => ?_, fun i hi => ?_, fun i hi => ?_⟩ <;> (have hi3 : i < 3 := hi) <;> (match i, hi3 with | 0, _ => ?_ | 1, _ => ?_ | 2, _ => ?_)
  · have := hφ.lt 0 (by decide); rw [hφ.zero] at this; exact this
  · exact hφ.lt 2 (by decide)
  · exact hφ.lt 1 (by decide)
  · have := hψ.ty 0 (by decide); rw [hψ.zero] at this; exact this
  · exact hφ.ty 2 (by decide)
  · exact hφ.ty 1 (by decide)
  · intro x hx
    rw [show (nd ap3 0).ln = [(0, 1), (1, 2)] from rfl] at hx
    simp only [List.mem_cons, List.not_mem_nil, or_false] at hx
    rcases hx with rfl | rfl
    · exact e1
    · exact e2
  · intro x hx; exact absurd hx (by rw [show (nd ap3 1).ln = [] from rfl]; simp)
  · intro x hx; exact absurd hx (by rw [show (nd ap3 2).ln = [] from rfl]; simp)
theorem three_top {c : List Nd} {n : Nat} (hn : (nd c 0).ty = (n : Int)) (h1 : sub pairT n 3 = true) (h2 : sub pairT 3 n = true) : (nd c 0).ty = 3 := by
  have := sub_anti (gv_of ap3_ok).s.vt h1 h2
  rw [hn, this]; rfl
theorem a3_is {X : List Nd} (hX : GX pairT X) (h1 : Maps pairT ap3 X) (h2 : Maps pairT X ap3) : X.length = 3 ∧ (nd X 0).ty = 3 := by
  refine ⟨maps_len hX (gv_of ap3_ok).gx h2 h1, ?_⟩
  obtain ⟨φ, hφ⟩ := h1
  obtain ⟨ψ, hψ⟩ := h2
  have t1 := hφ.ty 0 (by decide)
  have t2 := hψ.ty 0 hX.pos
  rw [hφ.zero] at t1
  rw [hψ.zero] at t2
  have hr := hX.tr 0 hX.pos
  exact three_top (n := (nd X 0).ty.toNat) (by omega) t1 t2
theorem unia_any {w : World} {A B G1 G2 : Option Addr} (hTab : TabIn w) (hT : TypesIn w A pairT) (hF : FeatsIn w B pairF) (hG1 : NodesIn w G1 apartG) (hG2 : NodesIn w G2 single3) : Calls Tryd.prog 16 #[.agg #[.slice A 4 4, .slice B 2 2], .agg #[.slice G1 3 3], .agg #[.slice G2 1 1]] w fun e w' => (∃ GA X, e = .returned (.tuple #[.agg #[.slice GA 3 3], .bool true, .agg #[.int .i64 0, .int .i64 0]]) ∧ NodesIn w' GA X ∧ X.length = 3 ∧ (nd X 0).ty = 3) ∧ Bel w w' := by
  refine (unify_any A B G1 G2 4 2 3 1 pairT pairF apartG single3 w hTab hT hF hG1 hG2).mono fun e w' h => ?_
  obtain ⟨⟨GA, X, ok, f, he, hN, hU⟩, hs⟩ := h
  have h0 := two_mk apart_ok single3_ok
  have hga := gv_of apart_ok
  have hgb := gv_of single3_ok
  have hg3 := gv_of ap3_ok
  have key : ∀ {Y : List Nd}, UniR pairT (apartG ++ single3.map (shN apartG.length)) [(0, apartG.length)] Y → Y.length = 3 ∧ (nd Y 0).ty = 3 := fun hY =>
    have hl := uni_lub hga.gx hgb.gx hY
    a3_is hl.gx (a3_least hl.left hl.right) (hl.least ap3 hg3.gx.toGY maps_a3 maps_s3)
  rcases hU with ⟨h, _⟩ | ⟨_, _, _, _, h⟩ | ⟨_, _, _, _, Z, hZ, h6⟩ | ⟨_, rfl, rfl, hX, _⟩
  · exact absurd h0 h
  · exact absurd (pair_bound hg3.gx.toGY maps_a3 maps_s3 hga.gx.toGY hgb.gx.toGY) h
  · have := (key hZ).1; omega
  · obtain ⟨k1, k2⟩ := key hX
    rw [k1] at he
    exact ⟨⟨GA, X, he, hN _ (FrSame.refl _ _), k1, k2⟩, hs⟩

theorem fn22 : callable Tryd.prog 22 = true := by kernel_rfl
set_option maxHeartbeats 2000000 in
theorem unified_any (A B G1 G2 : Option Addr) (c d c1 c2 : Nat) (l : List Ty) (fs : List Ft) (ga gb : List Nd) (w : World) (hT : TypesIn w A l) (hG1 : NodesIn w G1 ga) (hG2 : NodesIn w G2 gb) (hva : GV l fs ga) (hvb : GV l fs gb) : Calls Tryd.prog 23 #[.agg #[.slice A l.length c, .slice B fs.length d], .agg #[.slice G1 ga.length c1], .agg #[.slice G2 gb.length c2]] w fun e w' => (∃ AX X cX ok, e = .returned (.tuple #[.agg #[.slice AX (List.length X) cX], .bool ok]) ∧ (∀ w2, FrSame w.heap.size w' w2 → NodesIn w2 AX X) ∧ ((ok = true ∧ UniR l (ga ++ gb.map (shN ga.length)) [(0, ga.length)] X) ∨ (ok = false ∧ X = [] ∧ ¬ Bound l (ga ++ gb.map (shN ga.length)) [(0, ga.length)]))) ∧ Bel w w' := by
 have hna := hva.gok.le
 have hnb := hvb.gok.le
 have hpa := hva.gok.pos
 have hfw := hva.few
 have hlv : (VA [ga, gb] 2).length = ga.length + gb.length := by rw [va_two]; simp
 refine enter Tryd.func23 Tryd.ntmps23 rfl (Nat.le_of_ble_eq_true rfl) ?_
 have hB : Bel w w := Below.refl _ _
 refine c_seq (c_region ?_)
 refine wl_bx (v := .agg #[_, _]) (cs := #[_, _]) rfl rfl (fun b3 w1 hb3 hs hr => ?_)
 have lo3 := Nat.le_trans (Bel.size hB) hr
 replace hB := hB.tr0 hs
 clear hs
 clear hr
 refine wl_bx (v := .agg #[_]) (cs := #[_]) rfl rfl (fun b4 w2 hb4 hs hr => ?_)
 have or_b3_b4 : b3 < b4 := Nat.lt_of_lt_of_le hb3.lt hr
 have lo4 := Nat.le_trans (Bel.size hB) hr
 replace hB := hB.tr0 hs
 replace hb3 := hb3.tr0 hs
 clear hs
 clear hr
 refine wl_bx (v := .agg #[_]) (cs := #[_]) rfl rfl (fun b5 w3 hb5 hs hr => ?_)
 have or_b3_b5 : b3 < b5 := Nat.lt_of_lt_of_le hb3.lt hr
 have or_b4_b5 : b4 < b5 := Nat.lt_of_lt_of_le hb4.lt hr
 have lo5 := Nat.le_trans (Bel.size hB) hr
 replace hB := hB.tr0 hs
 replace hb3 := hb3.tr0 hs
 replace hb4 := hb4.tr0 hs
 clear hs
 clear hr
 refine wl_al (cs := #[.slice none 0 0]) ze28_GTgt rfl (fun b6 w4 hb6 hs hr => ?_)
 have or_b3_b6 : b3 < b6 := Nat.lt_of_lt_of_le hb3.lt hr
 have or_b4_b6 : b4 < b6 := Nat.lt_of_lt_of_le hb4.lt hr
 have or_b5_b6 : b5 < b6 := Nat.lt_of_lt_of_le hb5.lt hr
 have lo6 := Nat.le_trans (Bel.size hB) hr
 replace hB := hB.tr0 hs
 replace hb3 := hb3.tr0 hs
 replace hb4 := hb4.tr0 hs
 replace hb5 := hb5.tr0 hs
 clear hs
 clear hr
 refine wl (r_as (v := .bool _) rfl) (x_nil (e_S (c_seq (c_region (wl (r_ldS Tryd.underlying25 rfl rfl hb3.range0 sz25_SFind) ?_)))))
 refine wl (r_ldS Tryd.underlying28 rfl rfl hb4.range0 sz28_GTgt) (wl (r_ldS Tryd.underlying28 rfl rfl hb5.range0 sz28_GTgt) ?_)
 refine wl_bs (cs := #[_, _]) [(0, .agg _), (1, .agg _)] rfl Tryd.underlying35 sz28_GTgt ze28_GTgt (by decide) (by decide) (by kernel_rfl) rfl (fun b11 w5 hb11 hs hr => ?_)
 have or_b3_b11 : b3 < b11 := Nat.lt_of_lt_of_le hb3.lt hr
 have or_b4_b11 : b4 < b11 := Nat.lt_of_lt_of_le hb4.lt hr
 have or_b5_b11 : b5 < b11 := Nat.lt_of_lt_of_le hb5.lt hr
 have or_b6_b11 : b6 < b11 := Nat.lt_of_lt_of_le hb6.lt hr
 have lo11 := Nat.le_trans (Bel.size hB) hr
 replace hB := hB.tr0 hs
 replace hb3 := hb3.tr0 hs
 replace hb4 := hb4.tr0 hs
 replace hb5 := hb5.tr0 hs
 replace hb6 := hb6.tr0 hs
 clear hs
 clear hr
 refine wl_bs (cs := #[_]) [(0, .int _ _)] rfl Tryd.underlying51 sz3_GLoose ze3_SFind (by decide) (by decide) (by kernel_rfl) rfl (fun b12 w6 hb12 hs hr => ?_)
 have or_b3_b12 : b3 < b12 := Nat.lt_of_lt_of_le hb3.lt hr
 have or_b4_b12 : b4 < b12 := Nat.lt_of_lt_of_le hb4.lt hr
 have or_b5_b12 : b5 < b12 := Nat.lt_of_lt_of_le hb5.lt hr
 have or_b6_b12 : b6 < b12 := Nat.lt_of_lt_of_le hb6.lt hr
 have or_b11_b12 : b11 < b12 := Nat.lt_of_lt_of_le hb11.lt hr
 have lo12 := Nat.le_trans (Bel.size hB) hr
 replace hB := hB.tr0 hs
 replace hb3 := hb3.tr0 hs
 replace hb4 := hb4.tr0 hs
 replace hb5 := hb5.tr0 hs
 replace hb6 := hb6.tr0 hs
 replace hb11 := hb11.tr0 hs
 clear hs
 clear hr
 have z6 := hb6.lt
 have hszv := Bel.size hB
 refine wl_cl fn22 (joined_any (nf := fs.length) A B (some ⟨b11, 0, none⟩) (some ⟨b12, 0, none⟩) c d 2 1 l fs [ga, gb] [0] _ (hT.mono hB) (grs_of_blk hb11 (.cons (hG1.mono hB) (.cons (hG2.mono hB) .nil)) (by show 2 ≤ maxI; decide)) (ints_of_blk [0] hb12 (by decide)) hva.s (fun i hi => by
    match i, hi with
    | 0, _ => exact hva.gx.toGY
    | 1, _ => exact hvb.gx.toGY) (fun i hi => by
    match i, hi with
    | 0, _ => exact gok_feat hva.gok
    | 1, _ => exact gok_feat hvb.gok) (by omega) (by show 2 ≤ 1000000; decide) (by show (VA [ga, gb] 2).length ≤ 1000000; omega) (by show 0 < 2; decide) (by show 1 < 2; decide) (fun k hk => by
    match k, hk with
    | 0, _ => exact hpa)) rfl (fun e' w7 hr => ?_)
 obtain ⟨⟨AX, X, cX, ok, rfl, hN, hcase⟩, hs⟩ := hr
 replace hs := Same.of_bel hs
 replace hB := hB.tr0 hs
 replace hb3 := hb3.tr0 hs
 replace hb4 := hb4.tr0 hs
 replace hb5 := hb5.tr0 hs
 replace hb6 := hb6.tr0 hs
 replace hb11 := hb11.tr0 hs
 replace hb12 := hb12.tr0 hs
 clear hs
 have hFr : FrSame (w6).heap.size w7 w7 := FrSame.refl _ _
 obtain ⟨Z0, hZ0⟩ : ∃ z, z = (w6).heap.size := ⟨_, rfl⟩
 rw [← hZ0] at hN hFr z6
 obtain ⟨wZ, hwZ⟩ : ∃ z, z = w7 := ⟨_, rfl⟩
 have hz0 : w.heap.size ≤ Z0 := by rw [hZ0]; exact hszv
 replace hFr : FrSame Z0 wZ w7 := by rw [hwZ]; exact FrSame.refl _ _
 rw [← hwZ] at hN
 replace hcase : (ok = true ∧ UniR l (ga ++ gb.map (shN ga.length)) [(0, ga.length)] X) ∨ (ok = false ∧ X = [] ∧ ¬ Bound l (ga ++ gb.map (shN ga.length)) [(0, ga.length)]) := by
   have h := hcase
   rw [pa_two, show VA [ga, gb] [ga, gb].length = (ga ++ gb.map (shN ga.length)) from va_two ga gb] at h
   exact h
 refine ⟨_, rfl, ?_⟩
 refine wl (r_ex (v := _) rfl rfl) (wl (r_ex (v := _) rfl rfl) ?_)
 refine wl_stW hb6 rfl rfl sz28_GTgt rfl oneA (fun w8 hq hs => ?_)
 replace hB := hB.tr1 hs lo6
 replace hb3 := hb3.tr1 hs (by omega)
 replace hb4 := hb4.tr1 hs (by omega)
 replace hb5 := hb5.tr1 hs (by omega)
 replace hb11 := hb11.tr1 hs (by omega)
 replace hb12 := hb12.tr1 hs (by omega)
 replace hFr := hFr.of hs (fun g hg => by rw [List.mem_singleton.1 hg]; omega)
 clear hs
 replace hb6 := hq
 refine wl (r_as (v := .bool _) rfl) (x_nil (e_S (c_ret (fin2 (.inl rfl) rfl (rr_cell Tryd.underlying28 rfl rfl hb6.range0 sz28_GTgt) rfl ?_))))
 exact ⟨⟨AX, X, cX, ok, rfl, fun w2 hf => hN w2 (hFr.then hf hz0), hcase⟩, hB⟩
end Go.Proofs.YteoncmfiiknfbaaDoor
namespace Go.Proofs.YteoncmfiiknfbaaDoor
open Go.RowKit

theorem fn17_UMat : callable Tryd.prog 17 = true := by kernel_rfl
theorem fn23 : callable Tryd.prog 23 = true := by kernel_rfl
set_option maxRecDepth 100000 in
set_option maxHeartbeats 8000000 in
theorem law29_any (A B G1 G2 : Option Addr) (c d c1 c2 : Nat) (l : List Ty) (fs : List Ft) (ga gb : List Nd) (w : World) (hTab : TabIn w) (hcl : l.length ≤ c) (hdl : fs.length ≤ d) (hT : TypesIn w A l) (hF : FeatsIn w B fs) (hG1 : NodesIn w G1 ga) (hG2 : NodesIn w G2 gb) : Calls Tryd.prog 8 #[.agg #[.slice A l.length c, .slice B fs.length d], .agg #[.slice G1 ga.length c1], .agg #[.slice G2 gb.length c2]] w fun e w' => e = .returned (.bool true) ∧ Bel w w' := by
 refine enter Tryd.func8 Tryd.ntmps8 rfl (Nat.le_of_ble_eq_true rfl) ?_
 have hB : Bel w w := Below.refl _ _
 refine c_seq (c_region ?_)
 refine wl_bx (v := .agg #[_, _]) (cs := #[_, _]) rfl rfl (fun b3 w1 hb3 hs hr => ?_)
 have lo3 := Nat.le_trans (Bel.size hB) hr
 replace hB := hB.tr0 hs
 clear hs
 clear hr
 refine wl_bx (v := .agg #[_]) (cs := #[_]) rfl rfl (fun b4 w2 hb4 hs hr => ?_)
 have or_b3_b4 : b3 < b4 := Nat.lt_of_lt_of_le hb3.lt hr
 have lo4 := Nat.le_trans (Bel.size hB) hr
 replace hB := hB.tr0 hs
 replace hb3 := hb3.tr0 hs
 clear hs
 clear hr
 refine wl_bx (v := .agg #[_]) (cs := #[_]) rfl rfl (fun b5 w3 hb5 hs hr => ?_)
 have or_b3_b5 : b3 < b5 := Nat.lt_of_lt_of_le hb3.lt hr
 have or_b4_b5 : b4 < b5 := Nat.lt_of_lt_of_le hb4.lt hr
 have lo5 := Nat.le_trans (Bel.size hB) hr
 replace hB := hB.tr0 hs
 replace hb3 := hb3.tr0 hs
 replace hb4 := hb4.tr0 hs
 clear hs
 clear hr
 refine wl (r_as (v := .bool _) rfl) (x_nil (e_S (c_seq (c_seq (c_region ?_)))))
 refine wl_cl fn10_UOrd (pair_any _) rfl (fun e' w4 hr => ?_)
 obtain ⟨⟨Ap, Bp, rfl, hTp, hFp⟩, hs⟩ := hr
 replace hs := Same.of_bel hs
 replace hB := hB.tr0 hs
 replace hb3 := hb3.tr0 hs
 replace hb4 := hb4.tr0 hs
 replace hb5 := hb5.tr0 hs
 clear hs
 have hB0 : Bel w4 w4 := Below.refl _ _
 refine ⟨_, rfl, ?_⟩
 refine wl_cl fn12 (apart_any _) rfl (fun e' w5 hr => ?_)
 obtain ⟨⟨Ga, rfl, hGa⟩, hs⟩ := hr
 replace hs := Same.of_bel hs
 replace hB := hB.tr0 hs
 replace hb3 := hb3.tr0 hs
 replace hb4 := hb4.tr0 hs
 replace hb5 := hb5.tr0 hs
 replace hB0 := hB0.tr0 hs
 clear hs
 have hB1 : Bel w5 w5 := Below.refl _ _
 refine ⟨_, rfl, ?_⟩
 refine wl_cl fn17_UMat (single_any 3 _) rfl (fun e' w6 hr => ?_)
 obtain ⟨⟨Gz, rfl, hGz⟩, hs⟩ := hr
 replace hs := Same.of_bel hs
 replace hB := hB.tr0 hs
 replace hb3 := hb3.tr0 hs
 replace hb4 := hb4.tr0 hs
 replace hb5 := hb5.tr0 hs
 replace hB0 := hB0.tr0 hs
 replace hB1 := hB1.tr0 hs
 clear hs
 have hB2 : Bel w6 w6 := Below.refl _ _
 refine ⟨_, rfl, ?_⟩
 refine wl_cl fn16_UOrd (unia_any (hTab.mono hB) (hTp.mono hB0) (hFp.mono hB0) (hGa.mono hB1) (hGz.mono hB2)) rfl (fun e' w7 hr => ?_)
 obtain ⟨⟨GW, XW, rfl, hGW, hlW, htW⟩, hs⟩ := hr
 replace hs := Same.of_bel hs
 replace hB := hB.tr0 hs
 replace hb3 := hb3.tr0 hs
 replace hb4 := hb4.tr0 hs
 replace hb5 := hb5.tr0 hs
 replace hB0 := hB0.tr0 hs
 replace hB1 := hB1.tr0 hs
 replace hB2 := hB2.tr0 hs
 clear hs
 have hBW : Bel w7 w7 := Below.refl _ _
 obtain ⟨xb, xo, XA, xc, rfl, hxb, hxr, _⟩ := hGW.at_ (k := 0) (Below.refl _ _ : Bel w7 w7) (by omega)
 rw [← nd_eq, htW] at hxr
 refine ⟨_, rfl, ?_⟩
 refine wl (r_mv (v := .tuple _) rfl) (wl (r_ex (v := _) rfl rfl) (wl (r_ex (v := _) rfl rfl) (wl (r_ex (v := _) rfl rfl) ?_)))
 refine wl_al (cs := #[.slice none 0 0]) ze28_GTgt rfl (fun b7 w8 hb7 hs hr => ?_)
 have or_b3_b7 : b3 < b7 := Nat.lt_of_lt_of_le hb3.lt hr
 have or_b4_b7 : b4 < b7 := Nat.lt_of_lt_of_le hb4.lt hr
 have or_b5_b7 : b5 < b7 := Nat.lt_of_lt_of_le hb5.lt hr
 have lo7 := Nat.le_trans (Bel.size hB) hr
 have lo_hBW_b7 := Nat.le_trans (Bel.size hBW) hr
 replace hB := hB.tr0 hs
 replace hb3 := hb3.tr0 hs
 replace hb4 := hb4.tr0 hs
 replace hb5 := hb5.tr0 hs
 replace hBW := hBW.tr0 hs
 clear hs
 clear hr
 refine wl_al (cs := #[.int .i64 0, .int .i64 0]) ze30_GLoose rfl (fun b9 w9 hb9 hs hr => ?_)
 have or_b3_b9 : b3 < b9 := Nat.lt_of_lt_of_le hb3.lt hr
 have or_b4_b9 : b4 < b9 := Nat.lt_of_lt_of_le hb4.lt hr
 have or_b5_b9 : b5 < b9 := Nat.lt_of_lt_of_le hb5.lt hr
 have or_b7_b9 : b7 < b9 := Nat.lt_of_lt_of_le hb7.lt hr
 have lo9 := Nat.le_trans (Bel.size hB) hr
 have lo_hBW_b9 := Nat.le_trans (Bel.size hBW) hr
 replace hB := hB.tr0 hs
 replace hb3 := hb3.tr0 hs
 replace hb4 := hb4.tr0 hs
 replace hb5 := hb5.tr0 hs
 replace hBW := hBW.tr0 hs
 replace hb7 := hb7.tr0 hs
 clear hs
 clear hr
 refine wl_stW hb7 rfl rfl sz28_GTgt rfl oneA (fun w10 hq hs => ?_)
 replace hB := hB.tr1 hs lo7
 replace hb3 := hb3.tr1 hs (by omega)
 replace hb4 := hb4.tr1 hs (by omega)
 replace hb5 := hb5.tr1 hs (by omega)
 replace hBW := hBW.tr1 hs lo_hBW_b7
 replace hb9 := hb9.tr1 hs (by omega)
 clear hs
 replace hb7 := hq
 refine wl (r_as (v := .bool _) rfl) ?_
 refine wl_stW hb9 rfl rfl sz30_GLoose rfl oneA (fun w11 hq hs => ?_)
 replace hB := hB.tr1 hs lo9
 replace hb3 := hb3.tr1 hs (by omega)
 replace hb4 := hb4.tr1 hs (by omega)
 replace hb5 := hb5.tr1 hs (by omega)
 replace hBW := hBW.tr1 hs lo_hBW_b9
 replace hb7 := hb7.tr1 hs (by omega)
 clear hs
 replace hb9 := hq
 refine x_nil (e_S (c_seq (c_region (wl (r_mv (v := .bool _) rfl) (wl (r_not rfl) ?_)))))
 refine wl (r_mv (v := .bool false) rfl) (wl_gd 26 rfl rfl (wl (r_fa Tryd.underlying28 sz26_GTgt (by decide) rfl rfl rfl) (wl_gd 26 rfl rfl (wl (r_ld1 (v := .slice _ _ _) Tryd.underlying26 rfl rfl (hb7.cell rfl)) (wl_gd 26 rfl rfl ?_)))))
 refine wl (r_len Tryd.underlying26 rfl) (wl_gd 26 rfl rfl (wl (r_neq rfl rfl) (wl (r_pf (v := .bool _) rfl rfl) (wl (r_mv (v := .bool false) (congrArg Value.bool (decide_eq_false (by decide)))) (wl_gd 32 rfl rfl ?_)))))
 refine wl (r_fa Tryd.underlying28 sz26_GTgt (by decide) rfl rfl rfl) (wl_gd 32 rfl rfl (wl (r_ld1 (v := .slice _ _ _) Tryd.underlying26 rfl rfl (hb7.cell rfl)) (wl_gd 32 rfl rfl (wl (r_ia (i := 0) Tryd.underlying26 sz55_GTgt rfl rfl (by decide) rfl) (wl_gd 32 rfl rfl ?_)))))
 refine wl (r_fa Tryd.underlying55 sz3_GLoose (by decide) rfl rfl rfl) (wl_gd 32 rfl rfl (wl (r_ld1 (v := .int _ _) Tryd.underlying3 rfl rfl (hBW.cell hxb (hxr 0 _ rfl))) (wl_gd 32 rfl rfl (wl (r_neq rfl rfl) (wl (r_pf (v := .bool _) rfl rfl) ?_)))))
 refine x_nil (e_S ?_)
 refine c_ifd rfl (fun c39 => ?_) (fun c39 => ?_)
 ·
  exact absurd c39 (by decide)
 refine c_skip (e_S (c_seq (c_region (wl (r_ldS Tryd.underlying25 rfl rfl hb3.range0 sz25_SFind) (wl (r_ldS Tryd.underlying28 rfl rfl hb4.range0 sz28_GTgt) ?_)))))
 refine wl (r_ldS Tryd.underlying28 rfl rfl hb5.range0 sz28_GTgt) ?_
 refine wl_cl fn16_UOrd (unify_any A B G1 G2 c d c1 c2 l fs ga gb _ (hTab.mono hB) (hT.mono hB) (hF.mono hB) (hG1.mono hB) (hG2.mono hB)) rfl (fun e' w12 hr => ?_)
 obtain ⟨⟨AU, XU, okU, fU, rfl, hNU, hUU⟩, hs⟩ := hr
 replace hs := Same.of_bel hs
 replace hB := hB.tr0 hs
 replace hb3 := hb3.tr0 hs
 replace hb4 := hb4.tr0 hs
 replace hb5 := hb5.tr0 hs
 replace hBW := hBW.tr0 hs
 replace hb7 := hb7.tr0 hs
 replace hb9 := hb9.tr0 hs
 clear hs
 replace hNU := hNU w12 (FrSame.refl _ _)
 have hBuU : Bel w12 w12 := Below.refl _ _
 refine ⟨_, rfl, ?_⟩
 refine wl (r_mv (v := .tuple _) rfl) (wl (r_ex (v := _) rfl rfl) (wl (r_ex (v := _) rfl rfl) (wl (r_ex (v := _) rfl rfl) ?_)))
 refine wl_al (cs := #[.slice none 0 0]) ze28_GTgt rfl (fun b10 w13 hb10 hs hr => ?_)
 have or_b3_b10 : b3 < b10 := Nat.lt_of_lt_of_le hb3.lt hr
 have or_b4_b10 : b4 < b10 := Nat.lt_of_lt_of_le hb4.lt hr
 have or_b5_b10 : b5 < b10 := Nat.lt_of_lt_of_le hb5.lt hr
 have or_b7_b10 : b7 < b10 := Nat.lt_of_lt_of_le hb7.lt hr
 have or_b9_b10 : b9 < b10 := Nat.lt_of_lt_of_le hb9.lt hr
 have lo10 := Nat.le_trans (Bel.size hB) hr
 have lo_hBW_b10 := Nat.le_trans (Bel.size hBW) hr
 have lo_hBuU_b10 := Nat.le_trans (Bel.size hBuU) hr
 replace hB := hB.tr0 hs
 replace hb3 := hb3.tr0 hs
 replace hb4 := hb4.tr0 hs
 replace hb5 := hb5.tr0 hs
 replace hBW := hBW.tr0 hs
 replace hb7 := hb7.tr0 hs
 replace hb9 := hb9.tr0 hs
 replace hBuU := hBuU.tr0 hs
 clear hs
 clear hr
 refine wl_al (cs := #[.int .i64 0, .int .i64 0]) ze30_GLoose rfl (fun b12 w14 hb12 hs hr => ?_)
 have or_b3_b12 : b3 < b12 := Nat.lt_of_lt_of_le hb3.lt hr
 have or_b4_b12 : b4 < b12 := Nat.lt_of_lt_of_le hb4.lt hr
 have or_b5_b12 : b5 < b12 := Nat.lt_of_lt_of_le hb5.lt hr
 have or_b7_b12 : b7 < b12 := Nat.lt_of_lt_of_le hb7.lt hr
 have or_b9_b12 : b9 < b12 := Nat.lt_of_lt_of_le hb9.lt hr
 have or_b10_b12 : b10 < b12 := Nat.lt_of_lt_of_le hb10.lt hr
 have lo12 := Nat.le_trans (Bel.size hB) hr
 have lo_hBW_b12 := Nat.le_trans (Bel.size hBW) hr
 have lo_hBuU_b12 := Nat.le_trans (Bel.size hBuU) hr
 replace hB := hB.tr0 hs
 replace hb3 := hb3.tr0 hs
 replace hb4 := hb4.tr0 hs
 replace hb5 := hb5.tr0 hs
 replace hBW := hBW.tr0 hs
 replace hb7 := hb7.tr0 hs
 replace hb9 := hb9.tr0 hs
 replace hBuU := hBuU.tr0 hs
 replace hb10 := hb10.tr0 hs
 clear hs
 clear hr
 refine wl_stW hb10 rfl rfl sz28_GTgt rfl oneA (fun w15 hq hs => ?_)
 replace hB := hB.tr1 hs lo10
 replace hb3 := hb3.tr1 hs (by omega)
 replace hb4 := hb4.tr1 hs (by omega)
 replace hb5 := hb5.tr1 hs (by omega)
 replace hBW := hBW.tr1 hs lo_hBW_b10
 replace hb7 := hb7.tr1 hs (by omega)
 replace hb9 := hb9.tr1 hs (by omega)
 replace hBuU := hBuU.tr1 hs lo_hBuU_b10
 replace hb12 := hb12.tr1 hs (by omega)
 clear hs
 replace hb10 := hq
 refine wl (r_as (v := .bool _) rfl) ?_
 refine wl_stW hb12 rfl rfl sz30_GLoose rfl oneA (fun w16 hq hs => ?_)
 replace hB := hB.tr1 hs lo12
 replace hb3 := hb3.tr1 hs (by omega)
 replace hb4 := hb4.tr1 hs (by omega)
 replace hb5 := hb5.tr1 hs (by omega)
 replace hBW := hBW.tr1 hs lo_hBW_b12
 replace hb7 := hb7.tr1 hs (by omega)
 replace hb9 := hb9.tr1 hs (by omega)
 replace hBuU := hBuU.tr1 hs lo_hBuU_b12
 replace hb10 := hb10.tr1 hs (by omega)
 clear hs
 replace hb12 := hq
 refine x_nil (e_S (c_seq (c_seq (c_region (wl (r_ldS Tryd.underlying25 rfl rfl hb3.range0 sz25_SFind) ?_)))))
 refine wl (r_ldS Tryd.underlying28 rfl rfl hb4.range0 sz28_GTgt) (wl (r_ldS Tryd.underlying28 rfl rfl hb5.range0 sz28_GTgt) ?_)
 refine wl_cl fn14_UOrd (twof_any A B G1 G2 c d c1 c2 l fs ga gb _ hcl hdl (hT.mono hB) (hF.mono hB) (hG1.mono hB) (hG2.mono hB)) rfl (fun e' w17 hr => ?_)
 obtain ⟨rfl, hs⟩ := hr
 replace hs := Same.of_bel hs
 replace hB := hB.tr0 hs
 replace hb3 := hb3.tr0 hs
 replace hb4 := hb4.tr0 hs
 replace hb5 := hb5.tr0 hs
 replace hBW := hBW.tr0 hs
 replace hb7 := hb7.tr0 hs
 replace hb9 := hb9.tr0 hs
 replace hBuU := hBuU.tr0 hs
 replace hb10 := hb10.tr0 hs
 replace hb12 := hb12.tr0 hs
 clear hs
 refine ⟨_, rfl, ?_⟩
 refine wl_al (cs := #[.int .i64 0, .int .i64 0]) ze30_GLoose rfl (fun b13 w18 hb13 hs hr => ?_)
 have or_b3_b13 : b3 < b13 := Nat.lt_of_lt_of_le hb3.lt hr
 have or_b4_b13 : b4 < b13 := Nat.lt_of_lt_of_le hb4.lt hr
 have or_b5_b13 : b5 < b13 := Nat.lt_of_lt_of_le hb5.lt hr
 have or_b7_b13 : b7 < b13 := Nat.lt_of_lt_of_le hb7.lt hr
 have or_b9_b13 : b9 < b13 := Nat.lt_of_lt_of_le hb9.lt hr
 have or_b10_b13 : b10 < b13 := Nat.lt_of_lt_of_le hb10.lt hr
 have or_b12_b13 : b12 < b13 := Nat.lt_of_lt_of_le hb12.lt hr
 have lo13 := Nat.le_trans (Bel.size hB) hr
 have lo_hBW_b13 := Nat.le_trans (Bel.size hBW) hr
 have lo_hBuU_b13 := Nat.le_trans (Bel.size hBuU) hr
 replace hB := hB.tr0 hs
 replace hb3 := hb3.tr0 hs
 replace hb4 := hb4.tr0 hs
 replace hb5 := hb5.tr0 hs
 replace hBW := hBW.tr0 hs
 replace hb7 := hb7.tr0 hs
 replace hb9 := hb9.tr0 hs
 replace hBuU := hBuU.tr0 hs
 replace hb10 := hb10.tr0 hs
 replace hb12 := hb12.tr0 hs
 clear hs
 clear hr
 refine wl_stW hb13 rfl rfl sz30_GLoose rfl oneA (fun w19 hq hs => ?_)
 replace hB := hB.tr1 hs lo13
 replace hb3 := hb3.tr1 hs (by omega)
 replace hb4 := hb4.tr1 hs (by omega)
 replace hb5 := hb5.tr1 hs (by omega)
 replace hBW := hBW.tr1 hs lo_hBW_b13
 replace hb7 := hb7.tr1 hs (by omega)
 replace hb9 := hb9.tr1 hs (by omega)
 replace hBuU := hBuU.tr1 hs lo_hBuU_b13
 replace hb10 := hb10.tr1 hs (by omega)
 replace hb12 := hb12.tr1 hs (by omega)
 clear hs
 replace hb13 := hq
 refine x_nil (e_S (c_seq (c_region (wl (r_fa Tryd.underlying30 sz3_GLoose (by decide) rfl rfl rfl) (wl (r_ld1 (v := .int _ _) Tryd.underlying3 rfl rfl (hb13.cell rfl)) ?_)))))
 refine wl (r_neq rfl rfl) (x_nil (e_S ?_))
 refine c_ifd rfl (fun c54 => ?_) (fun c54 => ?_)
 ·
  obtain ⟨rfl, rfl, rfl⟩ := un_bad c54 hUU
  refine c_seq (c_region (wl (r_ldS Tryd.underlying30 rfl rfl hb12.range0 sz30_GLoose) (wl (r_ldS Tryd.underlying30 rfl rfl hb13.range0 sz30_GLoose) (wl (r_eqF Tryd.eqGuardType30 ft30 Tryd.stoodInHeld30 fd30 Tryd.underlying3 rfl rfl) (wl (r_mv (v := .bool true) (congrArg Value.bool (decide_eq_true ⟨rfl, rfl⟩))) ?_)))))
  refine wl_gd 58 rfl rfl (wl (r_mv (v := .bool _) rfl) (wl_gd 58 rfl rfl (wl (r_not rfl) (wl (r_pt (v := .bool _) rfl rfl) (wl (r_mv (v := .bool true) rfl) ?_)))))
  refine wl_gd 62 rfl rfl (wl (r_fa Tryd.underlying28 sz26_GTgt (by decide) rfl rfl rfl) (wl_gd 62 rfl rfl (wl (r_ld1 (v := .slice _ _ _) Tryd.underlying26 rfl rfl (hb10.cell rfl)) (wl_gd 62 rfl rfl (wl (r_len Tryd.underlying26 rfl) ?_)))))
  refine wl_gd 62 rfl rfl (wl (r_eql rfl rfl) (wl (r_pt (v := .bool _) rfl rfl) (wl (r_as (v := .bool true) (congrArg Value.bool (decide_eq_true rfl))) (x_nil (e_S ?_)))))
  refine c_ret (e_Sr (fin1 (.inl rfl) rfl rfl ?_))
  exact ⟨rfl, hB⟩
 have h0 := Decidable.not_not.1 c54
 obtain ⟨⟨hva, hvb⟩, hga0, hgb0⟩ := two_gv h0
 refine c_skip (e_S (c_seq (c_region (wl (r_ldS Tryd.underlying25 rfl rfl hb3.range0 sz25_SFind) (wl (r_ldS Tryd.underlying28 rfl rfl hb4.range0 sz28_GTgt) ?_)))))
 refine wl (r_ldS Tryd.underlying28 rfl rfl hb5.range0 sz28_GTgt) ?_
 refine wl_cl fn23 (unified_any A B G1 G2 c d c1 c2 l fs ga gb _ (hT.mono hB) (hG1.mono hB) (hG2.mono hB) hva hvb) rfl (fun e' w20 hr => ?_)
 obtain ⟨⟨AR, XR, cR, okR, rfl, hNR, hcase⟩, hs⟩ := hr
 replace hs := Same.of_bel hs
 replace hB := hB.tr0 hs
 replace hb3 := hb3.tr0 hs
 replace hb4 := hb4.tr0 hs
 replace hb5 := hb5.tr0 hs
 replace hBW := hBW.tr0 hs
 replace hb7 := hb7.tr0 hs
 replace hb9 := hb9.tr0 hs
 replace hBuU := hBuU.tr0 hs
 replace hb10 := hb10.tr0 hs
 replace hb12 := hb12.tr0 hs
 replace hb13 := hb13.tr0 hs
 clear hs
 replace hNR := hNR w20 (FrSame.refl _ _)
 have hBR : Bel w20 w20 := Below.refl _ _
 obtain ⟨hr1, hr2, hr3⟩ := un_ref h0 hUU hcase
 refine ⟨_, rfl, ?_⟩
 refine wl (r_mv (v := .tuple _) rfl) (wl (r_ex (v := _) rfl rfl) (wl (r_ex (v := _) rfl rfl) ?_))
 refine wl_al (cs := #[.slice none 0 0]) ze28_GTgt rfl (fun b14 w21 hb14 hs hr => ?_)
 have or_b3_b14 : b3 < b14 := Nat.lt_of_lt_of_le hb3.lt hr
 have or_b4_b14 : b4 < b14 := Nat.lt_of_lt_of_le hb4.lt hr
 have or_b5_b14 : b5 < b14 := Nat.lt_of_lt_of_le hb5.lt hr
 have or_b7_b14 : b7 < b14 := Nat.lt_of_lt_of_le hb7.lt hr
 have or_b9_b14 : b9 < b14 := Nat.lt_of_lt_of_le hb9.lt hr
 have or_b10_b14 : b10 < b14 := Nat.lt_of_lt_of_le hb10.lt hr
 have or_b12_b14 : b12 < b14 := Nat.lt_of_lt_of_le hb12.lt hr
 have or_b13_b14 : b13 < b14 := Nat.lt_of_lt_of_le hb13.lt hr
 have lo14 := Nat.le_trans (Bel.size hB) hr
 have lo_hBW_b14 := Nat.le_trans (Bel.size hBW) hr
 have lo_hBuU_b14 := Nat.le_trans (Bel.size hBuU) hr
 have lo_hBR_b14 := Nat.le_trans (Bel.size hBR) hr
 replace hB := hB.tr0 hs
 replace hb3 := hb3.tr0 hs
 replace hb4 := hb4.tr0 hs
 replace hb5 := hb5.tr0 hs
 replace hBW := hBW.tr0 hs
 replace hb7 := hb7.tr0 hs
 replace hb9 := hb9.tr0 hs
 replace hBuU := hBuU.tr0 hs
 replace hb10 := hb10.tr0 hs
 replace hb12 := hb12.tr0 hs
 replace hb13 := hb13.tr0 hs
 replace hBR := hBR.tr0 hs
 clear hs
 clear hr
 refine wl_stW hb14 rfl rfl sz28_GTgt rfl oneA (fun w22 hq hs => ?_)
 replace hB := hB.tr1 hs lo14
 replace hb3 := hb3.tr1 hs (by omega)
 replace hb4 := hb4.tr1 hs (by omega)
 replace hb5 := hb5.tr1 hs (by omega)
 replace hBW := hBW.tr1 hs lo_hBW_b14
 replace hb7 := hb7.tr1 hs (by omega)
 replace hb9 := hb9.tr1 hs (by omega)
 replace hBuU := hBuU.tr1 hs lo_hBuU_b14
 replace hb10 := hb10.tr1 hs (by omega)
 replace hb12 := hb12.tr1 hs (by omega)
 replace hb13 := hb13.tr1 hs (by omega)
 replace hBR := hBR.tr1 hs lo_hBR_b14
 clear hs
 replace hb14 := hq
 refine wl (r_as (v := .bool _) rfl) (x_nil (e_S (c_seq (c_seq (c_region ?_)))))
 refine wl (r_mv (v := .bool _) rfl) (wl (r_not rfl) (x_nil (e_S ?_)))
 refine c_if rfl (fun c76 => ?_) (fun c76 => ?_)
 ·
  have hokR : okR = false := by simpa using c76
  obtain ⟨rfl, rfl, rfl⟩ := hr1 hokR
  refine c_seq (c_region (wl (r_fa Tryd.underlying30 sz3_GLoose (by decide) rfl rfl rfl) (wl (r_ld1 (v := .int _ _) Tryd.underlying3 rfl rfl (hb12.cell rfl)) (wl (r_eql rfl rfl) (wl (r_mv (v := .bool true) (congrArg Value.bool (decide_eq_true rfl))) ?_)))))
  refine wl_gd 80 rfl rfl (wl (r_mv (v := .bool _) rfl) (wl_gd 80 rfl rfl (wl (r_not rfl) (wl (r_pt (v := .bool _) rfl rfl) (wl (r_mv (v := .bool true) rfl) ?_)))))
  refine wl_gd 84 rfl rfl (wl (r_fa Tryd.underlying28 sz26_GTgt (by decide) rfl rfl rfl) (wl_gd 84 rfl rfl (wl (r_ld1 (v := .slice _ _ _) Tryd.underlying26 rfl rfl (hb10.cell rfl)) (wl_gd 84 rfl rfl (wl (r_len Tryd.underlying26 rfl) ?_)))))
  refine wl_gd 84 rfl rfl (wl (r_eql rfl rfl) (wl (r_pt (v := .bool _) rfl rfl) (wl (r_as (v := .bool true) (congrArg Value.bool (decide_eq_true rfl))) (x_nil (e_S ?_)))))
  refine c_ret (e_Sr (fin1 (.inl rfl) rfl rfl ?_))
  exact ⟨rfl, hB⟩
 have hokR : okR = true := by simpa using c76
 refine c_skip (e_S (c_seq (c_seq (c_region (wl (r_fa Tryd.underlying28 sz26_GTgt (by decide) rfl rfl rfl) ?_)))))
 refine wl (r_ld1 (v := .slice _ _ _) Tryd.underlying26 rfl rfl (hb14.cell rfl)) (wl (r_len Tryd.underlying26 rfl) (wl (r_gtr rfl rfl) (x_nil (e_S ?_))))
 refine c_ifd rfl (fun c93 => ?_) (fun c93 => ?_)
 ·
  have h60 : 60 < XR.length := by omega
  obtain ⟨rfl, rfl, rfl⟩ := hr2 hokR h60
  refine c_seq (c_region (wl (r_ldS Tryd.underlying30 rfl rfl hb12.range0 sz30_GLoose) (wl (r_bd2 (v0 := .int _ _) (v1 := .int _ _) (fun v0 v1 => #[v0, v1]) rfl rfl (by kernel_rfl)) (wl (r_eqF Tryd.eqGuardType30 ft30 Tryd.stoodInHeld30 fd30 Tryd.underlying3 rfl rfl) (wl (r_mv (v := .bool true) (congrArg Value.bool (decide_eq_true ⟨rfl, rfl⟩))) ?_)))))
  refine wl_gd 97 rfl rfl (wl (r_mv (v := .bool _) rfl) (wl_gd 97 rfl rfl (wl (r_not rfl) (wl (r_pt (v := .bool _) rfl rfl) (wl (r_mv (v := .bool true) rfl) ?_)))))
  refine wl_gd 101 rfl rfl (wl (r_fa Tryd.underlying28 sz26_GTgt (by decide) rfl rfl rfl) (wl_gd 101 rfl rfl (wl (r_ld1 (v := .slice _ _ _) Tryd.underlying26 rfl rfl (hb10.cell rfl)) (wl_gd 101 rfl rfl (wl (r_len Tryd.underlying26 rfl) ?_)))))
  refine wl_gd 101 rfl rfl (wl (r_eql rfl rfl) (wl (r_pt (v := .bool _) rfl rfl) (wl (r_as (v := .bool true) (congrArg Value.bool (decide_eq_true rfl))) (x_nil (e_S ?_)))))
  refine c_ret (e_Sr (fin1 (.inl rfl) rfl rfl ?_))
  exact ⟨rfl, hB⟩
 have h60 : XR.length ≤ 60 := by omega
 obtain ⟨rfl, rfl, rfl⟩ := hr3 hokR h60
 refine c_skip (e_S (c_seq (c_region (wl (r_fa Tryd.underlying30 sz3_GLoose (by decide) rfl rfl rfl) (wl (r_ld1 (v := .int _ _) Tryd.underlying3 rfl rfl (hb12.cell rfl)) ?_)))))
 refine wl (r_eql rfl rfl) (wl (r_mv (v := .bool true) (congrArg Value.bool (decide_eq_true rfl))) (wl_gd 110 rfl rfl (wl (r_mv (v := .bool _) rfl) (wl (r_pt (v := .bool _) rfl rfl) (wl (r_mv (v := .bool true) rfl) ?_)))))
 refine wl_gd 113 rfl rfl (wl (r_ldS Tryd.underlying28 rfl rfl hb10.range0 sz28_GTgt) (wl_gd 113 rfl rfl (wl (r_ldS Tryd.underlying28 rfl rfl hb14.range0 sz28_GTgt) (wl_gd 113 rfl rfl ?_))))
 refine wl_cl fn13_UOrd (same_any AU AR _ _ _ _ _ _ _ (hNU.mono hBuU) (hNR.mono hBR) rfl rfl rfl) rfl (fun e' w23 hr => ?_)
 obtain ⟨rfl, hs⟩ := hr
 replace hs := Same.of_bel hs
 replace hB := hB.tr0 hs
 replace hb3 := hb3.tr0 hs
 replace hb4 := hb4.tr0 hs
 replace hb5 := hb5.tr0 hs
 replace hBW := hBW.tr0 hs
 replace hb7 := hb7.tr0 hs
 replace hb9 := hb9.tr0 hs
 replace hBuU := hBuU.tr0 hs
 replace hb10 := hb10.tr0 hs
 replace hb12 := hb12.tr0 hs
 replace hb13 := hb13.tr0 hs
 replace hBR := hBR.tr0 hs
 replace hb14 := hb14.tr0 hs
 clear hs
 refine ⟨_, rfl, ?_⟩
 refine wl (r_pt (v := .bool _) rfl rfl) (wl (r_as (v := .bool _) rfl) (x_nil (e_S (c_ret (fin1 (.inl rfl) rfl rfl ?_)))))
 exact ⟨rfl, hB⟩
end Go.Proofs.YteoncmfiiknfbaaDoor
namespace Go.Proofs.YteoncmfiiknfbaaDoor
open Go.RowKit Go.ChangeShapes Go.WideShapes Go.Deep Go.Joins
section
variable {H : Type} {enc : TypeId × Value → H} {P : Program} {w : World} {base : Nat} {spare : Nat → Bool} {held : Bool}
theorem links_open {t e ti : TypeId} {f0 f1 : Field} {fuel : Nat} {v : Value} {x : DataW H × List MemPlace} (ht : P.underlying t = some (.slice e)) (he : P.underlying e = some (.struct #[f0, f1])) (hsz : P.cellsOf e = 2) (o0 : f0.offset = 0) (o1 : f1.offset = 1) (e0 : f0.type = ti) (e1 : f1.type = ti)
    (hi : P.underlying ti = some (.int .i64)) (hc1 : P.cellsOf ti = 1) (h : DataW.trod enc P w base spare held fuel t [v] = some x) :
    ∃ A xs c, v = .slice A (List.length xs) c ∧ xs.length ≤ c ∧ LinksIn w A xs := by
  obtain ⟨A, len, c, rfl, hl, hm, hx⟩ := sl_open ht hsz (by decide) h
  by_cases h0 : len = 0
  · subst h0
    exact ⟨A, [], c, rfl, Nat.zero_le _, Nat.zero_le _, fun h => absurd rfl h⟩
  · obtain ⟨b, o, rfl, hlt, hc⟩ := hx h0
    obtain ⟨xs, hxl, hxs⟩ := choose_list (p := fun i (z : Int × Int) => w.rangeAt b (o + i * 2) [.int .i64 z.1, .int .i64 z.2]) (n := len) (fun i hi' => by
      obtain ⟨cs, k, y, h1, h2, h3⟩ := hc i hi'
      obtain ⟨v0, v1, n, y0, y1, rfl, g0, g1⟩ := two_cells he h1 o0 o1 (by rw [e0]; exact hc1) (by rw [e1]; exact hc1) h3
      rw [e0] at g0
      rw [e1] at g1
      obtain ⟨z1, h5, _, _⟩ := DataW.trod_int hi g0
      obtain ⟨z2, h6, _, _⟩ := DataW.trod_int hi g1
      rw [one_val h5, one_val h6] at h2
      exact ⟨(z1, z2), h2⟩)
    subst hxl
    exact ⟨_, xs, c, rfl, hl, Nat.le_trans hl hm, fun _ => ⟨b, o, rfl, hlt, hxs⟩⟩
theorem nodes_open {t e ti tl te : TypeId} {f0 f1 g0 g1 : Field} {fuel : Nat} {v : Value} {x : DataW H × List MemPlace} (ht : P.underlying t = some (.slice e)) (he : P.underlying e = some (.struct #[f0, f1])) (hsz : P.cellsOf e = 2) (o0 : f0.offset = 0) (o1 : f1.offset = 1) (e0 : f0.type = ti) (e1 : f1.type = tl)
    (htl : P.underlying tl = some (.slice te)) (hte : P.underlying te = some (.struct #[g0, g1])) (hst : P.cellsOf te = 2) (p0 : g0.offset = 0) (p1 : g1.offset = 1) (d0 : g0.type = ti) (d1 : g1.type = ti) (hcl : P.cellsOf tl = 1)
    (hi : P.underlying ti = some (.int .i64)) (hc1 : P.cellsOf ti = 1) (h : DataW.trod enc P w base spare held fuel t [v] = some x) :
    ∃ A gr c, v = .slice A (List.length gr) c ∧ gr.length ≤ c ∧ NodesIn w A gr := by
  obtain ⟨A, len, c, rfl, hl, hm, hx⟩ := sl_open ht hsz (by decide) h
  by_cases h0 : len = 0
  · subst h0
    exact ⟨A, [], c, rfl, Nat.zero_le _, Nat.zero_le _, fun h => absurd rfl h⟩
  · obtain ⟨b, o, rfl, hlt, hc⟩ := hx h0
    obtain ⟨gr, hxl, hxs⟩ := choose_list (p := fun i (z : Nd) => NdIn w b (o + i * 2) z) (n := len) (fun i hi' => by
      obtain ⟨cs, k, y, h1, h2, h3⟩ := hc i hi'
      obtain ⟨v0, v1, n, y0, y1, rfl, q0, q1⟩ := two_cells he h1 o0 o1 (by rw [e0]; exact hc1) (by rw [e1]; exact hcl) h3
      rw [e0] at q0
      rw [e1] at q1
      obtain ⟨z1, h5, _, _⟩ := DataW.trod_int hi q0
      obtain ⟨A', xs, c', rfl, _, hin⟩ := links_open htl hte hst p0 p1 d0 d1 hi hc1 q1
      rw [one_val h5] at h2
      exact ⟨⟨z1, xs⟩, A', c', h2, hin⟩)
    subst hxl
    exact ⟨_, gr, c, rfl, hl, Nat.le_trans hl hm, fun _ => ⟨b, o, rfl, hlt, hxs⟩⟩
end
end Go.Proofs.YteoncmfiiknfbaaDoor
