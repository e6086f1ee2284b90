/- What these functions of the program compute, at every world: glosswright/glosswrightlaw3.pairOf, glosswright/glosswrightlaw3.GraphValidateMatchesSpec. -/
import Derived.Test.YtdegobbnidddjaaDoorGVal
namespace Go.Proofs.YtdegobbnidddjaaDoor
open Go.RowKit

theorem ints_of_blk {w : World} {b t : Nat} (xs : List Int) (h : Blk w b t (xs.map (Value.int .i64)).toArray) (hl : xs.length ≤ maxI) : IntsIn w (some ⟨b, 0, none⟩) xs :=
  ⟨hl, fun _ => ⟨b, 0, rfl, h.lt, fun k hk => h.cell (by simp [hk])⟩⟩
theorem feats_of_blk {w : World} {b t : Nat} (fs : List Ft) (h : Blk w b t (fs.flatMap (fun f => [Value.string f.name, .int .i64 f.of, .int .i64 f.val])).toArray) (hl : fs.length ≤ maxI) : FeatsIn w (some ⟨b, 0, none⟩) fs := by
  refine ⟨hl, fun _ => ⟨b, 0, rfl, h.lt, fun k hk => ?_⟩⟩
  have key : ∀ (l : List Ft) (k : Nat) (hk : k < l.length) (j : Nat) (v : Value), [Value.string (l[k]).name, .int .i64 (l[k]).of, .int .i64 (l[k]).val][j]? = some v → (l.flatMap (fun f => [Value.string f.name, .int .i64 f.of, .int .i64 f.val]))[k * 3 + j]? = some v := by
    intro l
    induction l with
    | nil => intro k hk; simp at hk
    | cons a r ih =>
      intro k hk j v hj
      match k, hk with
      | 0, _ =>
        have hj3 : j < 3 := (List.getElem?_eq_some_iff.1 hj).1
        rw [List.flatMap_cons, List.getElem?_append_left (by simpa using hj3)]
        simpa using hj
      | k + 1, hk =>
        rw [List.flatMap_cons, List.getElem?_append_right (by simp; omega)]
        have := ih k (by simpa using hk) j v hj
        have e : (k + 1) * 3 + j - [Value.string a.name, .int .i64 a.of, .int .i64 a.val].length = k * 3 + j := by simp; omega
        rw [e]; exact this
  intro j v hj
  have := key fs k hk j v hj
  exact h.cell (by simpa using this)
/-- the cells of a row of types, laid at once -/
inductive TyVs (w : World) : List Ty → List Value → Prop
  | nil : TyVs w [] []
  | cons {t : Ty} {l : List Ty} {vs : List Value} {A : Option Addr} {c : Nat} (h : IntsIn w A t.par) (r : TyVs w l vs) : TyVs w (t :: l) (.string t.name :: .slice A t.par.length c :: vs)
theorem TyVs.get {w : World} {l : List Ty} {vs : List Value} (h : TyVs w l vs) : ∀ k (hk : k < l.length), ∃ A c, vs[k * 2]? = some (.string (l[k]).name) ∧ vs[k * 2 + 1]? = some (.slice A (l[k]).par.length c) ∧ IntsIn w A (l[k]).par := by
  induction h with
  | nil => intro k hk; simp at hk
  | cons h r ih =>
    intro k hk
    match k, hk with
    | 0, _ => exact ⟨_, _, rfl, rfl, h⟩
    | k + 1, hk =>
      obtain ⟨A, c, h1, h2, h3⟩ := ih k (by simpa using hk)
      refine ⟨A, c, ?_, ?_, h3⟩
      · rw [show (k + 1) * 2 = k * 2 + 1 + 1 from by omega]; simpa using h1
      · rw [show (k + 1) * 2 + 1 = k * 2 + 1 + 1 + 1 from by omega]; simpa using h2
theorem types_of_blk {w : World} {b t : Nat} {l : List Ty} {vs : List Value} (h : Blk w b t vs.toArray) (hv : TyVs w l vs) (hl : l.length ≤ maxI) : TypesIn w (some ⟨b, 0, none⟩) l :=
  ⟨hl, fun _ => ⟨b, 0, rfl, h.lt, fun k hk => by
    obtain ⟨A, c, h1, h2, h3⟩ := hv.get k hk
    refine ⟨A, c, h.range (fun j v hj => ?_), h3⟩
    match j, hj with
    | 0, hj => cases hj; simpa using h1
    | 1, hj => cases hj; simpa using h2
    | _ + 2, hj => cases hj⟩⟩
theorem ints_nil (w : World) (A : Option Addr) : IntsIn w A [] := ⟨Nat.zero_le _, fun h => absurd rfl h⟩
theorem feats_nil (w : World) (A : Option Addr) : FeatsIn w A [] := ⟨Nat.zero_le _, fun h => absurd rfl h⟩
def pairT : List Ty := [⟨⟨#[116, 111, 112]⟩, []⟩, ⟨⟨#[97]⟩, [0]⟩, ⟨⟨#[98]⟩, [0]⟩, ⟨⟨#[99]⟩, [1]⟩]
def pairF : List Ft := [⟨⟨#[102]⟩, 1, 0⟩, ⟨⟨#[103]⟩, 1, 0⟩]
theorem pair_fault : hierFault pairT pairF = (0, 0) := by decide +kernel
theorem nodes_nil (w : World) (A : Option Addr) : NodesIn w A [] := ⟨Nat.zero_le _, fun h => absurd rfl h⟩
theorem pair_nil : graphF pairT pairF [] = (2, -2) := by
  rw [gf_in (by rw [pair_fault]), wi_loose (by decide)]; rfl
theorem pair_val {w : World} {A B : Option Addr} (hTab : TabIn w) (hT : TypesIn w A pairT) (hF : FeatsIn w B pairF) : Calls Tryd.prog 9 #[.agg #[.slice A 4 4, .slice B 2 2], .agg #[.slice none 0 0]] w fun e w' => e = .returned (.agg #[.int .i64 2, .int .i64 (-2)]) ∧ Bel w w' := by
  have h := gval_any A B none 4 2 0 pairT pairF [] w hTab hT hF (nodes_nil w none)
  rw [pair_nil] at h
  exact h

theorem fd30 : (Tryd.prog.fieldsOf 30).toList.map (fun f => (f.name == "_", f.type, f.offset)) = [(false, 3, 0), (false, 3, 1)] := by kernel_rfl
theorem fn10 : callable Tryd.prog 10 = true := by kernel_rfl
theorem fn11 : callable Tryd.prog 11 = true := by kernel_rfl
theorem fn9 : callable Tryd.prog 9 = true := by kernel_rfl
theorem ft30 : Tryd.prog.underlying 30 = some (.struct (Tryd.prog.fieldsOf 30)) := by kernel_rfl
theorem ze25 : (Tryd.prog.info? 25).map (·.zero) = some (some (.agg #[.slice none 0 0, .slice none 0 0])) := by kernel_rfl
theorem pair_any (w : World) : Calls Tryd.prog 10 #[] w fun e w' => (∃ A B, e = .returned (.agg #[.slice A 4 4, .slice B 2 2]) ∧ TypesIn w' A pairT ∧ FeatsIn w' B pairF) ∧ Bel w w' := by
  refine enter Tryd.func10 Tryd.ntmps10 rfl (Nat.le_of_ble_eq_true rfl) ?_
  have hB : Bel w w := Below.refl _ _
  refine c_seq ?_
  refine c_region ?_
  refine wl_al (cs := #[.slice none 0 0, .slice none 0 0]) ze25 rfl (fun b0 w1 hb0 hs hr => ?_)
  have lo0 := Nat.le_trans (Bel.size hB) hr
  replace hB := hB.tr0 hs
  clear hs
  clear hr
  refine x_nil ?_
  refine e_S ?_
  refine c_seq ?_
  refine c_region ?_
  refine wl (r_bd1 (v0 := .string _) (fun v0 => #[v0, .slice none 0 0]) rfl (by kernel_rfl)) ?_
  refine wl_bs (cs := #[_]) [(0, .int _ _)] rfl Tryd.underlying52 sz3 ze3 (by decide) (by decide) (by kernel_rfl) rfl (fun b2 w2 hb2 hs hr => ?_)
  have or_b0_b2 : b0 < b2 := Nat.lt_of_lt_of_le hb0.lt hr
  have lo2 := Nat.le_trans (Bel.size hB) hr
  replace hB := hB.tr0 hs
  replace hb0 := hb0.tr0 hs
  clear hs
  clear hr
  refine wl (r_bd2 (v0 := .string _) (v1 := .slice _ _ _) (fun v0 v1 => #[v0, v1]) rfl rfl (by kernel_rfl)) ?_
  refine wl_bs (cs := #[_]) [(0, .int _ _)] rfl Tryd.underlying52 sz3 ze3 (by decide) (by decide) (by kernel_rfl) rfl (fun b4 w3 hb4 hs hr => ?_)
  have or_b0_b4 : b0 < b4 := Nat.lt_of_lt_of_le hb0.lt hr
  have or_b2_b4 : b2 < b4 := Nat.lt_of_lt_of_le hb2.lt hr
  have lo4 := Nat.le_trans (Bel.size hB) hr
  replace hB := hB.tr0 hs
  replace hb0 := hb0.tr0 hs
  replace hb2 := hb2.tr0 hs
  clear hs
  clear hr
  refine wl (r_bd2 (v0 := .string _) (v1 := .slice _ _ _) (fun v0 v1 => #[v0, v1]) rfl rfl (by kernel_rfl)) ?_
  refine wl_bs (cs := #[_]) [(0, .int _ _)] rfl Tryd.underlying52 sz3 ze3 (by decide) (by decide) (by kernel_rfl) rfl (fun b6 w4 hb6 hs hr => ?_)
  have or_b0_b6 : b0 < b6 := Nat.lt_of_lt_of_le hb0.lt hr
  have or_b2_b6 : b2 < b6 := Nat.lt_of_lt_of_le hb2.lt hr
  have or_b4_b6 : b4 < b6 := Nat.lt_of_lt_of_le hb4.lt hr
  have lo6 := Nat.le_trans (Bel.size hB) hr
  replace hB := hB.tr0 hs
  replace hb0 := hb0.tr0 hs
  replace hb2 := hb2.tr0 hs
  replace hb4 := hb4.tr0 hs
  clear hs
  clear hr
  refine wl (r_bd2 (v0 := .string _) (v1 := .slice _ _ _) (fun v0 v1 => #[v0, v1]) rfl rfl (by kernel_rfl)) ?_
  refine wl_bs (cs := #[_, _, _, _, _, _, _, _]) [(0, .agg _), (1, .agg _), (2, .agg _), (3, .agg _)] rfl Tryd.underlying22 sz70 ze70 (by decide) (by decide) (by kernel_rfl) rfl (fun b8 w5 hb8 hs hr => ?_)
  have or_b0_b8 : b0 < b8 := Nat.lt_of_lt_of_le hb0.lt hr
  have or_b2_b8 : b2 < b8 := Nat.lt_of_lt_of_le hb2.lt hr
  have or_b4_b8 : b4 < b8 := Nat.lt_of_lt_of_le hb4.lt hr
  have or_b6_b8 : b6 < b8 := Nat.lt_of_lt_of_le hb6.lt hr
  have lo8 := Nat.le_trans (Bel.size hB) hr
  replace hB := hB.tr0 hs
  replace hb0 := hb0.tr0 hs
  replace hb2 := hb2.tr0 hs
  replace hb4 := hb4.tr0 hs
  replace hb6 := hb6.tr0 hs
  clear hs
  clear hr
  refine wl (r_bd3 (v0 := .string _) (v1 := .int _ _) (v2 := .int _ _) (fun v0 v1 v2 => #[v0, v1, v2]) rfl rfl rfl (by kernel_rfl)) ?_
  refine wl (r_bd3 (v0 := .string _) (v1 := .int _ _) (v2 := .int _ _) (fun v0 v1 v2 => #[v0, v1, v2]) rfl rfl rfl (by kernel_rfl)) ?_
  refine wl_bs (cs := #[_, _, _, _, _, _]) [(0, .agg _), (1, .agg _)] rfl Tryd.underlying23 sz72 ze72 (by decide) (by decide) (by kernel_rfl) rfl (fun b11 w6 hb11 hs hr => ?_)
  have or_b0_b11 : b0 < b11 := Nat.lt_of_lt_of_le hb0.lt hr
  have or_b2_b11 : b2 < b11 := Nat.lt_of_lt_of_le hb2.lt hr
  have or_b4_b11 : b4 < b11 := Nat.lt_of_lt_of_le hb4.lt hr
  have or_b6_b11 : b6 < b11 := Nat.lt_of_lt_of_le hb6.lt hr
  have or_b8_b11 : b8 < b11 := Nat.lt_of_lt_of_le hb8.lt hr
  have lo11 := Nat.le_trans (Bel.size hB) hr
  replace hB := hB.tr0 hs
  replace hb0 := hb0.tr0 hs
  replace hb2 := hb2.tr0 hs
  replace hb4 := hb4.tr0 hs
  replace hb6 := hb6.tr0 hs
  replace hb8 := hb8.tr0 hs
  clear hs
  clear hr
  refine wl (r_bd2 (v0 := .slice _ _ _) (v1 := .slice _ _ _) (fun v0 v1 => #[v0, v1]) rfl rfl (by kernel_rfl)) ?_
  refine wl_stW hb0 rfl rfl sz25 rfl (by repeat (first | rfl | refine one_cons (by first | rfl | assumption) ?_)) (fun w7 hq hs => ?_)
  replace hB := hB.tr1 hs lo0
  replace hb2 := hb2.tr1 hs (by omega)
  replace hb4 := hb4.tr1 hs (by omega)
  replace hb6 := hb6.tr1 hs (by omega)
  replace hb8 := hb8.tr1 hs (by omega)
  replace hb11 := hb11.tr1 hs (by omega)
  clear hs
  replace hb0 := hq
  refine x_nil ?_
  refine e_S ?_
  refine c_ret ?_
  refine fin1 (.inl rfl) rfl (rr_cell Tryd.underlying25 rfl rfl hb0.range0 sz25) ?_
  exact ⟨⟨_, _, rfl, types_of_blk (l := pairT) hb8 (.cons (ints_nil _ _) (.cons (ints_of_blk [0] hb2 (by decide)) (.cons (ints_of_blk [0] hb4 (by decide)) (.cons (ints_of_blk [1] hb6 (by decide)) .nil)))) (by decide), feats_of_blk pairF hb11 (by decide)⟩, hB⟩

theorem glaw_any (A B G : Option Addr) (c d cg : Nat) (l : List Ty) (fs : List Ft) (gr : List Nd) (w : World) (hTab : TabIn w) (hcl : l.length ≤ c) (hdl : fs.length ≤ d) (hT : TypesIn w A l) (hF : FeatsIn w B fs) (hG : NodesIn w G gr) : Calls Tryd.prog 3 #[.agg #[.slice A l.length c, .slice B fs.length d], .agg #[.slice G gr.length cg]] w fun e w' => e = .returned (.bool true) ∧ Bel w w' := by
  refine enter Tryd.func3 Tryd.ntmps3 rfl (Nat.le_of_ble_eq_true rfl) ?_
  have hB : Bel w w := Below.refl _ _
  refine c_seq ?_
  refine c_region ?_
  refine wl_bx (v := .agg #[_, _]) (cs := #[_, _]) rfl rfl (fun b2 w1 hb2 hs hr => ?_)
  have lo2 := Nat.le_trans (Bel.size hB) hr
  replace hB := hB.tr0 hs
  clear hs
  clear hr
  refine wl_bx (v := .agg #[_]) (cs := #[_]) rfl rfl (fun b3 w2 hb3 hs hr => ?_)
  have or_b2_b3 : b2 < b3 := Nat.lt_of_lt_of_le hb2.lt hr
  have lo3 := Nat.le_trans (Bel.size hB) hr
  replace hB := hB.tr0 hs
  replace hb2 := hb2.tr0 hs
  clear hs
  clear hr
  refine wl (r_as (v := .bool _) rfl) ?_
  refine x_nil ?_
  refine e_S ?_
  refine c_seq ?_
  refine c_seq ?_
  refine c_region ?_
  refine wl_cl fn10 (pair_any _) rfl (fun e' w3 hr => ?_)
  obtain ⟨⟨Ap, Bp, rfl, hTp, hFp⟩, hs⟩ := hr
  replace hs := Same.of_bel hs
  replace hB := hB.tr0 hs
  replace hb2 := hb2.tr0 hs
  replace hb3 := hb3.tr0 hs
  clear hs
  refine ⟨_, rfl, ?_⟩
  refine wl (r_bd (vs := #[]) (cs := #[.slice none 0 0]) (by simp) (by kernel_rfl)) ?_
  refine wl_cl fn9 (pair_val (hTab.mono hB) hTp hFp) rfl (fun e' w4 hr => ?_)
  obtain ⟨rfl, hs⟩ := hr
  replace hs := Same.of_bel hs
  replace hB := hB.tr0 hs
  replace hb2 := hb2.tr0 hs
  replace hb3 := hb3.tr0 hs
  clear hs
  refine ⟨_, rfl, ?_⟩
  refine wl (r_bd2 (v0 := .int _ _) (v1 := .int _ _) (fun v0 v1 => #[v0, v1]) rfl rfl (by kernel_rfl)) ?_
  refine wl (r_neF Tryd.eqGuardType30 ft30 Tryd.stoodInHeld30 fd30 Tryd.underlying3 rfl rfl) ?_
  refine x_nil ?_
  refine e_S ?_
  refine c_ifd rfl (fun c9 => ?_) (fun c9 => ?_)
  · exact absurd ⟨rfl, rfl⟩ c9
  · skip
    refine c_skip ?_
    refine e_S ?_
    refine c_seq ?_
    refine c_monoTO 8 [10, 11, 12, 13, 14, 15, 16, 4] (fun _ => false) (fun ix v wv => match ix with | 0 => v = .agg #[.slice A l.length c, .slice B fs.length d] | 1 => v = .agg #[.slice G gr.length cg] | 2 => v = .agg #[.int .i64 (graphF l fs gr).1, .int .i64 (graphF l fs gr).2] | 3 => v = .agg #[.slice A l.length c, .slice B fs.length d] | 4 => v = .agg #[.slice G gr.length cg] | 5 => v = .agg #[.int .i64 (graphF l fs gr).1, .int .i64 (graphF l fs gr).2] | 6 => v = .bool true | 7 => v = .bool true | _ => True) (by kernel_rfl) (by kernel_rfl) ?_ ?_ ?_
    · intro ix v wv wv2 h hs
      match ix, h with
      | 0, h => exact h
      | 1, h => exact h
      | 2, h => exact h
      | 3, h => exact h
      | 4, h => exact h
      | 5, h => exact h
      | 6, h => exact h
      | 7, h => exact h
      | _ + 8, h => exact trivial
    · intro ix o hix hoq gg wx hs hd hdis
      match ix, hix, hoq with
      | 0, _, hoq =>
        obtain rfl : _ = o := Option.some.inj hoq
        have hs0 := hs
        replace hB := hB.tr0 hs
        replace hb2 := hb2.tr0 hs
        replace hb3 := hb3.tr0 hs
        clear hs
        refine os_rv (r_ldS Tryd.underlying25 rfl rfl hb2.range0 sz25) ⟨Same.refl _ _, ?_, frsh_no⟩
        exact rfl
      | 1, _, hoq =>
        obtain rfl : _ = o := Option.some.inj hoq
        have hs0 := hs
        replace hB := hB.tr0 hs
        replace hb2 := hb2.tr0 hs
        replace hb3 := hb3.tr0 hs
        clear hs
        refine os_rv (r_ldS Tryd.underlying28 rfl rfl hb3.range0 sz28) ⟨Same.refl _ _, ?_, frsh_no⟩
        exact rfl
      | 2, _, hoq =>
        obtain rfl : _ = o := Option.some.inj hoq
        have hs0 := hs
        replace hB := hB.tr0 hs
        replace hb2 := hb2.tr0 hs
        replace hb3 := hb3.tr0 hs
        clear hs
        have d0 : gg 10 = .agg #[.slice A l.length c, .slice B fs.length d] := hd 0 (dep_of (by kernel_rfl))
        have e10 := d0
        have d1 : gg 11 = .agg #[.slice G gr.length cg] := hd 1 (dep_of (by kernel_rfl))
        have e11 := d1
        refine os_know 10 (.agg #[.slice A l.length c, .slice B fs.length d]) e10 (by simp [undef]) ?_
        refine os_know 11 (.agg #[.slice G gr.length cg]) e11 (by simp [undef]) ?_
        refine os_cl fn9 (gval_any A B G c d cg l fs gr wx (hTab.mono hB) (hT.mono hB) (hF.mono hB) (hG.mono hB)) rfl (fun e' w2 hr => ?_)
        obtain ⟨rfl, hs⟩ := hr
        exact ⟨_, rfl, Same.of_bel hs, rfl, frsh_no⟩
      | 3, _, hoq =>
        obtain rfl : _ = o := Option.some.inj hoq
        have hs0 := hs
        replace hB := hB.tr0 hs
        replace hb2 := hb2.tr0 hs
        replace hb3 := hb3.tr0 hs
        clear hs
        refine os_rv (r_ldS Tryd.underlying25 rfl rfl hb2.range0 sz25) ⟨Same.refl _ _, ?_, frsh_no⟩
        exact rfl
      | 4, _, hoq =>
        obtain rfl : _ = o := Option.some.inj hoq
        have hs0 := hs
        replace hB := hB.tr0 hs
        replace hb2 := hb2.tr0 hs
        replace hb3 := hb3.tr0 hs
        clear hs
        refine os_rv (r_ldS Tryd.underlying28 rfl rfl hb3.range0 sz28) ⟨Same.refl _ _, ?_, frsh_no⟩
        exact rfl
      | 5, _, hoq =>
        obtain rfl : _ = o := Option.some.inj hoq
        have hs0 := hs
        replace hB := hB.tr0 hs
        replace hb2 := hb2.tr0 hs
        replace hb3 := hb3.tr0 hs
        clear hs
        have d3 : gg 13 = .agg #[.slice A l.length c, .slice B fs.length d] := hd 3 (dep_of (by kernel_rfl))
        have e13 := d3
        have d4 : gg 14 = .agg #[.slice G gr.length cg] := hd 4 (dep_of (by kernel_rfl))
        have e14 := d4
        refine os_know 13 (.agg #[.slice A l.length c, .slice B fs.length d]) e13 (by simp [undef]) ?_
        refine os_know 14 (.agg #[.slice G gr.length cg]) e14 (by simp [undef]) ?_
        refine os_cl fn11 (gfau_any A B G c d cg l fs gr wx hcl hdl (hT.mono hB) (hF.mono hB) (hG.mono hB)) rfl (fun e' w2 hr => ?_)
        obtain ⟨rfl, hs⟩ := hr
        exact ⟨_, rfl, Same.of_bel hs, rfl, frsh_no⟩
      | 6, _, hoq =>
        obtain rfl : _ = o := Option.some.inj hoq
        have hs0 := hs
        replace hB := hB.tr0 hs
        replace hb2 := hb2.tr0 hs
        replace hb3 := hb3.tr0 hs
        clear hs
        have d2 : gg 12 = .agg #[.int .i64 (graphF l fs gr).1, .int .i64 (graphF l fs gr).2] := hd 2 (dep_of (by kernel_rfl))
        have e12 := d2
        have d5 : gg 15 = .agg #[.int .i64 (graphF l fs gr).1, .int .i64 (graphF l fs gr).2] := hd 5 (dep_of (by kernel_rfl))
        have e15 := d5
        refine os_know 12 (.agg #[.int .i64 (graphF l fs gr).1, .int .i64 (graphF l fs gr).2]) e12 (by simp [undef]) ?_
        refine os_know 15 (.agg #[.int .i64 (graphF l fs gr).1, .int .i64 (graphF l fs gr).2]) e15 (by simp [undef]) ?_
        refine os_rv (r_eqF Tryd.eqGuardType30 ft30 Tryd.stoodInHeld30 fd30 Tryd.underlying3 rfl rfl) ⟨Same.refl _ _, ?_, frsh_no⟩
        exact (congrArg Value.bool (decide_eq_true ⟨rfl, rfl⟩))
      | 7, _, hoq =>
        obtain rfl : _ = o := Option.some.inj hoq
        have hs0 := hs
        replace hB := hB.tr0 hs
        replace hb2 := hb2.tr0 hs
        replace hb3 := hb3.tr0 hs
        clear hs
        have d6 : gg 16 = .bool true := hd 6 (dep_of (by kernel_rfl))
        have e16 := d6
        refine os_know 16 (.bool true) e16 (by simp [undef]) ?_
        refine os_rv (r_as (v := .bool _) rfl) ⟨Same.refl _ _, ?_, frsh_no⟩
        exact rfl
      | _ + 8, hix, _ => exact absurd hix (by omega)
    · intro gg w5 hs hR hdis
      have hs0 := hs
      replace hB := hB.tr0 hs
      replace hb2 := hb2.tr0 hs
      replace hb3 := hb3.tr0 hs
      clear hs
      have d7 : gg 4 = .bool true := hR 7 (by decide)
      have e4 := d7
      refine wl_know 4 (.bool true) e4 (by simp [undef]) ?_
      refine x_nil ?_
      refine e_S ?_
      refine c_ret ?_
      refine fin1 (.inl rfl) rfl rfl ?_
      exact ⟨rfl, hB⟩
end Go.Proofs.YtdegobbnidddjaaDoor
