/- What these functions of the program compute, at every world: glosswright/glosswrightlaw3.pairOf. What these functions of the program compute, at every world: slices.Equal[[]int,int]. The engine's third part: cap, append of nothing, append of zeros to the nil slice. The engine's fourth part: a check of a pointer, a slice that owns its cells opened and closed again, rows of cells told by a list. The engine's sixth part: copy, zeros appended to a slice, functions that the model has itself, a drawn region in which an operation changes what another one has made. The depth-first traversal of a graph as a relation, the numbers that it gives, and worlds that change in few blocks. A graph in memory that nobody else can reach: its nodes may be written in place. Types and links apart. No program in sight. The engine's third part: regions that draw their order, with intervals of blocks. Slices of slices of ints, as they lie in a world. No program in sight. The canonical form of a valid graph is valid, and its own canonical form. No program in sight. -/
import Derived.Test.YtegngekpmpdngaaDoorU
import Derived.Test.YtegngekpmpdngaaDoorGVal
import Derived.Test.YtegngekpmpdngaaDoorEng2
import Derived.Lib.AppendZerosOnto
import Derived.Laws.CopyRow
import Derived.Laws.Externs
import Derived.Lib.Overlaps
import Derived.Test.YtegngekpmpdngaaDoorGraph
import Derived.Test.YtegngekpmpdngaaDoorTypes
import Derived.Test.YtegngekpmpdngaaDoorHLaw
namespace Go.Proofs.YtegngekpmpdngaaDoor
open Go.RowKit
theorem ints_of_blk {w : World} {b t : Nat} (xs : List Int) (h : Blk w b t (xs.map (Value.int .i64)).toArray) (hl : xs.length ≤ maxI) : IntsIn w (some ⟨b, 0, none⟩) xs :=
  ⟨hl, fun _ => ⟨b, 0, rfl, h.lt, fun k hk => h.cell (by simp [hk])⟩⟩
theorem feats_of_blk {w : World} {b t : Nat} (fs : List Ft) (h : Blk w b t (fs.flatMap (fun f => [Value.string f.name, .int .i64 f.of, .int .i64 f.val])).toArray) (hl : fs.length ≤ maxI) : FeatsIn w (some ⟨b, 0, none⟩) fs := by
  refine ⟨hl, fun _ => ⟨b, 0, rfl, h.lt, fun k hk => ?_⟩⟩
  have key : ∀ (l : List Ft) (k : Nat) (hk : k < l.length) (j : Nat) (v : Value), [Value.string (l[k]).name, .int .i64 (l[k]).of, .int .i64 (l[k]).val][j]? = some v → (l.flatMap (fun f => [Value.string f.name, .int .i64 f.of, .int .i64 f.val]))[k * 3 + j]? = some v := by
    intro l
    induction l with
    | nil => intro k hk; simp at hk
    | cons a r ih =>
      intro k hk j v hj
      match k, hk with
      | 0, _ =>
        have hj3 : j < 3 := (List.getElem?_eq_some_iff.1 hj).1
        rw [List.flatMap_cons, List.getElem?_append_left (by simpa using hj3)]
        simpa using hj
      | k + 1, hk =>
        rw [List.flatMap_cons, List.getElem?_append_right (by simp; omega)]
        have := ih k (by simpa using hk) j v hj
        have e : (k + 1) * 3 + j - [Value.string a.name, .int .i64 a.of, .int .i64 a.val].length = k * 3 + j := by simp; omega
        rw [e]; exact this
  intro j v hj
  have := key fs k hk j v hj
  exact h.cell (by simpa using this)
inductive TyVs (w : World) : List Ty → List Value → Prop
  | nil : TyVs w [] []
  | cons {t : Ty} {l : List Ty} {vs : List Value} {A : Option Addr} {c : Nat} (h : IntsIn w A t.par) (r : TyVs w l vs) : TyVs w (t :: l) (.string t.name :: .slice A t.par.length c :: vs)
theorem TyVs.get {w : World} {l : List Ty} {vs : List Value} (h : TyVs w l vs) : ∀ k (hk : k < l.length), ∃ A c, vs[k * 2]? = some (.string (l[k]).name) ∧ vs[k * 2 + 1]? = some (.slice A (l[k]).par.length c) ∧ IntsIn w A (l[k]).par := by
  induction h with
  | nil => intro k hk; simp at hk
  | cons h r ih =>
    intro k hk
    match k, hk with
    | 0, _ => exact ⟨_, _, rfl, rfl, h⟩
    | k + 1, hk =>
      obtain ⟨A, c, h1, h2, h3⟩ := ih k (by simpa using hk)
      refine ⟨A, c, ?_, ?_, h3⟩
      · rw [show (k + 1) * 2 = k * 2 + 1 + 1 from by omega]; simpa using h1
      · rw [show (k + 1) * 2 + 1 = k * 2 + 1 + 1 + 1 from by omega]; simpa using h2
theorem types_of_blk {w : World} {b t : Nat} {l : List Ty} {vs : List Value} (h : Blk w b t vs.toArray) (hv : TyVs w l vs) (hl : l.length ≤ maxI) : TypesIn w (some ⟨b, 0, none⟩) l :=
  ⟨hl, fun _ => ⟨b, 0, rfl, h.lt, fun k hk => by
    obtain ⟨A, c, h1, h2, h3⟩ := hv.get k hk
    refine ⟨A, c, h.range (fun j v hj => ?_), h3⟩
    match j, hj with
    | 0, hj => cases hj; simpa using h1
    | 1, hj => cases hj; simpa using h2
    | _ + 2, hj => cases hj⟩⟩
theorem ints_nil (w : World) (A : Option Addr) : IntsIn w A [] := ⟨Nat.zero_le _, fun h => absurd rfl h⟩
def pairT : List Ty := [⟨⟨#[116, 111, 112]⟩, []⟩, ⟨⟨#[97]⟩, [0]⟩, ⟨⟨#[98]⟩, [0]⟩, ⟨⟨#[99]⟩, [1]⟩]
def pairF : List Ft := [⟨⟨#[102]⟩, 1, 0⟩, ⟨⟨#[103]⟩, 1, 0⟩]
theorem pair_fault : hierFault pairT pairF = (0, 0) := by decide +kernel
theorem sz77_GLaw : (Tryd.prog.info? 77).map (·.size) = some 2 := by kernel_rfl
theorem ze25 : (Tryd.prog.info? 25).map (·.zero) = some (some (.agg #[.slice none 0 0, .slice none 0 0])) := by kernel_rfl
theorem ze77_GLaw : (Tryd.prog.info? 77).map (·.zero) = some (some (.agg #[.string ⟨#[]⟩, .slice none 0 0])) := by kernel_rfl
theorem pair_any (w : World) : Calls Tryd.prog 10 #[] w fun e w' => (∃ A B, e = .returned (.agg #[.slice A 4 4, .slice B 2 2]) ∧ TypesIn w' A pairT ∧ FeatsIn w' B pairF) ∧ Bel w w' := by
 refine enter Tryd.func10 Tryd.ntmps10 rfl (Nat.le_of_ble_eq_true rfl) ?_
 have hB : Bel w w := Below.refl _ _
 refine c_seq (c_region ?_)
 refine wl_al (cs := #[.slice none 0 0, .slice none 0 0]) ze25 rfl (fun b0 w1 hb0 hs hr => ?_)
 have lo0 := nLT (Bel.size hB) hr
 replace hB := hB.tr0 hs
 clear hs
 clear hr
 refine x_nil (e_S (c_seq (c_region (wl (r_bd1 (v0 := .string _) (fun v0 => #[v0, .slice none 0 0]) rfl kR) ?_))))
 refine wl_bs (cs := #[_]) [(0, .int _ _)] rfl U43 sz3_GLoose ze3_GUnr dE dE kR rfl (fun b2 w2 hb2 hs hr => ?_)
 have or_b0_b2 : b0 < b2 := nLL hb0.lt hr
 have lo2 := nLT (Bel.size hB) hr
 replace hB := hB.tr0 hs
 replace hb0 := hb0.tr0 hs
 clear hs
 clear hr
 refine wl (r_bd2 (v0 := .string _) (v1 := .slice _ _ _) (fun v0 v1 => #[v0, v1]) rfl rfl kR) ?_
 refine wl_bs (cs := #[_]) [(0, .int _ _)] rfl U43 sz3_GLoose ze3_GUnr dE dE kR rfl (fun b4 w3 hb4 hs hr => ?_)
 have or_b0_b4 : b0 < b4 := nLL hb0.lt hr
 have or_b2_b4 : b2 < b4 := nLL hb2.lt hr
 have lo4 := nLT (Bel.size hB) hr
 replace hB := hB.tr0 hs
 replace hb0 := hb0.tr0 hs
 replace hb2 := hb2.tr0 hs
 clear hs
 clear hr
 refine wl (r_bd2 (v0 := .string _) (v1 := .slice _ _ _) (fun v0 v1 => #[v0, v1]) rfl rfl kR) ?_
 refine wl_bs (cs := #[_]) [(0, .int _ _)] rfl U43 sz3_GLoose ze3_GUnr dE dE kR rfl (fun b6 w4 hb6 hs hr => ?_)
 have or_b0_b6 : b0 < b6 := nLL hb0.lt hr
 have or_b2_b6 : b2 < b6 := nLL hb2.lt hr
 have or_b4_b6 : b4 < b6 := nLL hb4.lt hr
 have lo6 := nLT (Bel.size hB) hr
 replace hB := hB.tr0 hs
 replace hb0 := hb0.tr0 hs
 replace hb2 := hb2.tr0 hs
 replace hb4 := hb4.tr0 hs
 clear hs
 clear hr
 refine wl (r_bd2 (v0 := .string _) (v1 := .slice _ _ _) (fun v0 v1 => #[v0, v1]) rfl rfl kR) ?_
 refine wl_bs (cs := #[_, _, _, _, _, _, _, _]) [(0, .agg _), (1, .agg _), (2, .agg _), (3, .agg _)] rfl U22 sz77_GLaw ze77_GLaw dE dE kR rfl (fun b8 w5 hb8 hs hr => ?_)
 have or_b0_b8 : b0 < b8 := nLL hb0.lt hr
 have or_b2_b8 : b2 < b8 := nLL hb2.lt hr
 have or_b4_b8 : b4 < b8 := nLL hb4.lt hr
 have or_b6_b8 : b6 < b8 := nLL hb6.lt hr
 have lo8 := nLT (Bel.size hB) hr
 replace hB := hB.tr0 hs
 replace hb0 := hb0.tr0 hs
 replace hb2 := hb2.tr0 hs
 replace hb4 := hb4.tr0 hs
 replace hb6 := hb6.tr0 hs
 clear hs
 clear hr
 refine wl (r_bd3 (v0 := .string _) (v1 := .int _ _) (v2 := .int _ _) (fun v0 v1 v2 => #[v0, v1, v2]) rfl rfl rfl kR) (wl (r_bd3 (v0 := .string _) (v1 := .int _ _) (v2 := .int _ _) (fun v0 v1 v2 => #[v0, v1, v2]) rfl rfl rfl kR) ?_)
 refine wl_bs (cs := #[_, _, _, _, _, _]) [(0, .agg _), (1, .agg _)] rfl U23 sz63_GVal ze63_GVal dE dE kR rfl (fun b11 w6 hb11 hs hr => ?_)
 have or_b0_b11 : b0 < b11 := nLL hb0.lt hr
 have or_b2_b11 : b2 < b11 := nLL hb2.lt hr
 have or_b4_b11 : b4 < b11 := nLL hb4.lt hr
 have or_b6_b11 : b6 < b11 := nLL hb6.lt hr
 have or_b8_b11 : b8 < b11 := nLL hb8.lt hr
 have lo11 := nLT (Bel.size hB) hr
 replace hB := hB.tr0 hs
 replace hb0 := hb0.tr0 hs
 replace hb2 := hb2.tr0 hs
 replace hb4 := hb4.tr0 hs
 replace hb6 := hb6.tr0 hs
 replace hb8 := hb8.tr0 hs
 clear hs
 clear hr
 refine wl (r_bd2 (v0 := .slice _ _ _) (v1 := .slice _ _ _) (fun v0 v1 => #[v0, v1]) rfl rfl kR) ?_
 refine wl_stW hb0 rfl rfl sz25 rfl oneA (fun w7 hq hs => ?_)
 replace hB := hB.tr1 hs lo0
 replace hb2 := hb2.tr1 hs om
 replace hb4 := hb4.tr1 hs om
 replace hb6 := hb6.tr1 hs om
 replace hb8 := hb8.tr1 hs om
 replace hb11 := hb11.tr1 hs om
 clear hs
 replace hb0 := hq
 refine x_nil (e_S (c_ret (fin1 (.inl rfl) rfl (rr_cell U25 rfl rfl hb0.range0 sz25) ?_)))
 exact ⟨⟨_, _, rfl, types_of_blk (l := pairT) hb8 (.cons (ints_nil _ _) (.cons (ints_of_blk [0] hb2 dE) (.cons (ints_of_blk [0] hb4 dE) (.cons (ints_of_blk [1] hb6 dE) .nil)))) dE, feats_of_blk pairF hb11 dE⟩, hB⟩
end Go.Proofs.YtegngekpmpdngaaDoor
namespace Go.Proofs.YtegngekpmpdngaaDoor
open Go.RowKit
theorem ieq_any (A B : Option Addr) (c d : Nat) (xs ys : List Int) (w : World) (hX : IntsIn w A xs) (hY : IntsIn w B ys) : Calls Tryd.prog 12 #[.slice A xs.length c, .slice B ys.length d] w fun e w' => e = .returned (.bool (decide (xs = ys))) ∧ Bel w w' := by
 have hmx := hX.1
 unfold maxI at hmx
 refine enter Tryd.func12 Tryd.ntmps12 rfl (Nat.le_of_ble_eq_true rfl) ?_
 have hB : Bel w w := Below.refl _ _
 refine c_seq (c_region (waB rfl (x_nil (e_S (c_seq ?_)))))
 refine c_seq (c_region (wmS rfl (wl (r_len U43 rfl) (wmS rfl (wl (r_len U43 rfl) ?_)))))
 refine wl (r_neq rfl rfl) (x_nil (e_S ?_))
 refine c_ifd rfl (fun c10 => ?_) (fun c10 => ?_)
 ·
  have hne : ¬ xs = ys := fun e => c10 (by rw [e])
  refine c_seq (c_region (waB rfl (x_nil (e_S (c_ret ?_)))))
  refine e_Sr (fin1 (.inl rfl) rfl rfl ?_)
  exact ⟨ret_bool (decide_eq_false hne), hB⟩
 have hle : xs.length = ys.length := by omega
 refine c_skip (e_S (c_seq (c_seq (c_region (wmS rfl ?_)))))
 refine wl (r_len U43 rfl) (wmI rfl (x_nil (e_S (c_block ?_))))
 refine c_loopS [4, 5, 13, 14, 15, 16, 17, 18, 19, 20, 21, 22, 23, 24, 25] (fun m g w' => ∃ k : Nat, k ≤ xs.length ∧ m = xs.length - k ∧ g 13 = .int .i64 k ∧ Bel w w' ∧ (∀ j (hj : j < xs.length) (hj2 : j < ys.length), j < k → xs[j] = ys[j])) (xs.length) ?_ (fun m g4 w1 hI => ?_)
 ·
  exact ⟨0, Nat.zero_le _, rfl, rfl, hB, fun j _ _ h => by omega⟩
 obtain ⟨k, hk, hm, h13, hB, hall⟩ := hI
 refine c_know 13 (.int .i64 k) h13 nu (c_seq (c_region (wl (r_lss rfl rfl) (x_nil (e_S ?_)))))
 refine c_seq ?_
 refine c_ifd rfl (fun c14 => ?_) (fun c14 => ?_)
 ·
  have hlt : k < xs.length := by omega
  have hlt2 : k < ys.length := by omega
  obtain ⟨xb, xo, rfl, hxb, hxc⟩ := hX.at_ hlt
  obtain ⟨yb, yo, rfl, hyb, hyc⟩ := hY.at_ hlt2
  refine c_skip (e_S (c_seq (c_block (c_seq (c_region ?_)))))
  refine wmI rfl (waI rfl (x_nil (e_S (c_seq ?_))))
  refine c_still kR kR (fun w2 hs => ?_)
  replace hB := hB.tr0 hs
  clear hs
  refine ws (r_mv (v := .slice _ _ _) rfl) (ws (r_mv (v := .int _ _) rfl) (ws (r_ia (i := k) U43 sz3_GLoose rfl rfl om rfl) (ws (r_ld1 (v := .int _ _) U3 rfl rfl (hB.cell hxb hxc)) (ws (r_mv (v := .slice _ _ _) rfl) (ws (r_mv (v := .int _ _) rfl) ?_)))))
  refine ws (r_ia (i := k) U43 sz3_GLoose rfl rfl om rfl) (ws (r_ld1 (v := .int _ _) U3 rfl rfl (hB.cell hyb hyc)) (ws (r_neq rfl rfl) (s_nil (e_S ?_))))
  refine c_ifd rfl (fun c24 => ?_) (fun c24 => ?_)
  ·
   have hne : ¬ xs = ys := fun e => c24 (by simp only [e])
   refine c_seq (c_region (waB rfl (x_nil (e_S (c_ret ?_)))))
   refine e_Br (e_Sr (e_LSr (e_Br (e_Sr (fin1 (.inl rfl) rfl rfl ?_)))))
   exact ⟨ret_bool (decide_eq_false hne), hB⟩
  refine c_skip (e_B (e_S (c_region (wl (r_add rfl rfl rfl om) (wmI rfl ?_)))))
  refine x_nil (e_LS (xs.length - (k + 1)) om agA ?_)
  exact ⟨k + 1, by omega, rfl, rfl, hB, fun j hj hj2 h => by
    by_cases e : j = k
    · subst e; exact Decidable.not_not.1 c24
    · exact hall j hj hj2 om⟩
 have heq : xs = ys := List.ext_getElem hle (fun j h1 h2 => hall j h1 h2 om)
 refine c_exit (e_Sx (e_LSx (e_Bx (e_S (c_seq ?_)))))
 refine c_region (waB rfl (x_nil (e_S (c_ret (fin1 (.inl rfl) rfl rfl ?_)))))
 exact ⟨ret_bool (decide_eq_true heq), hB⟩
end Go.Proofs.YtegngekpmpdngaaDoor
namespace Go.Proofs.YtegngekpmpdngaaDoor
open Go.RowKit
section eng3
variable {P : Program} {Q : Exit → Act → World → Prop} {n : Nat} {f : Fr} {w : World} {ops : Array Oper} {rest : List Oper} {d : Tmp} {ty t e : TypeId} {pos : String} {af : Array Edge} {x y : Operand}
theorem run_app0 {A B : Option Addr} {k cap c sz : Nat} (hu : P.underlying t = some (.slice e)) (hs : (P.info? e).map (·.size) = some sz) (hk : k ≤ cap) :
    (Builtin.append_ #[t, t] ty #[.slice A k cap, .slice B 0 c]).run P w = .ok (.slice A k cap) w := by
  cases hq : P.info? e with
  | none => simp [hq] at hs
  | some i =>
    simp only [hq, Option.map_some, Option.some.injEq] at hs
    have hz : (Go.sizeOf e).run P w = .ok sz w := by simp [Go.sizeOf, typeInfo, hq, hs]
    have h0 : (Builtin.firstCells sz 0 (.slice B 0 c)).run P w = .ok #[] w := by
      cases B with
      | none => simp [Builtin.firstCells]
      | some b => simp [Builtin.firstCells, loadCells, loadCellsFrom]
    cases A with
    | none => simp [Builtin.append_, run_underlying hu, hz, Builtin.lenOf, hk, h0]
    | some a => simp [Builtin.append_, run_underlying hu, hz, Builtin.lenOf, hk, h0, storeCells]
theorem r_app0 {dst : Option Tmp} {gd : Option (Nat × Bool)} {A B : Option Addr} {k cap c sz : Nat} (hu : P.underlying t = some (.slice e)) (hs : (P.info? e).map (·.size) = some sz) (hk : k ≤ cap) (hx : ev n f x = .slice A k cap) (hy : ev n f y = .slice B 0 c) :
    RV P n f w ⟨dst, .call { callee := .builtin .append, args := #[x, y], argTypes := #[t, t] }, ty, pos, af, gd⟩ (.slice A k cap) w := by
  have hr := run_app0 (P := P) (w := w) (ty := ty) (A := A) (B := B) (c := c) hu hs hk
  simp only [RV, execOp, resolve, invoke, builtin, Sem.run_bind, Sem.run_pure, Result.andThen_ok, List.map_toArray, List.map_cons, List.map_nil, hx, hy, hr]
end eng3
end Go.Proofs.YtegngekpmpdngaaDoor
namespace Go.Proofs.YtegngekpmpdngaaDoor
open Go.RowKit
section eng4
variable {P : Program} {Q : Exit → Act → World → Prop} {n : Nat} {f : Fr} {w w' : World} {ops : Array Oper} {rest : List Oper} {d : Tmp} {ty t e : TypeId} {pos : String} {af : Array Edge} {x y : Operand}
variable {base sz k cap : Nat} {A : Option Addr} {xs : List Value}
theorem Own.open_ (h : Own w base e sz A k cap xs) (hk : 0 < k) : ∃ (g : Nat) (cur : Array Value), A = some ⟨g, 0, none⟩ ∧ base ≤ g ∧ Blk w g e cur ∧ k * sz ≤ cur.size ∧ (∀ j, j < k * sz → cur[j]? = xs[j]?) ∧ ∀ w1 o v, Blk w1 g e (cur.setIfInBounds o v) → Own w1 base e sz (some ⟨g, 0, none⟩) k cap (xs.set o v) := by
  rcases h.2 with ⟨_, hn⟩ | ⟨g, c, cur, hv, hb, hg, hkc, hm, hs, ht⟩
  · omega
  · cases hv
    have hle : k * sz ≤ cap * sz := Nat.mul_le_mul_right sz hkc
    refine ⟨g, cur, rfl, hb, hg, by omega, fun j hj => ?_, fun w1 o v hw => ⟨by rw [List.length_set]; exact h.1, .inr ⟨g, cap, _, rfl, hb, hw, hkc, hm, by rw [Array.size_setIfInBounds]; exact hs, ?_⟩⟩⟩
    · rw [← ht, List.getElem?_take_of_lt hj]; simp
    · rw [Array.toList_setIfInBounds, List.take_set, ht]
end eng4
end Go.Proofs.YtegngekpmpdngaaDoor
namespace Go.Proofs.YtegngekpmpdngaaDoor
open Go.RowKit
section six
variable {P : Program} {Q : Exit → Act → World → Prop} {n : Nat} {f : Fr} {w : World} {ops : Array Oper} {rest : List Oper} {d : Tmp} {ty t e : TypeId} {pos : String} {af : Array Edge} {x y : Operand} {v : Value}
theorem Own.whole {base sz k cap : Nat} {A : Option Addr} {xs : List Value} (h : Own w base e sz A k cap xs) (hk : 0 < k) : ∃ (g : Nat) (cur : Array Value), A = some ⟨g, 0, none⟩ ∧ base ≤ g ∧ Blk w g e cur ∧ cap ≤ 9223372036854775807 ∧ cur.size = cap * sz ∧ cur.toList.take (k * sz) = xs := by
  rcases h.2 with ⟨_, h0⟩ | ⟨g, c, cur, hv, hb, hg, hkc, hm, hs, ht⟩
  · omega
  · cases hv
    exact ⟨g, cur, rfl, hb, hg, by simpa [maxLen] using hm, hs, ht⟩
end six
end Go.Proofs.YtegngekpmpdngaaDoor
namespace Go.Proofs.YtegngekpmpdngaaDoor
open Go.RowKit
def nd (g : List Nd) (i : Nat) : Nd := g.getD i ⟨0, []⟩
theorem nd_eq {g : List Nd} {i : Nat} (hi : i < g.length) : nd g i = g[i] := by simp [nd, List.getD, hi]
def succN (g : List Nd) (i : Nat) : List Nat := (nd g i).ln.map (fun x => x.2.toNat)
inductive DL (g : List Nd) : List Nat → List Nat → List Nat → Prop
  | nil {o : List Nat} : DL g [] o o
  | old {i : Nat} {is o o' : List Nat} (h : i ∈ o) (t : DL g is o o') : DL g (i :: is) o o'
  | new {i : Nat} {is o o1 o' : List Nat} (h : ¬ i ∈ o) (s : DL g (succN g i) (o ++ [i]) o1) (t : DL g is o1 o') : DL g (i :: is) o o'
theorem DL.append {g : List Nd} {xs a b : List Nat} (h : DL g xs a b) : ∀ {ys c : List Nat}, DL g ys b c → DL g (xs ++ ys) a c := by
  induction h with
  | nil => intro ys c k; exact k
  | old h t ih => intro ys c k; exact .old h (ih k)
  | new h s t ihs iht => intro ys c k; exact .new h s (iht k)
def memB (o : List Nat) (x : Nat) : Bool := decide (x ∈ o)
structure OOk (n : Nat) (o : List Nat) : Prop where
  lt : ∀ x ∈ o, x < n
  cnt : o.length + lackN n (memB o) ≤ n
theorem OOk.nil (n : Nat) : OOk n [] := ⟨fun x hx => by simp at hx, by have := lack_le n (memB []); simpa using this⟩
theorem lack_snoc {n i : Nat} {o : List Nat} (hi : i < n) (h : ¬ i ∈ o) : lackN n (memB (o ++ [i])) < lackN n (memB o) :=
  countP_lt (fun x hx => by
    simp only [memB, Bool.not_eq_true', decide_eq_false_iff_not, List.mem_append, not_or] at hx ⊢
    exact hx.1) (List.range n) i (List.mem_range.2 hi) (by simp [memB, h]) (by simp [memB])
theorem OOk.snoc {n i : Nat} {o : List Nat} (h : OOk n o) (hi : i < n) (hn : ¬ i ∈ o) : OOk n (o ++ [i]) :=
  ⟨fun x hx => by
    rcases List.mem_append.1 hx with hx | hx
    · exact h.lt x hx
    · rw [List.mem_singleton.1 hx]; exact hi, by
    have h1 := lack_snoc hi hn
    have h2 := h.cnt
    simp only [List.length_append, List.length_cons, List.length_nil]
    omega⟩
theorem DL.ok {g : List Nd} (hr : ∀ i, i < g.length → ∀ t ∈ succN g i, t < g.length) {is o o' : List Nat} (h : DL g is o o') : (∀ i ∈ is, i < g.length) → OOk g.length o → OOk g.length o' ∧ ∃ s, o' = o ++ s := by
  induction h with
  | nil => intro _ k; exact ⟨k, [], by simp⟩
  | old h t ih => intro hi k; exact ih (fun i h => hi i (List.mem_cons_of_mem _ h)) k
  | new h s t ihs iht =>
    intro hi k
    have hlt := hi _ (List.mem_cons_self ..)
    obtain ⟨h1, s1, e1⟩ := ihs (hr _ hlt) (k.snoc hlt h)
    obtain ⟨h2, s2, e2⟩ := iht (fun i h => hi i (List.mem_cons_of_mem _ h)) h1
    exact ⟨h2, _, by rw [e2, e1, List.append_assoc, List.append_assoc]⟩
theorem take_succN {g : List Nd} {i j t : Nat} (hi : i < g.length) (hj : j < (g[i]).ln.length) (ht : ((g[i]).ln[j]).2 = (t : Int)) : (succN g i).take (j + 1) = (succN g i).take j ++ [t] := by
  have hl : j < (succN g i).length := by simp [succN, nd_eq hi, hj]
  rw [List.take_succ_eq_append_getElem hl]
  congr 2
  simp [succN, nd_eq hi, ht]
def numO (o : List Nat) (x : Nat) : Int := if x ∈ o then (o.idxOf x : Nat) else -1
structure Chg (base : Nat) (X : List Nat) (w w' : World) : Prop where
  os : w'.os = w.os
  tape : w'.tape = w.tape
  output : w'.output = w.output
  size : w.heap.size ≤ w'.heap.size
  blk : ∀ k, k < base → ¬ k ∈ X → w'.heap[k]? = w.heap[k]?
theorem Chg.refl (base : Nat) (X : List Nat) (w : World) : Chg base X w w := ⟨rfl, rfl, rfl, Nat.le_refl _, fun _ _ _ => rfl⟩
theorem Chg.trans {base : Nat} {X : List Nat} {a b c : World} (h : Chg base X a b) (k : Chg base X b c) : Chg base X a c :=
  ⟨k.os.trans h.os, k.tape.trans h.tape, k.output.trans h.output, nLT h.size k.size, fun i hi hx => (k.blk i hi hx).trans (h.blk i hi hx)⟩
theorem Chg.st {base : Nat} {X Y : List Nat} {a b c : World} (h : Chg base X a b) (k : Same Y b c) (hb : base ≤ b.heap.size) (hy : ∀ g ∈ Y, g ∈ X ∨ base ≤ g) : Chg base X a c :=
  h.trans ⟨k.os, k.tape, k.output, k.size, fun i hi hx => k.blk i (nLL hi hb) (fun hm => by
    rcases hy i hm with h1 | h1
    · exact hx h1
    · omega)⟩
theorem Blk.chg {base b t : Nat} {X : List Nat} {w w' : World} {cs : Array Value} (h : Blk w b t cs) (hc : Chg base X w w') (hb : b < base) (hx : ¬ b ∈ X) : Blk w' b t cs := (hc.blk b hb hx).trans h
theorem Bel.chg {base : Nat} {X : List Nat} {w0 w w' : World} (h : Bel w0 w) (hc : Chg base X w w') (hb : w0.heap.size ≤ base) (hx : ∀ g ∈ X, w0.heap.size ≤ g) : Bel w0 w' :=
  ⟨hc.os.trans h.os, hc.tape.trans h.tape, hc.output.trans h.output, nLT h.size hc.size, fun k hk => (hc.blk k (nLL hk hb) (fun hm => by have := hx k hm; omega)).trans (h.block k hk)⟩
def canL (o : List Nat) (x : Int × Int) : Int × Int := (x.1, numO o x.2.toNat)
def canN (g : List Nd) (o : List Nat) (i : Nat) : Nd := ⟨(nd g i).ty, (nd g i).ln.map (canL o)⟩
def canG (g : List Nd) (o : List Nat) : List Nd := o.map (canN g o)
def lnV (xs : List (Int × Int)) : List Value := xs.flatMap (fun x => [Value.int .i64 x.1, Value.int .i64 x.2])
theorem lnV_get : ∀ (xs : List (Int × Int)) (k : Nat) (hk : k < xs.length), (lnV xs)[k * 2]? = some (Value.int .i64 (xs[k]).1) ∧ (lnV xs)[k * 2 + 1]? = some (Value.int .i64 (xs[k]).2)
  | [], k, hk => by simp at hk
  | x :: xs, 0, _ => by simp [lnV]
  | x :: xs, k + 1, hk => by
    have h := lnV_get xs k (by simpa using hk)
    have e1 : (k + 1) * 2 = k * 2 + 1 + 1 := by omega
    have e2 : (k + 1) * 2 + 1 = k * 2 + 1 + 1 + 1 := by omega
    have e3 : lnV (x :: xs) = Value.int .i64 x.1 :: Value.int .i64 x.2 :: lnV xs := by simp [lnV]
    rw [e1, e3]
    simpa using h
structure FrSame (B : Nat) (w w2 : World) : Prop where
  size : w.heap.size ≤ w2.heap.size
  blk : ∀ k, B ≤ k → k < w.heap.size → w2.heap[k]? = w.heap[k]?
theorem FrSame.of {B : Nat} {w0 w w' : World} {X : List Nat} (h : FrSame B w0 w) (hs : Same X w w') (hx : ∀ g ∈ X, g < B ∨ w0.heap.size ≤ g) : FrSame B w0 w' :=
  ⟨nLT h.size hs.size, fun k hk hk2 => by
    rw [hs.blk k (nLL hk2 h.size) (fun hm => by have := hx k hm; omega)]
    exact h.blk k hk hk2⟩
theorem FrSame.refl (B : Nat) (w : World) : FrSame B w w := ⟨Nat.le_refl _, fun _ _ _ => rfl⟩
theorem FrSame.at_ {B b t : Nat} {w w2 : World} {cs : Array Value} (h : FrSame B w w2) (hb : Blk w b t cs) (hl : B ≤ b) : Blk w2 b t cs := (h.blk b hl hb.lt).trans hb
def RowO (w : World) (lo bs : Nat) (v : Value) (xs : List (Int × Int)) : Prop := ∃ A c, v = .slice A xs.length c ∧ Own w lo 30 2 A xs.length c (lnV xs) ∧ ∀ g ∈ aL A, g < bs
theorem Own.typ {w : World} {base : Nat} {e : TypeId} {sz : Nat} {A : Option Addr} {k cap : Nat} {xs : List Value} (h : Own w base e sz A k cap xs) : ∀ g ∈ aL A, ∃ cs, Blk w g e cs := fun g hg => by
  rcases h.2 with ⟨hn, _⟩ | ⟨g', c, cur, hv, hb, hgg, r⟩
  · cases hn; cases hg
  · cases hv
    simp only [aL, List.mem_singleton] at hg
    subst hg; exact ⟨cur, hgg⟩
theorem RowO.tr {w w' : World} {lo bs : Nat} {v : Value} {xs : List (Int × Int)} {X : List Nat} (h : RowO w lo bs v xs) (hs : Same X w w') (hx : ∀ g ∈ X, bs ≤ g ∨ ∃ cs t, Blk w g t cs ∧ t ≠ 30) : RowO w' lo bs v xs := by
  obtain ⟨A, c, h1, h2, h3⟩ := h
  refine ⟨A, c, h1, h2.tr hs (fun g hg hm => ?_), h3⟩
  rcases hx g hm with h4 | ⟨cs, t, h4, h5⟩
  · have := h3 g hg; omega
  · obtain ⟨cs2, h6⟩ := h2.typ g hg
    exact h5 (blk_type h4 h6)
theorem RowO.up {w : World} {lo bs bs' : Nat} {v : Value} {xs : List (Int × Int)} (h : RowO w lo bs v xs) (hb : bs ≤ bs') : RowO w lo bs' v xs := by
  obtain ⟨A, c, h1, h2, h3⟩ := h
  exact ⟨A, c, h1, h2, fun g hg => nLL (h3 g hg) hb⟩
theorem RowO.of {w : World} {lo base : Nat} {A : Option Addr} {cap : Nat} {xs : List (Int × Int)} (hl : lo ≤ base) (h : Own w base 30 2 A xs.length cap (lnV xs)) : RowO w lo w.heap.size (.slice A xs.length cap) xs := ⟨A, cap, rfl, h.low hl, fun g hg => (h.lt g hg).2⟩
theorem RowO.fr {w w2 : World} {lo bs : Nat} {v : Value} {xs : List (Int × Int)} (h : RowO w lo bs v xs) (hf : FrSame lo w w2) : RowO w2 lo bs v xs := by
  obtain ⟨A, c, h1, h2, h3⟩ := h
  refine ⟨A, c, h1, ⟨h2.1, ?_⟩, h3⟩
  rcases h2.2 with hn | ⟨g, c, cur, hv, hb, hg, r⟩
  · exact .inl hn
  · exact .inr ⟨g, c, cur, hv, hb, (hf.blk g hb (lt_of_heap hg)).trans hg, r⟩
def OrdF (w : World) (bn bd : Nat) (A : Option Addr) (o : List Nat) : Prop :=
  (o = [] ∧ A = none) ∨ (o ≠ [] ∧ ∃ b, A = some ⟨b, 0, none⟩ ∧ b ≠ bn ∧ b < bd ∧ b < w.heap.size ∧ ∀ k (hk : k < o.length), w.cell? ⟨b, 0 + k, none⟩ = some (.int .i64 (o[k] : Nat)))
theorem OrdF.nil (w : World) (bn bd : Nat) : OrdF w bn bd none [] := .inl ⟨rfl, rfl⟩
theorem OrdF.tr {w w' : World} {bn bd : Nat} {A : Option Addr} {o : List Nat} {X : List Nat} (h : OrdF w bn bd A o) (hs : Same X w w') (hx : ∀ g ∈ X, g = bn ∨ bd ≤ g) : OrdF w' bn bd A o := by
  rcases h with h | ⟨h1, b, h2, h3, h4, h5, h6⟩
  · exact .inl h
  · refine .inr ⟨h1, b, h2, h3, h4, nLL h5 hs.size, fun k hk => ?_⟩
    rw [World.cell?_of_block (hs.blk b h5 (fun hm => by rcases hx b hm with h | h <;> omega))]
    exact h6 k hk
theorem OrdF.up {w : World} {bn bd bd' : Nat} {A : Option Addr} {o : List Nat} (h : OrdF w bn bd A o) (hb : bd ≤ bd') : OrdF w bn bd' A o := by
  rcases h with h | ⟨h1, b, h2, h3, h4, h5, h6⟩
  · exact .inl h
  · exact .inr ⟨h1, b, h2, h3, nLL h4 hb, h5, h6⟩
def ndV (f h : Nat → Value) (k : Nat) : List Value := (List.range k).flatMap (fun x => [f x, h x])
theorem ndV_snoc (f h : Nat → Value) (k : Nat) : ndV f h (k + 1) = ndV f h k ++ [f k, h k] := by simp [ndV, List.range_succ, List.flatMap_append]
theorem ndV_congr {f f' h h' : Nat → Value} : ∀ {k : Nat}, (∀ x, x < k → f x = f' x) → (∀ x, x < k → h x = h' x) → ndV f h k = ndV f' h' k
  | 0, _, _ => rfl
  | k + 1, h1, h2 => by rw [ndV_snoc, ndV_snoc, ndV_congr (fun x hx => h1 x om) (fun x hx => h2 x om), h1 k om, h2 k om]
theorem ndV_len (f h : Nat → Value) : ∀ k, (ndV f h k).length = k * 2
  | 0 => rfl
  | k + 1 => by rw [ndV_snoc, List.length_append, ndV_len f h k]; simp only [List.length_cons, List.length_nil]; omega
theorem ndV_get (f h : Nat → Value) : ∀ {k x : Nat}, x < k → (ndV f h k)[x * 2]? = some (f x) ∧ (ndV f h k)[x * 2 + 1]? = some (h x)
  | 0, _, hx => by omega
  | k + 1, x, hx => by
    have hl := ndV_len f h k
    rw [ndV_snoc]
    by_cases e : x < k
    · have ih := ndV_get f h e
      rw [List.getElem?_append_left om, List.getElem?_append_left om]
      exact ih
    · have e2 : x = k := by omega
      subst e2
      rw [List.getElem?_append_right om, List.getElem?_append_right om, hl]
      have e3 : x * 2 - x * 2 = 0 := by omega
      have e4 : x * 2 + 1 - x * 2 = 1 := by omega
      rw [e3, e4]; exact ⟨rfl, rfl⟩
theorem Own.fr {w w2 : World} {lo base : Nat} {e : TypeId} {sz : Nat} {A : Option Addr} {k cap : Nat} {xs : List Value} (h : Own w base e sz A k cap xs) (hl : lo ≤ base) (hf : FrSame lo w w2) : Own w2 base e sz A k cap xs := by
  refine ⟨h.1, ?_⟩
  rcases h.2 with hn | ⟨g, c, cur, hv, hb, hg, r⟩
  · exact .inl hn
  · exact .inr ⟨g, c, cur, hv, hb, (hf.blk g (nLT hl hb) (lt_of_heap hg)).trans hg, r⟩
end Go.Proofs.YtegngekpmpdngaaDoor
namespace Go.Proofs.YtegngekpmpdngaaDoor
open Go.RowKit
def SameQ (X : List Nat) (w w' : World) : Prop := Same X w w'
theorem SameQ.trans {X : List Nat} {a b c : World} (h : SameQ X a b) {Y : List Nat} (k : Same Y b c) (hy : ∀ g ∈ Y, g ∈ X) : SameQ X a c := Same.trans h (k.weak hy)
structure ChG (Z : Nat → Prop) (w w' : World) : Prop where
  os : w'.os = w.os
  tape : w'.tape = w.tape
  output : w'.output = w.output
  size : w.heap.size ≤ w'.heap.size
  blk : ∀ k, k < w.heap.size → ¬ Z k → w'.heap[k]? = w.heap[k]?
theorem ChG.refl (Z : Nat → Prop) (w : World) : ChG Z w w := ⟨rfl, rfl, rfl, Nat.le_refl _, fun _ _ _ => rfl⟩
theorem ChG.st {Z : Nat → Prop} {Y : List Nat} {a b c : World} (h : ChG Z a b) (k : Same Y b c) (hy : ∀ g ∈ Y, Z g ∨ a.heap.size ≤ g) : ChG Z a c :=
  ⟨k.os.trans h.os, k.tape.trans h.tape, k.output.trans h.output, nLT h.size k.size, fun i hi hx => (k.blk i (nLL hi h.size) (fun hm => (hy i hm).elim hx (fun h2 => by omega))).trans (h.blk i hi hx)⟩
theorem ChG.trans {Z Z' : Nat → Prop} {a b c : World} (h : ChG Z a b) (k : ChG Z' b c) (hz : ∀ g, Z' g → Z g ∨ a.heap.size ≤ g) : ChG Z a c :=
  ⟨k.os.trans h.os, k.tape.trans h.tape, k.output.trans h.output, nLT h.size k.size, fun i hi hx => (k.blk i (nLL hi h.size) (fun hm => (hz i hm).elim hx (fun h2 => by omega))).trans (h.blk i hi hx)⟩
theorem Blk.chG {Z : Nat → Prop} {w w' : World} {b t : Nat} {cs : Array Value} (h : Blk w b t cs) (hc : ChG Z w w') (hx : ¬ Z b) : Blk w' b t cs := (hc.blk b h.lt hx).trans h
theorem Bel.chG {Z : Nat → Prop} {w0 w w' : World} (h : Bel w0 w) (hc : ChG Z w w') (hz : ∀ g, Z g → w0.heap.size ≤ g) : Bel w0 w' :=
  ⟨hc.os.trans h.os, hc.tape.trans h.tape, hc.output.trans h.output, nLT h.size hc.size, fun k hk => (hc.blk k (nLL hk h.size) (fun hm => by have := hz k hm; omega)).trans (h.block k hk)⟩
theorem ChG.bel {Z : Nat → Prop} {w w' : World} (h : Bel w w') : ChG Z w w' := ⟨h.os, h.tape, h.output, h.size, fun k hk _ => h.block k hk⟩
theorem RowO.chG {w w' : World} {lo bs g : Nat} {v : Value} {xs : List (Int × Int)} {cs : Array Value} {t : TypeId} (h : RowO w lo bs v xs) (hb : Blk w g t cs) (ht : 30 ≠ t) (hc : ChG (fun k => k = g) w w') : RowO w' lo bs v xs := by
  obtain ⟨A, c, e, h1, h2⟩ := h
  refine ⟨A, c, e, ⟨h1.1, ?_⟩, h2⟩
  have hty := h1.typ
  rcases h1.2 with hn | ⟨q, c, cur, hv, hbb, hg, r⟩
  · exact .inl hn
  · refine .inr ⟨q, c, cur, hv, hbb, ?_, r⟩
    rw [hc.blk q (lt_of_heap hg) (fun e => ?_)]
    · exact hg
    · subst e; exact ht (blk_type hg hb)
def GrT (w : World) (lo hi : Nat) (A : Option Addr) (c : Nat) (gr : List Nd) (T : Nat → Int) : Prop :=
  ∃ V : Nat → Value, Own w lo 33 2 A gr.length c (ndV (fun x => .int .i64 (T x)) V gr.length) ∧ (∀ g ∈ aL A, g < hi) ∧ ∀ x, x < gr.length → RowO w lo hi (V x) (nd gr x).ln
def Dis (V : Nat → Value) (n : Nat) : Prop := ∀ x y, x < n → y < n → x ≠ y → ∀ A m c A' m' c', V x = .slice A m c → V y = .slice A' m' c' → ∀ g ∈ aL A, ¬ g ∈ aL A'
theorem Dis.congr {V V' : Nat → Value} {n : Nat} (h : Dis V n) (e : ∀ x, x < n → V x = V' x) : Dis V' n := fun x y hx hy hne A m c A' m' c' h1 h2 => h x y hx hy hne A m c A' m' c' ((e x hx).trans h1) ((e y hy).trans h2)
theorem Dis.snoc {V : Nat → Value} {L : Nat → List (Int × Int)} {w : World} {lo bs k n c : Nat} {A : Option Addr} (h : Dis V k) (hr : ∀ x, x < k → RowO w lo bs (V x) (L x)) (hg : ∀ g ∈ aL A, bs ≤ g) : Dis (fun x => if x = k then .slice A n c else V x) (k + 1) := fun x y hx hy hne A1 m1 c1 A2 m2 c2 h1 h2 g hg1 hg2 => by
  have far : ∀ z, z < k → ∀ A3 m3 c3, V z = .slice A3 m3 c3 → ∀ g ∈ aL A3, g < bs := fun z hz A3 m3 c3 e g hg => by
    obtain ⟨A4, c4, e4, _, h4⟩ := hr z hz
    rw [e] at e4
    cases e4
    exact h4 g hg
  by_cases e : x = k
  · simp only [e, if_true, Value.slice.injEq] at h1
    by_cases e2 : y = k
    · exact hne (by rw [e, e2])
    · simp only [e2, if_false] at h2
      rw [← h1.1] at hg1
      have := far y om _ _ _ h2 g hg2
      have := hg g hg1
      omega
  · simp only [e, if_false] at h1
    by_cases e2 : y = k
    · simp only [e2, if_true, Value.slice.injEq] at h2
      rw [← h2.1] at hg2
      have := far x om _ _ _ h1 g hg1
      have := hg g hg2
      omega
    · simp only [e2, if_false] at h2
      exact h x y om om hne _ _ _ _ _ _ h1 h2 g hg1 hg2
def GrD (w : World) (lo hi : Nat) (A : Option Addr) (c : Nat) (gr : List Nd) (T : Nat → Int) : Prop :=
  ∃ V : Nat → Value, Own w lo 33 2 A gr.length c (ndV (fun x => .int .i64 (T x)) V gr.length) ∧ (∀ g ∈ aL A, g < hi) ∧ (∀ x, x < gr.length → RowO w lo hi (V x) (nd gr x).ln) ∧ Dis V gr.length
section
variable {w w' : World} {lo hi c : Nat} {A : Option Addr} {gr : List Nd} {T : Nat → Int}
theorem GrD.mk {base bs m : Nat} {V f : Nat → Value} (ho : Own w base 33 2 A m c (ndV f V m)) (hm : gr.length = m) (hb : lo ≤ base) (hf : ∀ x, x < m → f x = .int .i64 (T x)) (hA : ∀ g ∈ aL A, g < hi) (hbs : bs ≤ hi) (hr : ∀ x, x < m → RowO w lo bs (V x) (nd gr x).ln) (hd : Dis V m) : GrD w lo hi A c gr T := by
  subst hm
  refine ⟨V, ?_, hA, fun x hx => (hr x hx).up hbs, hd⟩
  rw [ndV_congr (f' := f) (h' := V) (fun x hx => (hf x hx).symm) (fun _ _ => rfl)]
  exact ho.low hb
theorem GrT.cap_le (h : GrT w lo hi A c gr T) : gr.length ≤ c := by obtain ⟨V, ho, _⟩ := h; exact ho.cap_le
theorem GrT.congr (h : GrT w lo hi A c gr T) {T' : Nat → Int} (e : ∀ i, i < gr.length → T i = T' i) : GrT w lo hi A c gr T' := by
  obtain ⟨V, ho, hA, hr⟩ := h
  exact ⟨V, by rw [ndV_congr (f' := fun x => .int .i64 (T x)) (h' := V) (fun x hx => by rw [e x hx]) (fun _ _ => rfl)]; exact ho, hA, hr⟩
theorem GrT.tr {X : List Nat} (h : GrT w lo hi A c gr T) (hs : Same X w w') (hx : ∀ g ∈ X, g < lo ∨ hi ≤ g) : GrT w' lo hi A c gr T := by
  obtain ⟨V, ho, hA, hr⟩ := h
  refine ⟨V, ho.tr hs (fun g hg hm => ?_), hA, fun x hxl => ?_⟩
  · have h1 := hx g hm
    have h2 := (ho.lt g hg).1
    have h3 := hA g hg
    omega
  · obtain ⟨A2, c2, e, h1, h2⟩ := hr x hxl
    refine ⟨A2, c2, e, h1.tr hs (fun g hg hm => ?_), h2⟩
    have h3 := hx g hm
    have h4 := (h1.lt g hg).1
    have h5 := h2 g hg
    omega
theorem GrT.fr {w2 : World} (h : GrT w lo hi A c gr T) (hf : FrSame lo w w2) : GrT w2 lo hi A c gr T := by
  obtain ⟨V, ho, hA, hr⟩ := h
  exact ⟨V, ho.fr (Nat.le_refl _) hf, hA, fun x hx => (hr x hx).fr hf⟩
theorem GrT.up {hi' : Nat} (h : GrT w lo hi A c gr T) (hh : hi ≤ hi') : GrT w lo hi' A c gr T := by
  obtain ⟨V, ho, hA, hr⟩ := h
  exact ⟨V, ho, fun g hg => nLL (hA g hg) hh, fun x hx => (hr x hx).up hh⟩
theorem RowO.low {lo' bs : Nat} {v : Value} {xs : List (Int × Int)} (h : RowO w lo bs v xs) (hl : lo' ≤ lo) : RowO w lo' bs v xs := by
  obtain ⟨A, c, e, h1, h2⟩ := h
  exact ⟨A, c, e, h1.low hl, h2⟩
theorem GrT.low {lo' : Nat} (h : GrT w lo hi A c gr T) (hl : lo' ≤ lo) : GrT w lo' hi A c gr T := by
  obtain ⟨V, ho, hA, hr⟩ := h
  exact ⟨V, ho.low hl, hA, fun x hx => (hr x hx).low hl⟩
theorem GrT.mk {base bs m : Nat} {V f : Nat → Value} (ho : Own w base 33 2 A m c (ndV f V m)) (hm : gr.length = m) (hb : lo ≤ base) (hf : ∀ x, x < m → f x = .int .i64 (T x)) (hA : ∀ g ∈ aL A, g < hi) (hbs : bs ≤ hi) (hr : ∀ x, x < m → RowO w lo bs (V x) (nd gr x).ln) : GrT w lo hi A c gr T := by
  subst hm
  refine ⟨V, ?_, hA, fun x hx => (hr x hx).up hbs⟩
  rw [ndV_congr (f' := f) (h' := V) (fun x hx => (hf x hx).symm) (fun _ _ => rfl)]
  exact ho.low hb
theorem ndV_set0 {f V : Nat → Value} {n k : Nat} {v : Value} : (ndV f V n).set (0 + k * 2 + 0) v = ndV (fun x => if x = k then v else f x) V n := by
  refine List.ext_getElem? (fun j => ?_)
  by_cases hj : j < n * 2
  · have h2 : j / 2 < n := by omega
    rcases Nat.mod_two_eq_zero_or_one j with e | e
    · have e2 : j = j / 2 * 2 := by omega
      by_cases hjk : j / 2 = k
      · rw [show 0 + k * 2 + 0 = j by omega, List.getElem?_set_self (by rw [ndV_len]; exact hj)]
        have h3 := (ndV_get (fun x => if x = k then v else f x) V h2).1
        rw [← e2] at h3
        rw [h3, if_pos hjk]
      · rw [List.getElem?_set_ne om]
        have h3 := (ndV_get (fun x => if x = k then v else f x) V h2).1
        have h4 := (ndV_get f V h2).1
        rw [← e2] at h3 h4
        rw [h3, h4, if_neg hjk]
    · have e2 : j = j / 2 * 2 + 1 := by omega
      rw [List.getElem?_set_ne om]
      have h3 := (ndV_get (fun x => if x = k then v else f x) V h2).2
      have h4 := (ndV_get f V h2).2
      rw [← e2] at h3 h4
      rw [h3, h4]
  · rw [List.getElem?_eq_none (by rw [List.length_set, ndV_len]; omega), List.getElem?_eq_none (by rw [ndV_len]; omega)]
theorem GrT.open_ {k : Nat} (h : GrT w lo hi A c gr T) (hk : k < gr.length) : ∃ (V : Nat → Value) (g : Nat) (cur : Array Value), A = some ⟨g, 0, none⟩ ∧ lo ≤ g ∧ g < hi ∧ Blk w g 33 cur ∧ gr.length * 2 ≤ cur.size ∧ (∀ x, x < gr.length → cur[0 + x * 2 + 0]? = some (.int .i64 (T x))) ∧ (∀ x, x < gr.length → cur[0 + x * 2 + 1]? = some (V x)) ∧ (∀ x, x < gr.length → RowO w lo hi (V x) (nd gr x).ln) ∧
    ∀ w1 v, Blk w1 g 33 (cur.setIfInBounds (0 + k * 2 + 0) (.int .i64 v)) → (∀ x, x < gr.length → RowO w1 lo hi (V x) (nd gr x).ln) → GrT w1 lo hi (some ⟨g, 0, none⟩) c gr (fun x => if x = k then v else T x) := by
  obtain ⟨V, ho, hA, hr⟩ := h
  obtain ⟨g, cur, rfl, hg, hb, hsz, hrd, hcl⟩ := ho.open_ om
  refine ⟨V, g, cur, rfl, hg, hA g (List.mem_singleton.2 rfl), hb, hsz, fun x hx => ?_, fun x hx => ?_, hr, fun w1 v hw hr2 => ⟨V, ?_, hA, hr2⟩⟩
  · rw [hrd _ om, show 0 + x * 2 + 0 = x * 2 by omega]; exact (ndV_get _ _ hx).1
  · rw [hrd _ om, show 0 + x * 2 + 1 = x * 2 + 1 by omega]; exact (ndV_get _ _ hx).2
  · have h1 := hcl w1 _ _ hw
    rw [ndV_set0, ndV_congr (f' := fun x => .int .i64 (if x = k then v else T x)) (h' := V) (fun x _ => by by_cases e : x = k <;> simp [e]) (fun _ _ => rfl)] at h1
    exact h1
end
end Go.Proofs.YtegngekpmpdngaaDoor
namespace Go.Proofs.YtegngekpmpdngaaDoor
open Go.RowKit
section monoi
variable {P : Program} {Q : Exit → Act → World → Prop} {n : Nat} {f : Fr} {w : World}
def FinAll (p : List Nat → Prop) : List (List Nat) → Prop
  | [] => True
  | x :: r => p x ∧ FinAll p r
theorem FinAll.get {p : List Nat → Prop} : ∀ {xs : List (List Nat)}, FinAll p xs → ∀ x ∈ xs, p x
  | _ :: _, h, x, hx => by
    rcases List.mem_cons.1 hx with rfl | hx
    · exact h.1
    · exact FinAll.get h.2 x hx
end monoi
def Kept (lo hi : Nat) (w : World) (p : World → Prop) : Prop := hi ≤ w.heap.size ∧ ∀ w2 : World, hi ≤ w2.heap.size → (∀ b, lo ≤ b → b < hi → w2.heap[b]? = w.heap[b]?) → p w2
theorem Kept.now {lo hi : Nat} {w : World} {p : World → Prop} (h : Kept lo hi w p) : p w := h.2 w h.1 (fun _ _ _ => rfl)
theorem Kept.tr {lo hi : Nat} {w w' : World} {p : World → Prop} {X : List Nat} (h : Kept lo hi w p) (hs : Same X w w') (hx : ∀ g ∈ X, g < lo ∨ hi ≤ g) : Kept lo hi w' p :=
  ⟨nLT h.1 hs.size, fun w2 h2 hb => h.2 w2 h2 (fun b h3 h4 => (hb b h3 h4).trans (hs.blk b (nLL h4 h.1) (fun hX => by rcases hx b hX with h5 | h5 <;> omega)))⟩
theorem Kept.tr0 {lo hi : Nat} {w w' : World} {p : World → Prop} (h : Kept lo hi w p) (hs : Same [] w w') : Kept lo hi w' p := h.tr hs (by simp)
theorem Kept.tr1 {lo hi b : Nat} {w w' : World} {p : World → Prop} (h : Kept lo hi w p) (hs : Same [b] w w') (hx : b < lo ∨ hi ≤ b) : Kept lo hi w' p := h.tr hs (fun g hg => by rw [List.mem_singleton.1 hg]; exact hx)
theorem Kept.imp {lo hi : Nat} {w : World} {p q : World → Prop} (h : Kept lo hi w p) (k : ∀ w2, p w2 → q w2) : Kept lo hi w q := ⟨h.1, fun w2 h2 hb => k w2 (h.2 w2 h2 hb)⟩
end Go.Proofs.YtegngekpmpdngaaDoor
namespace Go.Proofs.YtegngekpmpdngaaDoor
open Go.RowKit
def iV (xs : List Int) : List Value := xs.map (Value.int .i64)
theorem iV_len (xs : List Int) : (iV xs).length = xs.length := by simp [iV]
theorem iV_one (xs : List Int) : (iV xs).all (·.oneCell') = true := by simp [iV, List.all_eq_true]; intros; rfl
theorem IntsIn.news {w : World} {A : Option Addr} {xs : List Int} (h : IntsIn w A xs) : 0 < xs.length → ∃ b o', A = some ⟨b, o', none⟩ ∧ ∀ j u, (iV xs)[j]? = some u → w.cell? ⟨b, o' + j, none⟩ = some u := fun hm => by
  obtain ⟨b, o, e, _, hc⟩ := h.2 (by rintro rfl; simp at hm)
  refine ⟨b, o, e, fun j u hj => ?_⟩
  simp only [iV, List.getElem?_map, Option.map_eq_some_iff] at hj
  obtain ⟨x, hx, rfl⟩ := hj
  obtain ⟨hk, rfl⟩ := List.getElem?_eq_some_iff.1 hx
  simpa using hc j hk
def MatIn (w : World) (A : Option Addr) (L : List (List Int)) : Prop :=
  L.length ≤ maxI ∧ (L ≠ [] → ∃ b o, A = some ⟨b, o, none⟩ ∧ b < w.heap.size ∧ ∀ k (hk : k < L.length), ∃ A' c, w.cell? ⟨b, o + k * 1, none⟩ = some (.slice A' (L[k]).length c) ∧ IntsIn w A' L[k])
theorem MatIn.mono {w w' : World} {A : Option Addr} {L : List (List Int)} (h : MatIn w A L) (hb : Bel w w') : MatIn w' A L :=
  ⟨h.1, fun hn => by
    obtain ⟨b, o, e, hl, hc⟩ := h.2 hn
    refine ⟨b, o, e, nLL hl hb.size, fun k hk => ?_⟩
    obtain ⟨A', c, h1, h2⟩ := hc k hk
    exact ⟨A', c, hb.cell hl h1, h2.mono hb⟩⟩
theorem MatIn.at_ {w w' : World} {A : Option Addr} {L : List (List Int)} (h : MatIn w A L) (hb : Bel w w') {k : Nat} (hk : k < L.length) :
    ∃ b o A' c, A = some ⟨b, o, none⟩ ∧ w'.cell? ⟨b, o + k * 1, none⟩ = some (.slice A' (L[k]).length c) ∧ IntsIn w A' L[k] := by
  obtain ⟨b, o, e, hl, hc⟩ := h.2 (by rintro rfl; simp at hk)
  obtain ⟨A', c, h1, h2⟩ := hc k hk
  exact ⟨b, o, A', c, e, hb.cell hl h1, h2⟩
end Go.Proofs.YtegngekpmpdngaaDoor
namespace Go.Proofs.YtegngekpmpdngaaDoor
open Go.RowKit
structure GV (l : List Ty) (fs : List Ft) (g : List Nd) : Prop where
  h : (hierFault l fs).1 = 0
  s : Sound l
  few : fs.length ≤ 40
  f : FOk l.length fs
  gok : GOk l.length fs.length g
  t : tyF l fs g = (0, 0)
  u : ¬ 0 ≤ unrI g
  lo : (looseF l.length fs.length g).1 = 0
theorem gv_of {l : List Ty} {fs : List Ft} {g : List Nd} (h : (graphF l fs g).1 = 0) : GV l fs g := by
  by_cases h0 : (hierFault l fs).1 = 0
  · rw [gf_in h0] at h
    by_cases h1 : (looseF l.length fs.length g).1 = 0
    · by_cases h2 : (tyF l fs g).1 = 0
      · have h2' : tyF l fs g = (0, 0) := firstF_zz h2
        by_cases h3 : 0 ≤ unrI g
        · rw [wi_unr h1 h2' h3] at h; cases h
        · refine ⟨h0, sound_of h0, ?_, fok_of h0, gok_of h1, h2', h3, h1⟩
          unfold hierFault at h0
          by_cases h4 : 40 < fs.length
          · rw [if_pos h4] at h0; cases h0
          · omega
      · unfold withinF at h
        rw [if_neg (fun e => e h1), if_pos h2] at h
        exact absurd h h2
    · rw [wi_loose h1] at h; exact absurd h h1
  · rw [gf_hier h0] at h; exact absurd h h0
theorem DL.sub {g : List Nd} {is a b : List Nat} (h : DL g is a b) : ∀ x ∈ a, x ∈ b := by
  induction h with
  | nil => exact fun x h => h
  | old h t ih => exact ih
  | new h s t ihs iht => exact fun x hx => iht x (ihs x (List.mem_append_left _ hx))
theorem DL.has {g : List Nd} {is a b : List Nat} (h : DL g is a b) : ∀ i ∈ is, i ∈ b := by
  induction h with
  | nil => exact fun i h => by cases h
  | old h t ih =>
    intro i hi
    rcases List.mem_cons.1 hi with rfl | hi
    · exact t.sub _ h
    · exact ih i hi
  | new h s t ihs iht =>
    intro i hi
    rcases List.mem_cons.1 hi with rfl | hi
    · exact t.sub _ (s.sub _ (by simp))
    · exact iht i hi
theorem DL.clo {g : List Nd} {is a b : List Nat} (h : DL g is a b) : ∀ x ∈ b, ¬ x ∈ a → ∀ t ∈ succN g x, t ∈ b := by
  induction h with
  | nil => exact fun x h1 h2 => absurd h1 h2
  | old h t ih => exact ih
  | new h s t ihs iht =>
    rename_i i is o o1 o'
    intro x hx hn y hy
    by_cases h1 : x ∈ o1
    · by_cases h2 : x = i
      · subst h2; exact t.sub _ (s.has y hy)
      · exact t.sub _ (ihs x h1 (fun h3 => by
          rcases List.mem_append.1 h3 with h3 | h3
          · exact hn h3
          · exact h2 (List.mem_singleton.1 h3)) y hy)
    · exact iht x hx h1 y hy
theorem DL.rch {g : List Nd} (hr : ∀ i, i < g.length → ∀ t ∈ succN g i, t < g.length) {is a b : List Nat} (h : DL g is a b) : (∀ i ∈ is, i < g.length) → (∀ i ∈ is, Rch g i) → (∀ x ∈ a, Rch g x) → ∀ x ∈ b, Rch g x := by
  induction h with
  | nil => exact fun _ _ h => h
  | old h t ih => exact fun hi hR ha => ih (fun i h => hi i (List.mem_cons_of_mem _ h)) (fun i h => hR i (List.mem_cons_of_mem _ h)) ha
  | new h s t ihs iht =>
    rename_i i is o o1 o'
    intro hi hR ha
    have hlt := hi i (List.mem_cons_self ..)
    have hRi := hR i (List.mem_cons_self ..)
    refine iht (fun i h => hi i (List.mem_cons_of_mem _ h)) (fun i h => hR i (List.mem_cons_of_mem _ h)) (ihs (hr i hlt) (fun t ht => ?_) (fun x hx => ?_))
    · simp only [succN, nd_eq hlt, List.mem_map] at ht
      obtain ⟨y, hy, rfl⟩ := ht
      exact .step hRi hlt hy
    · rcases List.mem_append.1 hx with hx | hx
      · exact ha x hx
      · rw [List.mem_singleton.1 hx]; exact hRi
structure Tr (g : List Nd) (o : List Nat) : Prop where
  dl : DL g [0] [] o
  ok : OOk g.length o
  nd : o.Nodup
  pos : 0 < o.length
  zero : o.idxOf 0 = 0
  clo : ∀ x ∈ o, ∀ t ∈ succN g x, t ∈ o
theorem get_idx {o : List Nat} {x : Nat} (hx : x ∈ o) : ∃ h : o.idxOf x < o.length, o[o.idxOf x] = x := ⟨List.idxOf_lt_length_of_mem hx, List.getElem_idxOf _⟩
theorem numO_in {o : List Nat} {x : Nat} (hx : x ∈ o) : numO o x = (o.idxOf x : Nat) := by simp [numO, hx]
theorem canG_len (g : List Nd) (o : List Nat) : (canG g o).length = o.length := by simp [canG]
theorem canG_nd {g : List Nd} {o : List Nat} {x : Nat} (hx : x ∈ o) : nd (canG g o) (o.idxOf x) = canN g o x := by
  obtain ⟨h1, h2⟩ := get_idx hx
  rw [nd_eq (by rw [canG_len]; exact h1)]
  simp [canG, h2]
theorem canG_succ {g : List Nd} {o : List Nat} (h : ∀ x ∈ o, ∀ t ∈ succN g x, t ∈ o) {x : Nat} (hx : x ∈ o) : succN (canG g o) (o.idxOf x) = (succN g x).map (o.idxOf ·) := by
  unfold succN
  rw [canG_nd hx]
  simp only [canN, List.map_map]
  refine List.map_congr_left (fun y hy => ?_)
  have : y.2.toNat ∈ o := h x hx _ (by simp only [succN, List.mem_map]; exact ⟨y, hy, rfl⟩)
  simp [canL, numO_in this]
theorem DL.map {g : List Nd} {o : List Nat} (hc : ∀ x ∈ o, ∀ t ∈ succN g x, t ∈ o) {is a b : List Nat} (h : DL g is a b) : (∀ x ∈ b, x ∈ o) → DL (canG g o) (is.map (o.idxOf ·)) (a.map (o.idxOf ·)) (b.map (o.idxOf ·)) := by
  have inj : ∀ x y, x ∈ o → y ∈ o → o.idxOf x = o.idxOf y → x = y := fun x y hx hy e => by
    obtain ⟨h1, h2⟩ := get_idx hx
    obtain ⟨h3, h4⟩ := get_idx hy
    rw [← h2, ← h4]
    simp only [e]
  induction h with
  | nil => exact fun _ => .nil
  | old h t ih =>
    intro hb
    exact .old (List.mem_map_of_mem h) (ih hb)
  | new h s t ihs iht =>
    rename_i i is o0 o1 o'
    intro hb
    have hio := hb i (t.sub _ (s.sub _ (by simp)))
    refine .new (fun hm => ?_) ?_ (iht hb)
    · obtain ⟨y, hy, e⟩ := List.mem_map.1 hm
      have hyo := hb y (t.sub _ (s.sub _ (List.mem_append_left _ hy)))
      exact h (inj y i hyo hio e ▸ hy)
    · have := ihs (fun x hx => hb x (t.sub _ hx))
      rw [List.map_append] at this
      rw [canG_succ hc hio]
      exact this
end Go.Proofs.YtegngekpmpdngaaDoor
