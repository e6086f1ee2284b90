/- What these functions of the program compute, at every world: glosswright/glosswrightlaw3.UnifyAllMatchesSpec. -/
import Derived.Test.YteoncmfiiknfbaaDoorU
import Derived.Test.YteoncmfiiknfbaaDoorEng7
import Derived.Test.YteoncmfiiknfbaaDoorRUni
namespace Go.Proofs.YteoncmfiiknfbaaDoor
open Go.RowKit
def sh3 : List Nd := [⟨3, [(0, 1), (1, 1)]⟩, ⟨2, []⟩]
theorem sh3_ok : (graphF pairT pairF sh3).1 = 0 := by
  have h0 : Rch sh3 0 := .zero
  have hu : (-1 : Int) = unrI sh3 := unr_is (.inl ⟨rfl, fun i hi => by
    have hi3 : i < 2 := hi
    match i, hi3 with
    | 0, _ => exact h0
    | 1, _ => exact Rch.step (x := (0, 1)) h0 dE dE⟩)
  rw [gf_in (by rw [pair_fault]), wi_zero (by decide +kernel) (by decide +kernel) om]
theorem maps_a_sh3 : Maps pairT apartG sh3 := ⟨fun i => if i = 0 then 0 else 1, by
  refine ⟨rfl, fun i hi => ?_, fun i hi => ?_, fun i hi => ?_⟩ <;> (have hi3 : i < 3 := hi) <;> (match i, hi3 with | 0, _ => ?_ | 1, _ => ?_ | 2, _ => ?_) <;> decide +kernel⟩
theorem maps_s_sh3 : Maps pairT sharedG sh3 := ⟨fun i => i, by
  refine ⟨rfl, fun i hi => ?_, fun i hi => ?_, fun i hi => ?_⟩ <;> (have hi3 : i < 2 := hi) <;> (match i, hi3 with | 0, _ => ?_ | 1, _ => ?_) <;> decide +kernel⟩
theorem maps_3_sh3 : Maps pairT single3 sh3 := ⟨fun _ => 0, by
  refine ⟨rfl, fun i hi => ?_, fun i hi => ?_, fun i hi => ?_⟩ <;> (have hi3 : i < 1 := hi) <;> (match i, hi3 with | 0, _ => ?_) <;> decide +kernel⟩
theorem sh3_least {c : List Nd} (h1 : Maps pairT sharedG c) (h2 : Maps pairT single3 c) : Maps pairT sh3 c := by
  obtain ⟨φ, hφ⟩ := h1
  obtain ⟨ψ, hψ⟩ := h2
  have l0 := hφ.ln 0 dE
  refine ⟨φ, hφ.zero, fun i hi => ?_, fun i hi => ?_, fun i hi => ?_⟩ <;> (have hi3 : i < 2 := hi) <;> (match i, hi3 with | 0, _ => ?_ | 1, _ => ?_)
  · exact hφ.lt 0 dE
  · exact hφ.lt 1 dE
  · have := hψ.ty 0 dE; rw [hψ.zero] at this; rw [hφ.zero]; exact this
  · exact hφ.ty 1 dE
  · exact l0
  · intro x hx; exact absurd hx (by rw [show (nd sh3 1).ln = [] from rfl]; simp)
theorem va_top (gs : List (List Nd)) (k : Nat) : VA (topG :: gs) (k + 1) = UA gs k := rfl
theorem pa_top (gs : List (List Nd)) : PA (topG :: gs) (List.replicate gs.length 0) = JA gs gs.length := by
  unfold PA JA
  rw [List.length_replicate]
  refine List.map_congr_left (fun k hk => ?_)
  have hk2 := List.mem_range.1 hk
  rw [va_top]
  have e : (List.replicate gs.length 0).getD k 0 = 0 := by simp [List.getD, hk2]
  rw [e]
def UnY (l : List Ty) (gs : List (List Nd)) (Y : List Nd) : Prop := (Bound l (UA gs gs.length) (JA gs gs.length) ∧ UniR l (UA gs gs.length) (JA gs gs.length) Y) ∨ (¬ Bound l (UA gs gs.length) (JA gs gs.length) ∧ Y = [])
section alls
variable {l : List Ty} {fs : List Ft} {gs : List (List Nd)} {X Y : List Nd} {ok : Bool} {f : Fl}
theorem unir_bound (hs : Sound l) (ht : (typesFault l).1 = 0) (hgs : ∀ i (hi : i < gs.length), GX l gs[i]) (h : UniR l (UA gs gs.length) (JA gs gs.length) Y) : Bound l (UA gs gs.length) (JA gs gs.length) := by
  have hl := all_lub hs ht hgs h
  obtain ⟨θ, h1, h2, _⟩ := all_adm hs ht (fun i hi => (hgs i hi).toGY) hl.gx.toGY hl.maps gs.length (Nat.le_refl _)
  exact ⟨Y, θ, hl.gx.toGY.tr, h1, h2⟩
theorem alls_bad (h0 : ¬ (allF l fs gs).1 = 0) (hU : AllS l fs gs ok f X) : ok = false ∧ f = allF l fs gs ∧ X = [] := by
  rcases hU with ⟨_, h⟩ | ⟨h, _⟩ | ⟨h, _⟩ | ⟨h, _⟩
  · exact h
  · exact absurd h h0
  · exact absurd h h0
  · exact absurd h h0
theorem alls_ref (h0 : (allF l fs gs).1 = 0) (hU : AllS l fs gs ok f X) (hY : UnY l gs Y) {ok2 : Bool} (hk : ok2 = true ↔ Bound l (UA gs gs.length) (JA gs gs.length)) : (ok2 = true → 60 < Y.length → f = (17, -1) ∧ ok = false ∧ X = []) ∧ (¬ (ok2 = true ∧ 60 < Y.length) → f = (0, 0) ∧ ok = ok2 ∧ X = Y) := by
  obtain ⟨hh, _, hgz⟩ := all_gv h0
  have hgv : ∀ i (hi : i < gs.length), GV l fs gs[i] := fun i hi => gv_of (hgz i hi)
  have hs := sound_of hh
  have ht := types0_of hh
  have hgx : ∀ i (hi : i < gs.length), GX l gs[i] := fun i hi => (hgv i hi).gx
  have un : ∀ {A B : List Nd}, LubL l gs A → LubL l gs B → A = B := fun a b => a.uniq b (fun i hi => ⟨i, hi, rfl⟩) (fun i hi => ⟨i, hi, rfl⟩)
  rcases hY with ⟨hb, hY⟩ | ⟨hb, rfl⟩
  · have hl := all_lub hs ht hgx hY
    have hok2 := hk.2 hb
    subst hok2
    refine ⟨fun _ h60 => ?_, fun h60 => ?_⟩ <;> rcases hU with ⟨h, _⟩ | ⟨_, _, _, _, h⟩ | ⟨_, h2, h3, h4, Z, hZ, h6⟩ | ⟨_, h2, h3, hX, h5, _⟩
    · exact absurd h0 h
    · exact absurd ⟨Y, hl.gx.toGY, hl.maps⟩ h
    · exact ⟨h3, h2, h4⟩
    · rw [un hX hl] at h5; omega
    · exact absurd h0 h
    · exact absurd ⟨Y, hl.gx.toGY, hl.maps⟩ h
    · rw [un hZ hl] at h6; exact absurd ⟨rfl, h6⟩ h60
    · exact ⟨h3, h2, un hX hl⟩
  · have hok2 : ok2 = false := by
      cases ok2 with
      | false => rfl
      | true => exact absurd (hk.1 rfl) hb
    subst hok2
    have hn := all_bound hs ht (fun i hi => (hgx i hi).toGY) (Nat.le_refl _) hb
    refine ⟨(fun h => nomatch h), fun _ => ?_⟩
    rcases hU with ⟨h, _⟩ | ⟨_, h2, h3, h4, _⟩ | ⟨_, _, _, _, Z, hZ, _⟩ | ⟨_, _, _, hX, _⟩
    · exact absurd h0 h
    · exact ⟨h3, h2, h4⟩
    · exact absurd ⟨Z, hZ.gx.toGY, hZ.maps⟩ hn
    · exact absurd ⟨X, hX.gx.toGY, hX.maps⟩ hn
def AFS (l : List Ty) (fs : List Ft) (gs : List (List Nd)) (k : Nat) (F : Fl) : Prop := (F.1 = 0 ∧ (hierFault l fs).1 = 0 ∧ ¬ 300 < gs.length ∧ ∀ i (hi : i < gs.length), i < k → (withinF l fs gs[i]).1 = 0) ∨ (¬ F.1 = 0 ∧ F = allF l fs gs)
theorem afs_two (h : (hierFault l fs).1 = 0 ∧ 300 < gs.length) : AFS l fs gs 0 (2, -2) := .inr ⟨(by decide : ¬ (2 : Int) = 0), (allF_many h.1 h.2).symm⟩
theorem afs_hier (h : ¬ ((hierFault l fs).1 = 0 ∧ 300 < gs.length)) : AFS l fs gs 0 (hierFault l fs) := by
  by_cases h1 : (hierFault l fs).1 = 0
  · exact .inl ⟨h1, h1, fun h2 => h ⟨h1, h2⟩, fun i hi h => absurd h (Nat.not_lt_zero _)⟩
  · exact .inr ⟨h1, (allF_h h1).symm⟩
variable {F : Fl} {k : Nat}
theorem afs_in (h : AFS l fs gs k F) (h0 : F.1 = 0) : (hierFault l fs).1 = 0 ∧ ¬ 300 < gs.length ∧ ∀ i (hi : i < gs.length), i < k → (withinF l fs gs[i]).1 = 0 := by
  rcases h with ⟨_, h⟩ | ⟨h, _⟩
  · exact h
  · exact absurd h0 h
theorem afs_good (h : AFS l fs gs k F) (h0 : F.1 = 0) (hk : k < gs.length) (hw : (withinF l fs gs[k]).1 = 0) : AFS l fs gs (k + 1) F := by
  obtain ⟨h1, h2, h3⟩ := afs_in h h0
  refine .inl ⟨h0, h1, h2, fun i hi hik => ?_⟩
  by_cases e : i = k
  · subst e; exact hw
  · exact h3 i hi om
theorem afs_bad (h : AFS l fs gs k F) (h0 : F.1 = 0) (hk : k < gs.length) (hw : ¬ (withinF l fs gs[k]).1 = 0) : AFS l fs gs (k + 1) ((withinF l fs gs[k]).1, (k : Int)) := by
  obtain ⟨h1, h2, h3⟩ := afs_in h h0
  exact .inr ⟨hw, (allF_bad h1 h2 hk (fun i hi => h3 i om hi) hw).symm⟩
theorem afs_end (h : AFS l fs gs k F) (h0 : ¬ F.1 = 0) : F = allF l fs gs ∧ ¬ (allF l fs gs).1 = 0 := by
  rcases h with ⟨h, _⟩ | ⟨_, h⟩
  · exact absurd h h0
  · exact ⟨h, by rw [← h]; exact h0⟩
theorem afs_zero (h : AFS l fs gs k F) (h0 : F.1 = 0) (hk : gs.length ≤ k) : (allF l fs gs).1 = 0 := by
  obtain ⟨h1, h2, h3⟩ := afs_in h h0
  exact allF_zero h1 h2 (fun i hi => h3 i hi om)
end alls
theorem ualla_any {w : World} {A B : Option Addr} {b : Nat} (hTab : TabIn w) (hT : TypesIn w A pairT) (hF : FeatsIn w B pairF) (hL : GrsIn w (some ⟨b, 0, none⟩) [apartG, sharedG, single3]) : Calls Tryd.prog 9 #[.agg #[.slice A 4 4, .slice B 2 2], .slice (some ⟨b, 0, none⟩) 3 3] w fun e w' => (∃ GA, e = .returned (.tuple #[.agg #[.slice GA 2 2], .bool true, .agg #[.int .i64 0, .int .i64 0]])) ∧ Bel w w' := by
  refine (uall_any A B _ 4 2 3 pairT pairF [apartG, sharedG, single3] w hTab hT hF hL).mono fun e w' h => ?_
  obtain ⟨⟨GA, X, ok, f, he, _, hU⟩, hs⟩ := h
  have h0 : (allF pairT pairF [apartG, sharedG, single3]).1 = 0 := all_zero (gv_of shared_ok).h (by simp) (fun g hg => by
    simp only [List.mem_cons, List.not_mem_nil, or_false] at hg
    rcases hg with rfl | rfl | rfl
    · exact apart_ok
    · exact shared_ok
    · exact single3_ok)
  have hg3 := (gv_of sh3_ok).gx
  have hall : ∀ i (hi : i < [apartG, sharedG, single3].length), Maps pairT ([apartG, sharedG, single3][i]) sh3 := fun i hi => by
    match i, hi with
    | 0, _ => exact maps_a_sh3
    | 1, _ => exact maps_s_sh3
    | 2, _ => exact maps_3_sh3
  have key : ∀ {Y : List Nd}, LubL pairT [apartG, sharedG, single3] Y → Y.length = 2 := fun hY =>
    maps_len hY.gx hg3 (hY.least sh3 hg3.toGY hall) (sh3_least (hY.maps 1 (by simp)) (hY.maps 2 (by simp)))
  rcases hU with ⟨h, _⟩ | ⟨_, _, _, _, h⟩ | ⟨_, _, _, _, Z, hZ, h6⟩ | ⟨_, rfl, rfl, hX, _⟩
  · exact absurd h0 h
  · exact absurd ⟨sh3, hg3.toGY, hall⟩ h
  · have := key hZ; omega
  · rw [key hX] at he
    exact ⟨⟨GA, he⟩, hs⟩
theorem wl_appGrs {Q : Exit → Act → World → Prop} {n : Nat} {f : Fr} {w0 w : World} {ops : Array Oper} {rest : List Oper} {d : Tmp} {ty : TypeId} {pos : String} {af : Array Edge} {x y : Operand} {b lc : Nat} {A1 LA : Option Addr} {gs : List (List Nd)} (hx : ev n f x = .slice (some ⟨b, 0, none⟩) 1 1) (hy : ev n f y = .slice LA gs.length lc) (hb : Blk w b 28 #[.slice A1 1 1]) (h1 : NodesIn w A1 topG) (hL : GrsIn w0 LA gs) (hB : Bel w0 w) (h3 : gs.length ≤ 300)
    (K : ∀ A4 c4 w1, GrsIn w1 A4 (topG :: gs) → Same [] w w1 → WL Tryd.prog ops Q rest n (upd f d (.slice A4 (1 + gs.length) c4)) w1) :
    WL Tryd.prog ops Q (⟨some d, .call { callee := .builtin .append, args := #[x, y], argTypes := #[35, 35] }, ty, pos, af, none⟩ :: rest) n f w := by
  by_cases hne : gs = []
  · subst hne
    refine wl (r_app0 U35 (sz := 1) kR (Nat.le_refl 1) hx hy) ?_
    refine K _ _ _ ⟨by simp [maxI], fun _ => ⟨b, 0, rfl, hb.lt, fun k hk => ?_⟩⟩ (Same.refl _ _)
    have hr0 : w.rangeAt b (0 + 0 * 1) [.slice A1 1 1] := fun j v hj => by
      match j, hj with
      | 0, hj => cases hj; exact hb.cell rfl
      | _ + 1, hj => cases hj
    match k, hk with
    | 0, _ => exact ⟨A1, 1, hr0, h1⟩
  · obtain ⟨gb, go, rfl, hgl, hgc⟩ := hL.2 hne
    have hpos := List.length_pos_iff.2 hne
    have hget : ∀ k (hk : k < gs.length), ∃ A' c', w.cell? ⟨gb, go + k * 1, none⟩ = some (.slice A' (gs[k]).length c') ∧ NodesIn w A' gs[k] := fun k hk => by
      obtain ⟨A', c', h2, h4⟩ := hgc k hk
      exact ⟨A', c', hB.cell hgl (h2 0 _ rfl), h4.mono hB⟩
    have hnk : ∀ k (hk : k < gs.length), ∃ A' c', ((List.range gs.length).map (fun k => (w.cell? ⟨gb, go + k * 1, none⟩).getD undef))[k]? = some (.slice A' (gs[k]).length c') ∧ NodesIn w A' gs[k] := fun k hk => by
      obtain ⟨A', c', h2, h4⟩ := hget k hk
      refine ⟨A', c', ?_, h4⟩
      rw [List.getElem?_map, List.getElem?_range hk]
      show some ((w.cell? ⟨gb, go + k * 1, none⟩).getD undef) = some _
      rw [h2]; rfl
    refine wl_appG (olds := [.slice A1 1 1]) (news := (List.range gs.length).map (fun k => (w.cell? ⟨gb, go + k * 1, none⟩).getD undef)) U35 (zv := .agg #[.slice none 0 0]) (sz := 1) (by' := 24) kR hx hy rfl (fun j v hj => ?_) (by simp) (fun j v hj => ?_) om om om (fun q cap' w1 hq hs hr => ?_)
    · match j, hj with
      | 0, hj => cases hj; exact hb.cell rfl
      | _ + 1, hj => cases hj
    · have hjl := (List.getElem?_eq_some_iff.1 hj).1
      rw [List.length_map, List.length_range] at hjl
      obtain ⟨A', c', h2, _⟩ := hget j hjl
      rw [List.getElem?_map, List.getElem?_range hjl] at hj
      have e : (w.cell? ⟨gb, go + j * 1, none⟩).getD undef = v := Option.some.inj hj
      rw [h2] at e
      have e2 : Value.slice A' (gs[j]).length c' = v := e
      rw [← e2]; simpa using h2
    · refine K _ _ _ ⟨by simp only [List.length_cons]; unfold maxI; omega, fun _ => ⟨q, 0, rfl, hq.lt, fun k hk => ?_⟩⟩ hs
      have hr0 : w1.rangeAt q (0 + 0 * 1) [.slice A1 1 1] := fun j v hj => by
        match j, hj with
        | 0, hj =>
          cases hj
          refine hq.cell ?_
          rw [show 0 + 0 * 1 + 0 = 0 from rfl, Array.getElem?_append_left (by simp), Array.getElem?_append_left (by simp)]
          rfl
        | _ + 1, hj => cases hj
      match k, hk with
      | 0, _ => exact ⟨A1, 1, hr0, h1.mono hs.bel⟩
      | k + 1, hk =>
        have hk2 : k < gs.length := by simpa using hk
        obtain ⟨A', c', h2, h4⟩ := hnk k hk2
        refine ⟨A', c', fun j v hj => ?_, h4.mono hs.bel⟩
        match j, hj with
        | 0, hj =>
          cases hj
          refine hq.cell ?_
          have hl : ((List.range gs.length).map (fun k => (w.cell? ⟨gb, go + k * 1, none⟩).getD undef)).length = gs.length := by simp
          have e1 : 0 + (k + 1) * 1 + 0 = k + 1 := by omega
          rw [e1, Array.getElem?_append_left (by simp; omega)]
          rw [Array.getElem?_append_right (by simp)]
          simp only [List.size_toArray, List.length_cons, List.length_nil, Nat.zero_add, Nat.add_sub_cancel, List.getElem?_toArray]
          exact h2
        | _ + 1, hj => cases hj
theorem cell_keep {w w2 : World} {b b' o : Nat} {v : Value} (hs : Same [b] w w2) (hl : b' < w.heap.size) (hne : b' ≠ b) (h : w.cell? ⟨b', o, none⟩ = some v) : w2.cell? ⟨b', o, none⟩ = some v := by
  have hh := hs.blk b' hl (by simpa using hne)
  unfold World.cell? at h ⊢
  rw [hh]; exact h
theorem int_ne {w : World} {b b' o n c : Nat} {t : TypeId} {A : Option Addr} {k : IntKind} {z : Int} (hb : Blk w b t #[.slice A n c]) (h : w.cell? ⟨b', o, none⟩ = some (.int k z)) : b' ≠ b := fun e => by
  subst e
  rw [cell_of_row w b' o _ t (0, 0) hb] at h
  match o, h with
  | 0, h => cases h
  | _ + 1, h => simp at h
theorem NodesIn.keep {w w2 : World} {b n c : Nat} {t : TypeId} {A G : Option Addr} {g : List Nd} (h : NodesIn w G g) (hb : Blk w b t #[.slice A n c]) (hs : Same [b] w w2) : NodesIn w2 G g := by
  refine ⟨h.1, fun hne => ?_⟩
  obtain ⟨gb, go, e, hl, hc⟩ := h.2 hne
  refine ⟨gb, go, e, lL hl hs.size, fun k hk => ?_⟩
  obtain ⟨A', c', h1, h2⟩ := hc k hk
  have hgb := int_ne hb (h1 0 _ rfl)
  refine ⟨A', c', fun j v hj => cell_keep hs hl hgb (h1 j v hj), h2.1, fun hx => ?_⟩
  obtain ⟨lb, lo, e2, hl2, hc2⟩ := h2.2 hx
  have hlb := int_ne hb (hc2 0 (List.length_pos_iff.2 hx) 0 _ rfl)
  exact ⟨lb, lo, e2, lL hl2 hs.size, fun j hj i v hv => cell_keep hs hl2 hlb (hc2 j hj i v hv)⟩
theorem ints_rep {w : World} {b n : Nat} (h : Blk w b 3 (row n (fun _ => .int .i64 0))) (hn : n ≤ maxI) : IntsIn w (some ⟨b, 0, none⟩) ((List.replicate n 0).map (fun n : Nat => (n : Int))) :=
  ⟨by simpa using hn, fun _ => ⟨b, 0, rfl, h.lt, fun k hk => by
    have hk2 : k < n := by simpa using hk
    simp only [List.getElem_map, List.getElem_replicate]
    exact h.cell (row_get hk2)⟩⟩
theorem joinA_any (A B A4 AT : Option Addr) (c d c4 : Nat) (l : List Ty) (fs : List Ft) (gs : List (List Nd)) (w : World) (hT : TypesIn w A l) (hG4 : GrsIn w A4 (topG :: gs)) (hI : IntsIn w AT ((List.replicate gs.length 0).map (fun n : Nat => (n : Int)))) (hgv : ∀ i (hi : i < gs.length), GV l fs gs[i]) (hh : (hierFault l fs).1 = 0) (h300 : ¬ 300 < gs.length) (hN2 : (UA gs gs.length).length ≤ 2001) : Calls Tryd.prog 22 #[.agg #[.slice A l.length c, .slice B fs.length d], .slice A4 (1 + gs.length) c4, .slice AT gs.length gs.length] w fun e w' => (∃ AY Y cY okY, e = .returned (.tuple #[.agg #[.slice AY (List.length Y) cY], .bool okY]) ∧ NodesIn w' AY Y ∧ UnY l gs Y ∧ (okY = true ↔ Bound l (UA gs gs.length) (JA gs gs.length))) ∧ Bel w w' := by
  have hs := sound_of hh
  have ht := types0_of hh
  have hfe := few_of hh
  have h := joined_any (nf := fs.length) A B A4 AT c d c4 gs.length l fs (topG :: gs) (List.replicate gs.length 0) w hT hG4 hI hs (fun i hi => by
    match i, hi with
    | 0, _ => exact topG_gy hs
    | i + 1, hi => exact (hgv i (by simpa using hi)).gx.toGY) (fun i hi => by
    match i, hi with
    | 0, _ =>
      intro j hj z hz
      have h0 : j = 0 := by simp [topG] at hj; omega
      subst h0
      exact absurd hz (by simp [topG, nd])
    | i + 1, hi => exact gok_feat (hgv i (by simpa using hi)).gok) om (by simp only [List.length_cons]; omega) (by show (UA gs gs.length).length ≤ 1000000; omega) (by simp) (by rw [List.length_replicate]; simp) (fun k hk => by
    rw [List.getElem_replicate]; simp [topG])
  rw [pa_top, List.length_replicate, show (topG :: gs).length = 1 + gs.length by rw [List.length_cons, Nat.add_comm], show VA (topG :: gs) (1 + gs.length) = UA gs gs.length by rw [Nat.add_comm]; rfl] at h
  refine h.mono fun e w' h => ?_
  obtain ⟨⟨AY, Y, cY, okY, he, hN, hc⟩, hs2⟩ := h
  refine ⟨⟨AY, Y, cY, okY, he, hN _ (FrSame.refl _ _), ?_, ?_⟩, hs2⟩
  · rcases hc with ⟨_, hU⟩ | ⟨_, rfl, hn⟩
    · exact .inl ⟨unir_bound hs ht (fun i hi => (hgv i hi).gx) hU, hU⟩
    · exact .inr ⟨hn, rfl⟩
  · rcases hc with ⟨rfl, hU⟩ | ⟨rfl, _, hn⟩
    · exact ⟨fun _ => unir_bound hs ht (fun i hi => (hgv i hi).gx) hU, fun _ => rfl⟩
    · exact ⟨(fun h => nomatch h), fun h => absurd h hn⟩
theorem fn17_UAMat : callable Tryd.prog 17 = true := by kernel_rfl
set_option maxRecDepth 100000 in
set_option maxHeartbeats 8000000 in
theorem law27_any (A B LA : Option Addr) (c d lc : Nat) (l : List Ty) (fs : List Ft) (gs : List (List Nd)) (w : World) (hTab : TabIn w) (hcl : l.length ≤ c) (hdl : fs.length ≤ d) (hT : TypesIn w A l) (hF : FeatsIn w B fs) (hL : GrsIn w LA gs) : Calls Tryd.prog 7 #[.agg #[.slice A l.length c, .slice B fs.length d], .slice LA gs.length lc] w fun e w' => e = .returned (.bool true) ∧ Bel w w' := by
 have hLm := hL.1
 unfold maxI at hLm
 refine enter Tryd.func7 Tryd.ntmps7 rfl (Nat.le_of_ble_eq_true rfl) ?_
 have hB : Bel w w := Below.refl _ _
 refine c_seq (c_region ?_)
 refine wl_bx (v := .agg #[_, _]) (cs := #[_, _]) rfl rfl (fun b2 w1 hb2 hs hr => ?_)
 have lo2 := lT (Bel.size hB) hr
 replace hB := hB.tr0 hs
 clear hs
 clear hr
 refine waB rfl (x_nil (e_S (c_seq (c_seq (c_region ?_)))))
 refine wl_cl fn10_UOrd (pair_any _) rfl (fun e' w2 hr => ?_)
 obtain ⟨⟨Ap, Bp, rfl, hTp, hFp⟩, hs⟩ := hr
 replace hs := Same.of_bel hs
 replace hB := hB.tr0 hs
 replace hb2 := hb2.tr0 hs
 clear hs
 have hB0 : Bel w2 w2 := Below.refl _ _
 refine ⟨_, rfl, ?_⟩
 refine wl_cl fn12 (apart_any _) rfl (fun e' w3 hr => ?_)
 obtain ⟨⟨Ga, rfl, hGa⟩, hs⟩ := hr
 replace hs := Same.of_bel hs
 replace hB := hB.tr0 hs
 replace hb2 := hb2.tr0 hs
 replace hB0 := hB0.tr0 hs
 clear hs
 have hB1 : Bel w3 w3 := Below.refl _ _
 refine ⟨_, rfl, ?_⟩
 refine wl_cl fn11_UOrd (shared_any _) rfl (fun e' w4 hr => ?_)
 obtain ⟨⟨Gb, rfl, hGb⟩, hs⟩ := hr
 replace hs := Same.of_bel hs
 replace hB := hB.tr0 hs
 replace hb2 := hb2.tr0 hs
 replace hB0 := hB0.tr0 hs
 replace hB1 := hB1.tr0 hs
 clear hs
 have hB2 : Bel w4 w4 := Below.refl _ _
 refine ⟨_, rfl, ?_⟩
 refine wl_cl fn17_UAMat (single_any 3 _) rfl (fun e' w5 hr => ?_)
 obtain ⟨⟨Gz, rfl, hGz⟩, hs⟩ := hr
 replace hs := Same.of_bel hs
 replace hB := hB.tr0 hs
 replace hb2 := hb2.tr0 hs
 replace hB0 := hB0.tr0 hs
 replace hB1 := hB1.tr0 hs
 replace hB2 := hB2.tr0 hs
 clear hs
 have hB3 : Bel w5 w5 := Below.refl _ _
 refine ⟨_, rfl, ?_⟩
 refine wl_bs (cs := #[_, _, _]) [(0, .agg _), (1, .agg _), (2, .agg _)] rfl U35 sz28_UAll ze28 dE dE kR rfl (fun b24 w6 hb24 hs hr => ?_)
 have or_b2_b24 : b2 < b24 := lL hb2.lt hr
 have lo24 := lT (Bel.size hB) hr
 have lo_hB0_b24 := lT (Bel.size hB0) hr
 have lo_hB1_b24 := lT (Bel.size hB1) hr
 have lo_hB2_b24 := lT (Bel.size hB2) hr
 have lo_hB3_b24 := lT (Bel.size hB3) hr
 replace hB := hB.tr0 hs
 replace hb2 := hb2.tr0 hs
 replace hB0 := hB0.tr0 hs
 replace hB1 := hB1.tr0 hs
 replace hB2 := hB2.tr0 hs
 replace hB3 := hB3.tr0 hs
 clear hs
 clear hr
 refine wl_cl fn9 (ualla_any (hTab.mono hB) (hTp.mono hB0) (hFp.mono hB0) (grs_of_blk hb24 (.cons (hGa.mono hB1) (.cons (hGb.mono hB2) (.cons (hGz.mono hB3) .nil))) dE)) rfl (fun e' w7 hr => ?_)
 obtain ⟨⟨GW, rfl⟩, hs⟩ := hr
 replace hs := Same.of_bel hs
 replace hB := hB.tr0 hs
 replace hb2 := hb2.tr0 hs
 replace hB0 := hB0.tr0 hs
 replace hB1 := hB1.tr0 hs
 replace hB2 := hB2.tr0 hs
 replace hB3 := hB3.tr0 hs
 replace hb24 := hb24.tr0 hs
 clear hs
 refine ⟨_, rfl, ?_⟩
 refine wl (r_mv (v := .tuple _) rfl) (wl (r_ex (v := _) rfl rfl) (wl (r_ex (v := _) rfl rfl) (wl (r_ex (v := _) rfl rfl) ?_)))
 refine wl_al (cs := #[.slice none 0 0]) ze28 rfl (fun b5 w8 hb5 hs hr => ?_)
 have or_b2_b5 : b2 < b5 := lL hb2.lt hr
 have or_b24_b5 : b24 < b5 := lL hb24.lt hr
 have lo5 := lT (Bel.size hB) hr
 replace hB := hB.tr0 hs
 replace hb2 := hb2.tr0 hs
 replace hb24 := hb24.tr0 hs
 clear hs
 clear hr
 refine wl_al (cs := #[.int .i64 0, .int .i64 0]) ze30_SFind rfl (fun b7 w9 hb7 hs hr => ?_)
 have or_b2_b7 : b2 < b7 := lL hb2.lt hr
 have or_b24_b7 : b24 < b7 := lL hb24.lt hr
 have or_b5_b7 : b5 < b7 := lL hb5.lt hr
 have lo7 := lT (Bel.size hB) hr
 replace hB := hB.tr0 hs
 replace hb2 := hb2.tr0 hs
 replace hb24 := hb24.tr0 hs
 replace hb5 := hb5.tr0 hs
 clear hs
 clear hr
 refine wl_stW hb5 rfl rfl sz28_UAll rfl oneA (fun w10 hq hs => ?_)
 replace hB := hB.tr1 hs lo5
 replace hb2 := hb2.tr1 hs om
 replace hb24 := hb24.tr1 hs om
 replace hb7 := hb7.tr1 hs om
 clear hs
 replace hb5 := hq
 refine waB rfl ?_
 refine wl_stW hb7 rfl rfl sz30_SFind rfl oneA (fun w11 hq hs => ?_)
 replace hB := hB.tr1 hs lo7
 replace hb2 := hb2.tr1 hs om
 replace hb24 := hb24.tr1 hs om
 replace hb5 := hb5.tr1 hs om
 clear hs
 replace hb7 := hq
 refine x_nil (e_S (c_seq (c_region (wmB rfl (wl (r_not rfl) ?_)))))
 refine wl (r_mv (v := .bool false) rfl) (wl_gd 31 rfl rfl (wl (r_fa U28 sz26 dE rfl rfl rfl) (wl_gd 31 rfl rfl (wl (r_ld1 (v := .slice _ _ _) U26 rfl rfl (hb5.cell rfl)) (wl_gd 31 rfl rfl ?_)))))
 refine wl (r_len U26 rfl) (wl_gd 31 rfl rfl (wl (r_neq rfl rfl) (wl (r_pf (v := .bool _) rfl rfl) (x_nil (e_S ?_)))))
 refine c_ifd rfl (fun c36 => ?_) (fun c36 => ?_)
 ·
  exact absurd c36 dE
 refine c_skip (e_S (c_seq (c_region (wl (r_ldS U25 rfl rfl hb2.range0 sz25_SFind) (wmS rfl ?_)))))
 refine wl_cl fn9 (uall_any A B LA c d lc l fs gs _ (hTab.mono hB) (hT.mono hB) (hF.mono hB) (hL.mono hB)) rfl (fun e' w12 hr => ?_)
 obtain ⟨⟨AX, X, okX, fX, rfl, hNX, hUX⟩, hs⟩ := hr
 replace hs := Same.of_bel hs
 replace hB := hB.tr0 hs
 replace hb2 := hb2.tr0 hs
 replace hb24 := hb24.tr0 hs
 replace hb5 := hb5.tr0 hs
 replace hb7 := hb7.tr0 hs
 clear hs
 replace hNX := hNX w12 (FrSame.refl _ _)
 obtain ⟨wX, hwX⟩ : ∃ x, x = w12 := ⟨_, rfl⟩
 have hBX : Bel wX w12 := by rw [hwX]; exact Below.refl _ _
 rw [← hwX] at hNX
 refine ⟨_, rfl, ?_⟩
 refine wl (r_mv (v := .tuple _) rfl) (wl (r_ex (v := _) rfl rfl) (wl (r_ex (v := _) rfl rfl) (wl (r_ex (v := _) rfl rfl) ?_)))
 refine wl_al (cs := #[.slice none 0 0]) ze28 rfl (fun b8 w13 hb8 hs hr => ?_)
 have or_b2_b8 : b2 < b8 := lL hb2.lt hr
 have or_b24_b8 : b24 < b8 := lL hb24.lt hr
 have or_b5_b8 : b5 < b8 := lL hb5.lt hr
 have or_b7_b8 : b7 < b8 := lL hb7.lt hr
 have lo8 := lT (Bel.size hB) hr
 have lo_hBX_b8 := lT (Bel.size hBX) hr
 replace hB := hB.tr0 hs
 replace hb2 := hb2.tr0 hs
 replace hb24 := hb24.tr0 hs
 replace hb5 := hb5.tr0 hs
 replace hb7 := hb7.tr0 hs
 replace hBX := hBX.tr0 hs
 clear hs
 clear hr
 refine wl_al (cs := #[.int .i64 0, .int .i64 0]) ze30_SFind rfl (fun b10 w14 hb10 hs hr => ?_)
 have or_b2_b10 : b2 < b10 := lL hb2.lt hr
 have or_b24_b10 : b24 < b10 := lL hb24.lt hr
 have or_b5_b10 : b5 < b10 := lL hb5.lt hr
 have or_b7_b10 : b7 < b10 := lL hb7.lt hr
 have or_b8_b10 : b8 < b10 := lL hb8.lt hr
 have lo10 := lT (Bel.size hB) hr
 have lo_hBX_b10 := lT (Bel.size hBX) hr
 replace hB := hB.tr0 hs
 replace hb2 := hb2.tr0 hs
 replace hb24 := hb24.tr0 hs
 replace hb5 := hb5.tr0 hs
 replace hb7 := hb7.tr0 hs
 replace hBX := hBX.tr0 hs
 replace hb8 := hb8.tr0 hs
 clear hs
 clear hr
 refine wl_stW hb8 rfl rfl sz28_UAll rfl oneA (fun w15 hq hs => ?_)
 replace hB := hB.tr1 hs lo8
 replace hb2 := hb2.tr1 hs om
 replace hb24 := hb24.tr1 hs om
 replace hb5 := hb5.tr1 hs om
 replace hb7 := hb7.tr1 hs om
 replace hBX := hBX.tr1 hs lo_hBX_b8
 replace hb10 := hb10.tr1 hs om
 clear hs
 replace hb8 := hq
 refine waB rfl ?_
 refine wl_stW hb10 rfl rfl sz30_SFind rfl oneA (fun w16 hq hs => ?_)
 replace hB := hB.tr1 hs lo10
 replace hb2 := hb2.tr1 hs om
 replace hb24 := hb24.tr1 hs om
 replace hb5 := hb5.tr1 hs om
 replace hb7 := hb7.tr1 hs om
 replace hBX := hBX.tr1 hs lo_hBX_b10
 replace hb8 := hb8.tr1 hs om
 clear hs
 replace hb10 := hq
 refine x_nil (e_S (c_seq (c_region (wl (r_ldS U25 rfl rfl hb2.range0 sz25_SFind) ?_))))
 refine wl_cl fn21 (hierFault_any A B c d l fs _ hcl hdl (hT.mono hB) (hF.mono hB)) rfl (fun e' w17 hr => ?_)
 obtain ⟨rfl, hs⟩ := hr
 replace hs := Same.of_bel hs
 replace hB := hB.tr0 hs
 replace hb2 := hb2.tr0 hs
 replace hb24 := hb24.tr0 hs
 replace hb5 := hb5.tr0 hs
 replace hb7 := hb7.tr0 hs
 replace hBX := hBX.tr0 hs
 replace hb8 := hb8.tr0 hs
 replace hb10 := hb10.tr0 hs
 clear hs
 refine ⟨_, rfl, ?_⟩
 refine wl_al (cs := #[.int .i64 0, .int .i64 0]) ze30_SFind rfl (fun b11 w18 hb11 hs hr => ?_)
 have or_b2_b11 : b2 < b11 := lL hb2.lt hr
 have or_b24_b11 : b24 < b11 := lL hb24.lt hr
 have or_b8_b11 : b8 < b11 := lL hb8.lt hr
 have or_b10_b11 : b10 < b11 := lL hb10.lt hr
 have lo11 := lT (Bel.size hB) hr
 have lo_hBX_b11 := lT (Bel.size hBX) hr
 replace hB := hB.tr0 hs
 replace hb2 := hb2.tr0 hs
 replace hb24 := hb24.tr0 hs
 replace hBX := hBX.tr0 hs
 replace hb8 := hb8.tr0 hs
 replace hb10 := hb10.tr0 hs
 clear hs
 clear hr
 refine wl_stW hb11 rfl rfl sz30_SFind rfl oneA (fun w19 hq hs => ?_)
 replace hB := hB.tr1 hs lo11
 replace hb2 := hb2.tr1 hs om
 replace hb24 := hb24.tr1 hs om
 replace hBX := hBX.tr1 hs lo_hBX_b11
 replace hb8 := hb8.tr1 hs om
 replace hb10 := hb10.tr1 hs om
 clear hs
 replace hb11 := hq
 refine x_nil (e_S (c_seq (c_seq ?_)))
 refine c_cut1 [46, 47, 48, 49, 50, 51, 52, 53] 53 (.bool (decide ((hierFault l fs).1 = 0 ∧ 300 < gs.length))) nu ?_ (fun gq => ?_)
 ·
  refine c_region (wl (r_fa U30 sz3_UAll dE rfl rfl rfl) (wl (r_ld1 (v := .int _ _) U3 rfl rfl (hb11.cell rfl)) (wl (r_eql rfl rfl) (wmB rfl ?_))))
  refine wl_casesd 49 rfl (fun g49 => ?_) (fun g49 => ?_)
  ·
   refine wl_gd 49 rfl rfl (wmS rfl (wl_gd 49 rfl rfl (wl (r_len U35 rfl) (wl_gd 49 rfl rfl (wl (r_gtr rfl rfl) ?_)))))
   refine wl (r_pt (v := .bool _) rfl rfl) ?_
   refine x_nil (e_R ⟨rfl, agA, ?_⟩)
   exact clA
  refine wlgn 49 rfl rfl rfl (wlgn 49 rfl rfl rfl (wlgn 49 rfl rfl rfl (wl (r_pf (v := .bool _) rfl rfl) ?_)))
  refine x_nil (e_R ⟨rfl, agA, ?_⟩)
  exact clA
 refine e_S ?_
 refine c_cutS [54] (fun g w' => ∃ F : Fl, Bel w w' ∧ Bel wX w' ∧ Blk w' b2 25 #[.slice A l.length c, .slice B fs.length d] ∧ Blk w' b8 28 #[.slice AX X.length X.length] ∧ Blk w' b10 30 #[.int .i64 fX.1, .int .i64 fX.2] ∧ Blk w' b11 30 #[.int .i64 F.1, .int .i64 F.2] ∧ AFS l fs gs 0 F) ?_ (fun gx1 w20 hI => ?_)
 ·
  refine c_ifd rfl (fun c53 => ?_) (fun c53 => ?_)
  ·
   refine c_region (wl (r_bd2 (v0 := .int _ _) (v1 := .int _ _) (fun v0 v1 => #[v0, v1]) rfl rfl kR) ?_)
   refine wl_stW hb11 rfl rfl sz30_SFind rfl oneA (fun w21 hq hs => ?_)
   replace hB := hB.tr1 hs lo11
   replace hb2 := hb2.tr1 hs om
   replace hb24 := hb24.tr1 hs om
   replace hBX := hBX.tr1 hs lo_hBX_b11
   replace hb8 := hb8.tr1 hs om
   replace hb10 := hb10.tr1 hs om
   clear hs
   replace hb11 := hq
   refine x_nil ?_
   refine e_R ⟨agA, ?_⟩
   first
    | exact ⟨(2, -2), hB, hBX, hb2, hb8, hb10, hb11, afs_two c53⟩
    | exact ⟨hierFault l fs, hB, hBX, hb2, hb8, hb10, hb11, afs_hier c53⟩
  refine c_skip ?_
  refine e_R ⟨agA, ?_⟩
  first
   | exact ⟨(2, -2), hB, hBX, hb2, hb8, hb10, hb11, afs_two c53⟩
   | exact ⟨hierFault l fs, hB, hBX, hb2, hb8, hb10, hb11, afs_hier c53⟩
 obtain ⟨F, hB, hBX, hb2, hb8, hb10, hb11, hAF⟩ := hI
 refine e_S (c_seq (c_seq (c_region (waI rfl (x_nil ?_)))))
 refine e_S (c_block ?_)
 refine c_loopS [12, 13, 55, 56, 57, 58, 59, 60, 61, 62, 63, 64, 65, 66, 67, 68, 69, 70, 71, 72, 73, 74, 75, 76, 77] (fun m g w' => ∃ (k : Nat) (F : Fl), k ≤ gs.length ∧ m = gs.length - k ∧ g 12 = .int .i64 k ∧ Bel w w' ∧ Bel wX w' ∧ Blk w' b2 25 #[.slice A l.length c, .slice B fs.length d] ∧ Blk w' b8 28 #[.slice AX X.length X.length] ∧ Blk w' b10 30 #[.int .i64 fX.1, .int .i64 fX.2] ∧ Blk w' b11 30 #[.int .i64 F.1, .int .i64 F.2] ∧ AFS l fs gs k F) (gs.length) ?_ (fun m g9 w22 hI => ?_)
 ·
  exact ⟨0, F, Nat.zero_le _, rfl, rfl, hB, hBX, hb2, hb8, hb10, hb11, hAF⟩
 obtain ⟨k, F, hk, hm, h12, hB, hBX, hb2, hb8, hb10, hb11, hAF⟩ := hI
 refine c_know 12 (.int .i64 k) h12 nu (c_seq (c_seq ?_))
 refine c_cut1 [55, 56, 57, 58, 59, 60, 61, 62, 63] 63 (.bool (decide (k < gs.length ∧ F.1 = 0))) nu ?_ (fun gq => ?_)
 ·
  refine c_region (wmI rfl (wmS rfl (wl (r_len U35 rfl) (wl (r_lss rfl rfl) (wmB rfl ?_)))))
  refine wl_casesd 59 rfl (fun g59 => ?_) (fun g59 => ?_)
  ·
   refine wl_gd 59 rfl rfl (wl (r_fa U30 sz3_UAll dE rfl rfl rfl) (wl_gd 59 rfl rfl (wl (r_ld1 (v := .int _ _) U3 rfl rfl (hb11.cell rfl)) (wl_gd 59 rfl rfl (wl (r_eql rfl rfl) ?_)))))
   refine wl (r_pt (v := .bool _) rfl rfl) ?_
   refine x_nil (e_R ⟨rfl, agA, ?_⟩)
   exact clA
  refine wlgn 59 rfl rfl rfl (wlgn 59 rfl rfl rfl (wlgn 59 rfl rfl rfl (wl (r_pf (v := .bool _) rfl rfl) ?_)))
  refine x_nil (e_R ⟨rfl, agA, ?_⟩)
  exact clA
 refine e_S ?_
 refine c_ifd rfl (fun c63 => ?_) (fun c63 => ?_)
 ·
  have hlt := c63.1
  obtain ⟨hh0, h300, hz⟩ := afs_in hAF c63.2
  have hS := sound_of hh0
  have hfo := fok_of hh0
  obtain ⟨gb, go, rfl, hgl, hgc⟩ := hL.2 (fun e => by rw [e] at hlt; exact absurd hlt (Nat.not_lt_zero _))
  obtain ⟨GA, gc, hgr, hgn⟩ := hgc k hlt
  refine c_skip (e_S (c_seq (c_block (c_seq ?_))))
  refine c_monoTO 8 [66, 67, 68, 69, 70, 71, 72, 13] (fun _ => false) (fun ix v wv => match ix with | 0 => v = .agg #[.slice A l.length c, .slice B fs.length d] | 1 => v = .slice (some ⟨gb, go, none⟩) gs.length lc | 2 => v = .int .i64 ((k : Nat) : Int) | 3 => v = .pointer (some ⟨gb, go + k * 1, none⟩) | 4 => v = .agg #[.slice GA (gs[k]).length gc] | 5 => v = .agg #[.int .i64 (withinF l fs gs[k]).1, .int .i64 (withinF l fs gs[k]).2] | 6 => v = .int .i64 (withinF l fs gs[k]).1 | 7 => v = .int .i64 (withinF l fs gs[k]).1 | _ => True) kR kR ?_ ?_ ?_
  ·
   intro ix v wv wv2 h hs
   match ix, h with
   | 0, h => exact h
   | 1, h => exact h
   | 2, h => exact h
   | 3, h => exact h
   | 4, h => exact h
   | 5, h => exact h
   | 6, h => exact h
   | 7, h => exact h
   | _ + 8, h => exact trivial
  ·
   intro ix o hix hoq gg wx hs hd hdis
   match ix, hix, hoq with
   | 0, _, hoq =>
    obtain rfl := sI hoq
    have hs0 := hs
    replace hb2 := hb2.tr0 hs
    clear hs
    refine os_rv (r_ldS U25 rfl rfl hb2.range0 sz25_SFind) ⟨Same.refl _ _, ?_, frsh_no⟩
    exact rfl
   | 1, _, hoq =>
    obtain rfl := sI hoq
    have hs0 := hs
    clear hs
    refine os_rv (r_mv (v := .slice _ _ _) rfl) ⟨Same.refl _ _, ?_, frsh_no⟩
    exact rfl
   | 2, _, hoq =>
    obtain rfl := sI hoq
    have hs0 := hs
    clear hs
    refine os_rv (r_mv (v := .int _ _) rfl) ⟨Same.refl _ _, ?_, frsh_no⟩
    exact rfl
   | 3, _, hoq =>
    obtain rfl := sI hoq
    have hs0 := hs
    clear hs
    have d1 : gg 67 = .slice (some ⟨gb, go, none⟩) gs.length lc := hd 1 (dep_of kR)
    have e67 := d1
    have d2 : gg 68 = .int .i64 ((k : Nat) : Int) := hd 2 (dep_of kR)
    have e68 := d2
    refine os_know 67 (.slice (some ⟨gb, go, none⟩) gs.length lc) e67 nu (os_know 68 (.int .i64 ((k : Nat) : Int)) e68 nu ?_)
    refine os_rv (r_ia (i := k) U35 sz28_UAll rfl rfl hlt rfl) ⟨Same.refl _ _, ?_, frsh_no⟩
    exact rfl
   | 4, _, hoq =>
    obtain rfl := sI hoq
    have hs0 := hs
    replace hB := hB.tr0 hs
    clear hs
    have d3 : gg 69 = .pointer (some ⟨gb, go + k * 1, none⟩) := hd 3 (dep_of kR)
    have e69 := d3
    refine os_know 69 (.pointer (some ⟨gb, go + k * 1, none⟩)) e69 nu ?_
    refine os_rv (r_ldS U28 rfl rfl (hB.range hgl hgr) sz28_UAll) ⟨Same.refl _ _, ?_, frsh_no⟩
    exact rfl
   | 5, _, hoq =>
    obtain rfl := sI hoq
    have hs0 := hs
    replace hB := hB.tr0 hs
    clear hs
    have d0 : gg 66 = .agg #[.slice A l.length c, .slice B fs.length d] := hd 0 (dep_of kR)
    have e66 := d0
    have d4 : gg 70 = .agg #[.slice GA (gs[k]).length gc] := hd 4 (dep_of kR)
    have e70 := d4
    refine os_know 66 (.agg #[.slice A l.length c, .slice B fs.length d]) e66 nu (os_know 70 (.agg #[.slice GA (gs[k]).length gc]) e70 nu ?_)
    refine os_cl fn15_SFind (inh_any A B GA c d gc l fs gs[k] wx (hT.mono hB) hS.vt hS.le (hF.mono hB) (hgn.mono hB) hfo) rfl (fun e' w2 hr => ?_)
    obtain ⟨rfl, hs⟩ := hr
    exact ⟨_, rfl, Same.of_bel hs, rfl, frsh_no⟩
   | 6, _, hoq =>
    obtain rfl := sI hoq
    have hs0 := hs
    clear hs
    have d5 : gg 71 = .agg #[.int .i64 (withinF l fs gs[k]).1, .int .i64 (withinF l fs gs[k]).2] := hd 5 (dep_of kR)
    have e71 := d5
    refine os_know 71 (.agg #[.int .i64 (withinF l fs gs[k]).1, .int .i64 (withinF l fs gs[k]).2]) e71 nu ?_
    refine os_rv (r_fd1 (v := .int _ _) U30 rfl U3 rfl rfl rfl) ⟨Same.refl _ _, ?_, frsh_no⟩
    exact rfl
   | 7, _, hoq =>
    obtain rfl := sI hoq
    have hs0 := hs
    clear hs
    have d6 : gg 72 = .int .i64 (withinF l fs gs[k]).1 := hd 6 (dep_of kR)
    have e72 := d6
    refine os_know 72 (.int .i64 (withinF l fs gs[k]).1) e72 nu ?_
    refine os_rv (r_as (v := .int _ _) rfl) ⟨Same.refl _ _, ?_, frsh_no⟩
    exact rfl
   | _ + 8, hix, _ => exact absurd hix om
  intro gg w23 hs hR hdis
  have hs0 := hs
  replace hB := hB.tr0 hs
  replace hb2 := hb2.tr0 hs
  replace hBX := hBX.tr0 hs
  replace hb8 := hb8.tr0 hs
  replace hb10 := hb10.tr0 hs
  replace hb11 := hb11.tr0 hs
  clear hs
  have d7 : gg 13 = .int .i64 (withinF l fs gs[k]).1 := hR 7 dE
  have e13 := d7
  refine wl_know 13 (.int .i64 (withinF l fs gs[k]).1) e13 nu (x_nil (e_S (c_seq (c_region (wmI rfl ?_)))))
  refine wl (r_neq rfl rfl) (x_nil (e_S ?_))
  refine c_ifd rfl (fun c74 => ?_) (fun c74 => ?_)
  ·
   refine c_region (wmI rfl (wmI rfl (wl (r_bd2 (v0 := .int _ _) (v1 := .int _ _) (fun v0 v1 => #[v0, v1]) rfl rfl kR) ?_)))
   refine wl_stW hb11 rfl rfl sz30_SFind rfl oneA (fun w24 hq hs => ?_)
   replace hB := hB.tr1 hs lo11
   replace hb2 := hb2.tr1 hs om
   replace hBX := hBX.tr1 hs lo_hBX_b11
   replace hb8 := hb8.tr1 hs om
   replace hb10 := hb10.tr1 hs om
   clear hs
   replace hb11 := hq
   refine x_nil (e_B (e_S (c_region (wmI rfl (wl (r_add (c := ((k + 1 : Nat) : Int)) rfl rfl om om) ?_)))))
   refine waI rfl (x_nil (e_LS (gs.length - (k + 1)) om agA ?_))
   first
    | exact ⟨k + 1, _, by omega, rfl, rfl, hB, hBX, hb2, hb8, hb10, hb11, afs_bad hAF c63.2 c63.1 c74⟩
    | exact ⟨k + 1, F, by omega, rfl, rfl, hB, hBX, hb2, hb8, hb10, hb11, afs_good hAF c63.2 c63.1 (Decidable.not_not.1 c74)⟩
  refine c_skip (e_B (e_S (c_region (wmI rfl (wl (r_add (c := ((k + 1 : Nat) : Int)) rfl rfl om om) ?_)))))
  refine waI rfl (x_nil (e_LS (gs.length - (k + 1)) om agA ?_))
  first
   | exact ⟨k + 1, _, by omega, rfl, rfl, hB, hBX, hb2, hb8, hb10, hb11, afs_bad hAF c63.2 c63.1 c74⟩
   | exact ⟨k + 1, F, by omega, rfl, rfl, hB, hBX, hb2, hb8, hb10, hb11, afs_good hAF c63.2 c63.1 (Decidable.not_not.1 c74)⟩
 refine c_exit (e_Sx (e_LSx (e_Bx (e_S (c_seq ?_)))))
 refine c_seq (c_region (wl (r_fa U30 sz3_UAll dE rfl rfl rfl) (wl (r_ld1 (v := .int _ _) U3 rfl rfl (hb11.cell rfl)) (wl (r_neq rfl rfl) (x_nil ?_)))))
 refine e_S ?_
 refine c_ifd rfl (fun c80 => ?_) (fun c80 => ?_)
 ·
  obtain ⟨hFe, hF0⟩ := afs_end hAF c80
  subst hFe
  obtain ⟨rfl, rfl, rfl⟩ := alls_bad hF0 hUX
  refine c_seq (c_region (wl (r_ldS U30 rfl rfl hb10.range0 sz30_SFind) (wl (r_ldS U30 rfl rfl hb11.range0 sz30_SFind) (wl (r_eqF Tryd.eqGuardType30 ft30 Tryd.stoodInHeld30 fd30 U3 rfl rfl) (wl (r_mv (v := .bool true) (congrArg Value.bool (decide_eq_true ⟨rfl, rfl⟩))) ?_)))))
  refine wl_gd 84 rfl rfl (wmB rfl (wl_gd 84 rfl rfl (wl (r_not rfl) (wl (r_pt (v := .bool _) rfl rfl) (wl (r_mv (v := .bool true) rfl) ?_)))))
  refine wl_gd 88 rfl rfl (wl (r_fa U28 sz26 dE rfl rfl rfl) (wl_gd 88 rfl rfl (wl (r_ld1 (v := .slice _ _ _) U26 rfl rfl (hb8.cell rfl)) (wl_gd 88 rfl rfl (wl (r_len U26 rfl) ?_)))))
  refine wl_gd 88 rfl rfl (wl (r_eql rfl rfl) (wl (r_pt (v := .bool _) rfl rfl) (wl (r_as (v := .bool true) (congrArg Value.bool (decide_eq_true rfl))) (x_nil (e_S ?_)))))
  refine c_ret (e_Sr (fin1 (.inl rfl) rfl rfl ?_))
  exact ⟨rfl, hB⟩
 have hF0 := Decidable.not_not.1 c80
 have h0 := afs_zero hAF hF0 om
 obtain ⟨hh0, h300, hgz⟩ := all_gv h0
 have hgv : ∀ i (hi : i < gs.length), GV l fs gs[i] := fun i hi => gv_of (hgz i hi)
 have hS := sound_of hh0
 have h60 : ∀ i (hi : i < gs.length), (gs[i]).length ≤ 60 := fun i hi => (hgv i hi).gok.le
 refine c_skip (e_S (c_seq (c_region (waI rfl (x_nil ?_)))))
 refine e_S (c_seq (c_seq (c_region (wmS rfl (wl (r_len U35 rfl) ?_)))))
 refine wmI rfl (x_nil (e_S (c_block ?_)))
 refine c_loopS [14, 16, 96, 97, 98, 99, 100, 101, 102, 103, 104, 105] (fun m g w' => ∃ k : Nat, k ≤ gs.length ∧ m = gs.length - k ∧ g 96 = .int .i64 k ∧ g 14 = .int .i64 ((((UA gs k).length : Nat) : Int) - 1) ∧ Bel w w' ∧ Bel wX w' ∧ Blk w' b2 25 #[.slice A l.length c, .slice B fs.length d] ∧ Blk w' b8 28 #[.slice AX X.length X.length] ∧ Blk w' b10 30 #[.int .i64 fX.1, .int .i64 fX.2]) (gs.length) ?_ (fun m g18 w25 hI => ?_)
 ·
  exact ⟨0, Nat.zero_le _, rfl, rfl, rfl, hB, hBX, hb2, hb8, hb10⟩
 obtain ⟨k, hk, hm, h96, h14, hB, hBX, hb2, hb8, hb10⟩ := hI
 refine c_know 96 (.int .i64 k) h96 nu (c_know 14 (.int .i64 ((((UA gs k).length : Nat) : Int) - 1)) h14 nu (c_seq (c_region (wl (r_lss rfl rfl) (x_nil ?_)))))
 refine e_S (c_seq ?_)
 refine c_ifd rfl (fun c97 => ?_) (fun c97 => ?_)
 ·
  have hlt : k < gs.length := by omega
  obtain ⟨gb, go, rfl, hgl, hgc⟩ := hL.2 (fun e => by rw [e] at hlt; exact absurd hlt (Nat.not_lt_zero _))
  obtain ⟨GA, gc, hgr, hgn⟩ := hgc k hlt
  have hUl : (UA gs (k + 1)).length = (UA gs k).length + (gs[k]).length := by rw [UA_succ hlt, List.length_append, List.length_map]
  have hU1 := UA_len h60 k om
  have hU2 := h60 k hlt
  refine c_skip (e_S (c_seq (c_block (c_seq (c_region ?_)))))
  refine wl (r_ia (i := k) U35 sz28_UAll rfl rfl hlt rfl) (wl (r_ldS U28 rfl rfl (hB.range hgl hgr) sz28_UAll) ?_)
  refine wl_al (cs := #[.slice none 0 0]) ze28 rfl (fun b16 w26 hb16 hs hr => ?_)
  have or_b2_b16 : b2 < b16 := lL hb2.lt hr
  have or_b8_b16 : b8 < b16 := lL hb8.lt hr
  have or_b10_b16 : b10 < b16 := lL hb10.lt hr
  have lo16 := lT (Bel.size hB) hr
  have lo_hBX_b16 := lT (Bel.size hBX) hr
  replace hB := hB.tr0 hs
  replace hb2 := hb2.tr0 hs
  replace hBX := hBX.tr0 hs
  replace hb8 := hb8.tr0 hs
  replace hb10 := hb10.tr0 hs
  clear hs
  clear hr
  refine wl_stW hb16 rfl rfl sz28_UAll rfl oneA (fun w27 hq hs => ?_)
  replace hB := hB.tr1 hs lo16
  replace hb2 := hb2.tr1 hs om
  replace hBX := hBX.tr1 hs lo_hBX_b16
  replace hb8 := hb8.tr1 hs om
  replace hb10 := hb10.tr1 hs om
  clear hs
  replace hb16 := hq
  refine x_nil (e_S (c_region (wmI rfl (wl (r_fa U28 sz26 dE rfl rfl rfl) (wl (r_ld1 (v := .slice _ _ _) U26 rfl rfl (hb16.cell rfl)) ?_)))))
  refine wl (r_len U26 rfl) (wl (r_add (c := ((((UA gs (k + 1)).length : Nat) : Int) - 1)) rfl rfl om om) (waI rfl (x_nil (e_B (e_S ?_)))))
  refine c_region (wl (r_add rfl rfl rfl om) (wmI rfl (x_nil (e_LS (gs.length - (k + 1)) om agA ?_))))
  exact ⟨k + 1, by omega, rfl, rfl, rfl, hB, hBX, hb2, hb8, hb10⟩
 have hke : k = gs.length := by omega
 subst hke
 refine c_exit (e_Sx (e_LSx (e_Bx (e_S (c_seq ?_)))))
 refine c_seq (c_region (wmI rfl (wl (r_gtr rfl rfl) (x_nil (e_S ?_)))))
 refine c_ifd rfl (fun c107 => ?_) (fun c107 => ?_)
 ·
  refine c_seq (c_region (waB rfl (x_nil (e_S (c_ret ?_)))))
  refine e_Sr (fin1 (.inl rfl) rfl rfl ?_)
  exact ⟨rfl, hB⟩
 have hN2 : (UA gs gs.length).length ≤ 2001 := by omega
 refine c_skip (e_S (c_seq ?_))
 refine c_monoUO 15 [109, 110, 111, 112, 113, 114, 115, 116, 117, 108, 118, 119, 17, 18] [] (fun ix => Nat.beq ix 13) (fun st ix v la ha wv => match ix with | 0 => v = .agg #[.slice A l.length c, .slice B fs.length d] | 1 => (st 13 = false → (∃ A1 : Option Addr, v = .agg #[.slice A1 1 1] ∧ NodesIn wv A1 topG)) | 2 => (st 13 = false → (∃ (b : Nat) (A1 : Option Addr), v = .slice (some ⟨b, 0, none⟩) 1 1 ∧ Blk wv b 28 #[.slice A1 1 1] ∧ NodesIn wv A1 topG)) | 3 => v = .slice LA gs.length lc | 4 => (st 13 = false → (∃ (A4 : Option Addr) (c4 : Nat), v = .slice A4 (1 + gs.length) c4 ∧ GrsIn wv A4 (topG :: gs))) | 5 => v = .slice LA gs.length lc | 6 => v = .int .i64 ((gs.length : Nat) : Int) | 7 => (st 13 = false → (∃ b : Nat, v = .slice (some ⟨b, 0, none⟩) gs.length gs.length ∧ IntsIn wv (some ⟨b, 0, none⟩) ((List.replicate gs.length 0).map (fun n : Nat => (n : Int))))) | 8 => ∃ (AY : Option Addr) (Y : List Nd) (cY : Nat) (okY : Bool), v = .tuple #[.agg #[.slice AY (List.length Y) cY], .bool okY] ∧ (st 13 = false → NodesIn wv AY Y) ∧ UnY l gs Y ∧ (okY = true ↔ Bound l (UA gs gs.length) (JA gs gs.length)) | 9 => ∃ (AY : Option Addr) (Y : List Nd) (cY : Nat) (okY : Bool), v = .tuple #[.agg #[.slice AY (List.length Y) cY], .bool okY] ∧ (st 13 = false → NodesIn wv AY Y) ∧ UnY l gs Y ∧ (okY = true ↔ Bound l (UA gs gs.length) (JA gs gs.length)) | 10 => ∃ (AY : Option Addr) (Y : List Nd) (cY : Nat), v = .agg #[.slice AY (List.length Y) cY] ∧ (st 13 = false → NodesIn wv AY Y) ∧ UnY l gs Y | 11 => ∃ okY : Bool, v = .bool okY ∧ (okY = true ↔ Bound l (UA gs gs.length) (JA gs gs.length)) | 12 => ∃ b : Nat, v = .pointer (some ⟨b, 0, none⟩) ∧ w25.heap.size ≤ b ∧ (st 13 = false → Blk wv b 28 #[.slice none 0 0]) ∧ (st 13 = true → ∃ (AY : Option Addr) (Y : List Nd) (cY : Nat), Blk wv b 28 #[.slice AY (List.length Y) cY] ∧ NodesIn wv AY Y ∧ UnY l gs Y) | 13 => True | 14 => ∃ okY : Bool, v = .bool okY ∧ (okY = true ↔ Bound l (UA gs gs.length) (JA gs gs.length)) | _ => True) kR kR kR ?_ ?_ ?_
 ·
  intro st ix v la ha wv wv2 h hs
  match ix, h with
  | 0, h => exact h
  | 1, h =>
   intro hst
   obtain ⟨A1, e110, hN1⟩ := (show (st 13 = false → (∃ A1 : Option Addr, v = .agg #[.slice A1 1 1] ∧ NodesIn wv A1 topG)) from h) hst
   exact ⟨A1, e110, hN1.mono hs.bel⟩
  | 2, h =>
   intro hst
   obtain ⟨b111, A1, e111, hb111, hN1⟩ := (show (st 13 = false → (∃ (b : Nat) (A1 : Option Addr), v = .slice (some ⟨b, 0, none⟩) 1 1 ∧ Blk wv b 28 #[.slice A1 1 1] ∧ NodesIn wv A1 topG)) from h) hst
   exact ⟨b111, A1, e111, hb111.tr0 hs, hN1.mono hs.bel⟩
  | 3, h => exact h
  | 4, h =>
   intro hst
   obtain ⟨A4, c4, e113, hG4⟩ := (show (st 13 = false → (∃ (A4 : Option Addr) (c4 : Nat), v = .slice A4 (1 + gs.length) c4 ∧ GrsIn wv A4 (topG :: gs))) from h) hst
   exact ⟨A4, c4, e113, hG4.mono hs.bel⟩
  | 5, h => exact h
  | 6, h => exact h
  | 7, h =>
   intro hst
   obtain ⟨b116, e116, hI116⟩ := (show (st 13 = false → (∃ b : Nat, v = .slice (some ⟨b, 0, none⟩) gs.length gs.length ∧ IntsIn wv (some ⟨b, 0, none⟩) ((List.replicate gs.length 0).map (fun n : Nat => (n : Int))))) from h) hst
   exact ⟨b116, e116, hI116.mono hs.bel⟩
  | 8, h =>
   obtain ⟨AY, Y, cY, okY, e117, hNY, hUY, hkY⟩ := (show ∃ (AY : Option Addr) (Y : List Nd) (cY : Nat) (okY : Bool), v = .tuple #[.agg #[.slice AY (List.length Y) cY], .bool okY] ∧ (st 13 = false → NodesIn wv AY Y) ∧ UnY l gs Y ∧ (okY = true ↔ Bound l (UA gs gs.length) (JA gs gs.length)) from h)
   exact ⟨AY, Y, cY, okY, e117, fun h => (hNY h).mono hs.bel, hUY, hkY⟩
  | 9, h =>
   obtain ⟨AY, Y, cY, okY, e108, hNY, hUY, hkY⟩ := (show ∃ (AY : Option Addr) (Y : List Nd) (cY : Nat) (okY : Bool), v = .tuple #[.agg #[.slice AY (List.length Y) cY], .bool okY] ∧ (st 13 = false → NodesIn wv AY Y) ∧ UnY l gs Y ∧ (okY = true ↔ Bound l (UA gs gs.length) (JA gs gs.length)) from h)
   exact ⟨AY, Y, cY, okY, e108, fun h => (hNY h).mono hs.bel, hUY, hkY⟩
  | 10, h =>
   obtain ⟨AY, Y, cY, e118, hNY, hUY⟩ := (show ∃ (AY : Option Addr) (Y : List Nd) (cY : Nat), v = .agg #[.slice AY (List.length Y) cY] ∧ (st 13 = false → NodesIn wv AY Y) ∧ UnY l gs Y from h)
   exact ⟨AY, Y, cY, e118, fun h => (hNY h).mono hs.bel, hUY⟩
  | 11, h => exact h
  | 12, h =>
   obtain ⟨b17, e17, lo17, hz17, hy17⟩ := (show ∃ b : Nat, v = .pointer (some ⟨b, 0, none⟩) ∧ w25.heap.size ≤ b ∧ (st 13 = false → Blk wv b 28 #[.slice none 0 0]) ∧ (st 13 = true → ∃ (AY : Option Addr) (Y : List Nd) (cY : Nat), Blk wv b 28 #[.slice AY (List.length Y) cY] ∧ NodesIn wv AY Y ∧ UnY l gs Y) from h)
   exact ⟨b17, e17, lo17, fun h => (hz17 h).tr0 hs, fun h => by obtain ⟨AY, Y, cY, h1, h2, h3⟩ := hy17 h; exact ⟨AY, Y, cY, h1.tr0 hs, h2.mono hs.bel, h3⟩⟩
  | 13, h => exact h
  | 14, h => exact h
  | _ + 15, h => exact trivial
 ·
  intro st ix o hix hoq hns gg wx la ha hs hd
  match ix, hix, hoq, hns with
  | 0, _, hoq, hns =>
   obtain rfl := sI hoq
   show OS _ _ _ _ _ _
   have hs0 := hs
   replace hb2 := hb2.tr0 hs
   clear hs
   refine os_rv (r_ldS U25 rfl rfl hb2.range0 sz25_SFind) ⟨Same.refl _ _, ?_⟩
   exact rfl
  | 1, _, hoq, hns =>
   obtain rfl := sI hoq
   show OS _ _ _ _ _ _
   have hs0 := hs
   clear hs
   refine os_cl fn17_UAMat (single_any 0 wx) rfl (fun e' w2 hr => ?_)
   obtain ⟨⟨A1, rfl, hN1⟩, hs⟩ := hr
   exact ⟨_, rfl, Same.of_bel hs, (fun _ => ⟨_, rfl, hN1⟩)⟩
  | 2, _, hoq, hns =>
   obtain rfl := sI hoq
   show OS _ _ _ _ _ _
   have hs0 := hs
   clear hs
   have hn13 := hns 13 rfl kR
   have d1 : ∃ A1 : Option Addr, gg 110 = .agg #[.slice A1 1 1] ∧ NodesIn wx A1 topG := (show (st 13 = false → (∃ A1 : Option Addr, gg 110 = .agg #[.slice A1 1 1] ∧ NodesIn wx A1 topG)) from hd 1 _ (dep_of kR) rfl) hn13
   obtain ⟨A1, e110, hN1⟩ := d1
   refine os_know 110 (.agg #[.slice A1 1 1]) e110 nu ?_
   refine os_wl (fun ops Q K => ?_)
   refine wl_bs (cs := #[_]) [(0, .agg _)] rfl U35 sz28_UAll ze28 dE dE kR rfl (fun b111 w28 hb111 hs hr => ?_)
   exact K _ _ ⟨hs, (fun _ => ⟨_, _, rfl, hb111, hN1.mono hs.bel⟩)⟩
  | 3, _, hoq, hns =>
   obtain rfl := sI hoq
   show OS _ _ _ _ _ _
   have hs0 := hs
   clear hs
   refine os_rv (r_mv (v := .slice _ _ _) rfl) ⟨Same.refl _ _, ?_⟩
   exact rfl
  | 4, _, hoq, hns =>
   obtain rfl := sI hoq
   show OS _ _ _ _ _ _
   have hs0 := hs
   replace hB := hB.tr0 hs
   clear hs
   have hn13 := hns 13 rfl kR
   have d2 : ∃ (b : Nat) (A1 : Option Addr), gg 111 = .slice (some ⟨b, 0, none⟩) 1 1 ∧ Blk wx b 28 #[.slice A1 1 1] ∧ NodesIn wx A1 topG := (show (st 13 = false → (∃ (b : Nat) (A1 : Option Addr), gg 111 = .slice (some ⟨b, 0, none⟩) 1 1 ∧ Blk wx b 28 #[.slice A1 1 1] ∧ NodesIn wx A1 topG)) from hd 2 _ (dep_of kR) rfl) hn13
   obtain ⟨b111, A1, e111, hb111, hN1⟩ := d2
   have d3 : gg 112 = .slice LA gs.length lc := hd 3 _ (dep_of kR) rfl
   have e112 := d3
   refine os_know 111 (.slice (some ⟨b111, 0, none⟩) 1 1) e111 nu (os_know 112 (.slice LA gs.length lc) e112 nu ?_)
   refine os_wl (fun ops Q K => ?_)
   refine wl_appGrs rfl rfl hb111 hN1 hL hB om (fun A4 c4 w1 hG4 hs => ?_)
   exact K _ _ ⟨hs, fun _ => ⟨_, _, rfl, hG4⟩⟩
  | 5, _, hoq, hns =>
   obtain rfl := sI hoq
   show OS _ _ _ _ _ _
   have hs0 := hs
   clear hs
   refine os_rv (r_mv (v := .slice _ _ _) rfl) ⟨Same.refl _ _, ?_⟩
   exact rfl
  | 6, _, hoq, hns =>
   obtain rfl := sI hoq
   show OS _ _ _ _ _ _
   have hs0 := hs
   clear hs
   have d5 : gg 114 = .slice LA gs.length lc := hd 5 _ (dep_of kR) rfl
   have e114 := d5
   refine os_know 114 (.slice LA gs.length lc) e114 nu ?_
   refine os_rv (r_len U35 rfl) ⟨Same.refl _ _, ?_⟩
   exact rfl
  | 7, _, hoq, hns =>
   obtain rfl := sI hoq
   show OS _ _ _ _ _ _
   have hs0 := hs
   clear hs
   have d6 : gg 115 = .int .i64 ((gs.length : Nat) : Int) := hd 6 _ (dep_of kR) rfl
   have e115 := d6
   refine os_know 115 (.int .i64 ((gs.length : Nat) : Int)) e115 nu ?_
   refine os_wl (fun ops Q K => ?_)
   refine wl_mkR U51 in3_SFind rfl rfl rfl om om (fun b116 w29 hb116 hs hr => ?_)
   exact K _ _ ⟨hs, (fun _ => ⟨_, rfl, ints_rep hb116 (by unfold maxI; omega)⟩)⟩
  | 8, _, hoq, hns =>
   obtain rfl := sI hoq
   show OS _ _ _ _ _ _
   have hs0 := hs
   replace hB := hB.tr0 hs
   clear hs
   have d0 : gg 109 = .agg #[.slice A l.length c, .slice B fs.length d] := hd 0 _ (dep_of kR) rfl
   have e109 := d0
   have hn13 := hns 13 rfl kR
   have d4 : ∃ (A4 : Option Addr) (c4 : Nat), gg 113 = .slice A4 (1 + gs.length) c4 ∧ GrsIn wx A4 (topG :: gs) := (show (st 13 = false → (∃ (A4 : Option Addr) (c4 : Nat), gg 113 = .slice A4 (1 + gs.length) c4 ∧ GrsIn wx A4 (topG :: gs))) from hd 4 _ (dep_of kR) rfl) hn13
   obtain ⟨A4, c4, e113, hG4⟩ := d4
   have d7 : ∃ b : Nat, gg 116 = .slice (some ⟨b, 0, none⟩) gs.length gs.length ∧ IntsIn wx (some ⟨b, 0, none⟩) ((List.replicate gs.length 0).map (fun n : Nat => (n : Int))) := (show (st 13 = false → (∃ b : Nat, gg 116 = .slice (some ⟨b, 0, none⟩) gs.length gs.length ∧ IntsIn wx (some ⟨b, 0, none⟩) ((List.replicate gs.length 0).map (fun n : Nat => (n : Int))))) from hd 7 _ (dep_of kR) rfl) hn13
   obtain ⟨b116, e116, hI116⟩ := d7
   refine os_know 109 (.agg #[.slice A l.length c, .slice B fs.length d]) e109 nu (os_know 113 (.slice A4 (1 + gs.length) c4) e113 nu (os_know 116 (.slice (some ⟨b116, 0, none⟩) gs.length gs.length) e116 nu ?_))
   refine os_cl fn22 (joinA_any A B A4 (some ⟨b116, 0, none⟩) c d c4 l fs gs wx (hT.mono hB) hG4 hI116 hgv hh0 om hN2) rfl (fun e' w2 hr => ?_)
   obtain ⟨⟨AY, Y, cY, okY, rfl, hNY, hUY, hkY⟩, hs⟩ := hr
   exact ⟨_, rfl, Same.of_bel hs, ⟨_, _, _, _, rfl, fun _ => hNY, hUY, hkY⟩⟩
  | 9, _, hoq, hns =>
   obtain rfl := sI hoq
   show OS _ _ _ _ _ _
   have hs0 := hs
   clear hs
   have d8 : ∃ (AY : Option Addr) (Y : List Nd) (cY : Nat) (okY : Bool), gg 117 = .tuple #[.agg #[.slice AY (List.length Y) cY], .bool okY] ∧ (st 13 = false → NodesIn wx AY Y) ∧ UnY l gs Y ∧ (okY = true ↔ Bound l (UA gs gs.length) (JA gs gs.length)) := hd 8 _ (dep_of kR) rfl
   obtain ⟨AY, Y, cY, okY, e117, hNY, hUY, hkY⟩ := d8
   refine os_know 117 (.tuple #[.agg #[.slice AY (List.length Y) cY], .bool okY]) e117 nu ?_
   refine os_rv (r_mv (v := .tuple _) rfl) ⟨Same.refl _ _, ?_⟩
   exact ⟨_, _, _, _, rfl, hNY, hUY, hkY⟩
  | 10, _, hoq, hns =>
   obtain rfl := sI hoq
   show OS _ _ _ _ _ _
   have hs0 := hs
   clear hs
   have d9 : ∃ (AY : Option Addr) (Y : List Nd) (cY : Nat) (okY : Bool), gg 108 = .tuple #[.agg #[.slice AY (List.length Y) cY], .bool okY] ∧ (st 13 = false → NodesIn wx AY Y) ∧ UnY l gs Y ∧ (okY = true ↔ Bound l (UA gs gs.length) (JA gs gs.length)) := hd 9 _ (dep_of kR) rfl
   obtain ⟨AY, Y, cY, okY, e108, hNY, hUY, hkY⟩ := d9
   refine os_know 108 (.tuple #[.agg #[.slice AY (List.length Y) cY], .bool okY]) e108 nu ?_
   refine os_rv (r_ex (v := .agg _) rfl rfl) ⟨Same.refl _ _, ?_⟩
   exact ⟨_, _, _, rfl, hNY, hUY⟩
  | 11, _, hoq, hns =>
   obtain rfl := sI hoq
   show OS _ _ _ _ _ _
   have hs0 := hs
   clear hs
   have d9 : ∃ (AY : Option Addr) (Y : List Nd) (cY : Nat) (okY : Bool), gg 108 = .tuple #[.agg #[.slice AY (List.length Y) cY], .bool okY] ∧ (st 13 = false → NodesIn wx AY Y) ∧ UnY l gs Y ∧ (okY = true ↔ Bound l (UA gs gs.length) (JA gs gs.length)) := hd 9 _ (dep_of kR) rfl
   obtain ⟨AY, Y, cY, okY, e108, hNY, hUY, hkY⟩ := d9
   refine os_know 108 (.tuple #[.agg #[.slice AY (List.length Y) cY], .bool okY]) e108 nu ?_
   refine os_rv (r_ex (v := .bool _) rfl rfl) ⟨Same.refl _ _, ?_⟩
   exact ⟨_, rfl, hkY⟩
  | 12, _, hoq, hns =>
   obtain rfl := sI hoq
   show OS _ _ _ _ _ _
   have hs0 := hs
   clear hs
   refine os_wl (fun ops Q K => ?_)
   refine wl_al (cs := #[.slice none 0 0]) ze28 rfl (fun b17 w1 hb17 hs hr => ?_)
   exact K _ _ ⟨hs, _, rfl, lT hs0.size hr, fun _ => hb17, fun h => absurd (hns 13 rfl kR) (by rw [h]; decide)⟩
  | 13, _, hoq, hns =>
   obtain rfl := sI hoq
   show st 13 = false → (∀ j k, j ∈ _ → k ∈ _ → j ≠ k → ha j ≤ la k ∨ ha k ≤ la j) → OS _ _ _ _ _ _
   intro hn hI
   have hs0 := hs
   clear hs
   have d10 : ∃ (AY : Option Addr) (Y : List Nd) (cY : Nat), gg 118 = .agg #[.slice AY (List.length Y) cY] ∧ (st 13 = false → NodesIn wx AY Y) ∧ UnY l gs Y := hd 10 _ (dep_of kR) rfl
   obtain ⟨AY, Y, cY, e118, hNY, hUY⟩ := d10
   have d12 : ∃ b : Nat, gg 17 = .pointer (some ⟨b, 0, none⟩) ∧ w25.heap.size ≤ b ∧ (st 13 = false → Blk wx b 28 #[.slice none 0 0]) ∧ (st 13 = true → ∃ (AY : Option Addr) (Y : List Nd) (cY : Nat), Blk wx b 28 #[.slice AY (List.length Y) cY] ∧ NodesIn wx AY Y ∧ UnY l gs Y) := hd 12 _ (dep_of kR) rfl
   obtain ⟨b17, e17, lo17, hz17, hy17⟩ := d12
   refine os_know 118 (.agg #[.slice AY (List.length Y) cY]) e118 nu (os_know 17 (.pointer (some ⟨b17, 0, none⟩)) e17 nu ?_)
   have hzb := hz17 hn
   have hNY2 := hNY hn
   refine os_wl0 (fun ops Q K => ?_)
   refine wl_stW hzb rfl rfl sz28_UAll rfl oneA (fun w2 hq hs2 => ?_)
   have K2 := K w2
   refine K2 ⟨hs0.freshL hs2 (fun g hg => by rw [List.mem_singleton.1 hg]; exact .inr lo17), hs2.size, ?_, fun kx ox hne hox h => ?_⟩
   ·
    exact trivial
   match kx, hne, hox, h with
   | 0, _, _, h => exact h
   | 1, _, _, _ => exact fun h => nomatch h
   | 2, _, _, _ => exact fun h => nomatch h
   | 3, _, _, h => exact h
   | 4, _, _, _ => exact fun h => nomatch h
   | 5, _, _, h => exact h
   | 6, _, _, h => exact h
   | 7, _, _, _ => exact fun h => nomatch h
   | 8, _, hox, h =>
    obtain rfl : _ = ox := Option.some.inj hox
    obtain ⟨AY, Y, cY, okY, e117, hNY, hUY, hkY⟩ := (show ∃ (AY : Option Addr) (Y : List Nd) (cY : Nat) (okY : Bool), gg 117 = .tuple #[.agg #[.slice AY (List.length Y) cY], .bool okY] ∧ (st 13 = false → NodesIn wx AY Y) ∧ UnY l gs Y ∧ (okY = true ↔ Bound l (UA gs gs.length) (JA gs gs.length)) from h)
    exact ⟨AY, Y, cY, okY, e117, (fun h => by cases (show true = false from h)), hUY, hkY⟩
   | 9, _, hox, h =>
    obtain rfl : _ = ox := Option.some.inj hox
    obtain ⟨AY, Y, cY, okY, e108, hNY, hUY, hkY⟩ := (show ∃ (AY : Option Addr) (Y : List Nd) (cY : Nat) (okY : Bool), gg 108 = .tuple #[.agg #[.slice AY (List.length Y) cY], .bool okY] ∧ (st 13 = false → NodesIn wx AY Y) ∧ UnY l gs Y ∧ (okY = true ↔ Bound l (UA gs gs.length) (JA gs gs.length)) from h)
    exact ⟨AY, Y, cY, okY, e108, (fun h => by cases (show true = false from h)), hUY, hkY⟩
   | 10, _, hox, h =>
    obtain rfl : _ = ox := Option.some.inj hox
    obtain ⟨AY, Y, cY, e118, hNY, hUY⟩ := (show ∃ (AY : Option Addr) (Y : List Nd) (cY : Nat), gg 118 = .agg #[.slice AY (List.length Y) cY] ∧ (st 13 = false → NodesIn wx AY Y) ∧ UnY l gs Y from h)
    exact ⟨AY, Y, cY, e118, (fun h => by cases (show true = false from h)), hUY⟩
   | 11, _, _, h => exact h
   | 12, _, hox, h =>
    obtain rfl : _ = ox := Option.some.inj hox
    obtain ⟨b17x, e17x, lo17x, hz17x, hy17x⟩ := (show ∃ b : Nat, gg 17 = .pointer (some ⟨b, 0, none⟩) ∧ w25.heap.size ≤ b ∧ (st 13 = false → Blk wx b 28 #[.slice none 0 0]) ∧ (st 13 = true → ∃ (AY : Option Addr) (Y : List Nd) (cY : Nat), Blk wx b 28 #[.slice AY (List.length Y) cY] ∧ NodesIn wx AY Y ∧ UnY l gs Y) from h)
    have hb17x : b17x = b17 := by
      have h := e17x.symm.trans e17
      cases h; rfl
    subst hb17x
    exact ⟨b17x, e17x, lo17x, (fun h => by cases (show true = false from h)), fun _ => ⟨AY, Y, cY, hq, hNY2.keep hzb hs2, hUY⟩⟩
   | 13, hne, _, _ => exact absurd rfl hne
   | 14, _, _, h => exact h
   | _ + 15, _, _, _ => exact trivial
  | 14, _, hoq, hns =>
   obtain rfl := sI hoq
   show OS _ _ _ _ _ _
   have hs0 := hs
   clear hs
   have d11 : ∃ okY : Bool, gg 119 = .bool okY ∧ (okY = true ↔ Bound l (UA gs gs.length) (JA gs gs.length)) := hd 11 _ (dep_of kR) rfl
   obtain ⟨okY, e119, hkY⟩ := d11
   refine os_know 119 (.bool okY) e119 nu ?_
   refine os_rv (r_as (v := .bool _) rfl) ⟨Same.refl _ _, ?_⟩
   exact ⟨_, rfl, hkY⟩
  | _ + 15, hix, _, _ => exact absurd hix om
 intro st gg w30 la ha hall hs hR hI
 have hs0 := hs
 replace hB := hB.tr0 hs
 replace hb2 := hb2.tr0 hs
 replace hBX := hBX.tr0 hs
 replace hb8 := hb8.tr0 hs
 replace hb10 := hb10.tr0 hs
 clear hs
 have d12 : ∃ b : Nat, gg 17 = .pointer (some ⟨b, 0, none⟩) ∧ w25.heap.size ≤ b ∧ (st 13 = false → Blk w30 b 28 #[.slice none 0 0]) ∧ (st 13 = true → ∃ (AY : Option Addr) (Y : List Nd) (cY : Nat), Blk w30 b 28 #[.slice AY (List.length Y) cY] ∧ NodesIn w30 AY Y ∧ UnY l gs Y) := hR 12 _ rfl
 obtain ⟨b17, e17, lo17, hz17, hy17⟩ := d12
 have d14 : ∃ okY : Bool, gg 18 = .bool okY ∧ (okY = true ↔ Bound l (UA gs gs.length) (JA gs gs.length)) := hR 14 _ rfl
 obtain ⟨okY, e18, hkY⟩ := d14
 obtain ⟨AY, Y, cY, hb17, hNY, hUY⟩ := hy17 (hall 13 dE rfl)
 obtain ⟨hr1, hr2⟩ := alls_ref h0 hUX hUY hkY
 obtain ⟨wY, hwY⟩ : ∃ x, x = w30 := ⟨_, rfl⟩
 have hBY : Bel wY w30 := by rw [hwY]; exact Below.refl _ _
 rw [← hwY] at hNY
 refine wl_know 17 (.pointer (some ⟨b17, 0, none⟩)) e17 nu (wl_know 18 (.bool okY) e18 nu (x_nil (e_S (c_seq (c_seq ?_)))))
 refine c_cut1 [120, 121, 122, 123, 124, 125, 126] 126 (.bool (decide (okY = true ∧ 60 < Y.length))) nu ?_ (fun gq => ?_)
 ·
  refine c_region (wmB rfl (wmB rfl ?_))
  refine wl_cases 121 rfl (fun g121 => ?_) (fun g121 => ?_)
  ·
   refine wl_gd 121 rfl rfl (wl (r_fa U28 sz26 dE rfl rfl rfl) (wl_gd 121 rfl rfl (wl (r_ld1 (v := .slice _ _ _) U26 rfl rfl (hb17.cell rfl)) (wl_gd 121 rfl rfl (wl (r_len U26 rfl) ?_)))))
   refine wl_gd 121 rfl rfl (wl (r_gtr rfl rfl) (wl (r_pt (v := .bool _) rfl rfl) ?_))
   refine x_nil (e_R ⟨rfl, agA, ?_⟩)
   show Value.bool _ = Value.bool _
   first
    | exact congrArg Value.bool (decide_eq_decide.2 ⟨fun h => ⟨g121, by omega⟩, fun h => by have := h.2; omega⟩)
    | exact congrArg Value.bool (decide_eq_false (fun h => by rw [g121] at h; cases h.1)).symm
  refine wlgn 121 rfl rfl rfl (wlgn 121 rfl rfl rfl (wlgn 121 rfl rfl rfl (wlgn 121 rfl rfl rfl (wl (r_pf (v := .bool _) rfl rfl) ?_))))
  refine x_nil (e_R ⟨rfl, agA, ?_⟩)
  show Value.bool _ = Value.bool _
  first
   | exact congrArg Value.bool (decide_eq_decide.2 ⟨fun h => ⟨g121, by omega⟩, fun h => by have := h.2; omega⟩)
   | exact congrArg Value.bool (decide_eq_false (fun h => by rw [g121] at h; cases h.1)).symm
 refine e_S ?_
 refine c_ifd rfl (fun c126 => ?_) (fun c126 => ?_)
 ·
  obtain ⟨rfl, rfl, rfl⟩ := hr1 c126.1 c126.2
  refine c_seq (c_region (wl (r_ldS U30 rfl rfl hb10.range0 sz30_SFind) (wl (r_bd2 (v0 := .int _ _) (v1 := .int _ _) (fun v0 v1 => #[v0, v1]) rfl rfl kR) (wl (r_eqF Tryd.eqGuardType30 ft30 Tryd.stoodInHeld30 fd30 U3 rfl rfl) (wl (r_mv (v := .bool true) (congrArg Value.bool (decide_eq_true ⟨rfl, rfl⟩))) ?_)))))
  refine wl_gd 130 rfl rfl (wmB rfl (wl_gd 130 rfl rfl (wl (r_not rfl) (wl (r_pt (v := .bool _) rfl rfl) (wl (r_mv (v := .bool true) rfl) ?_)))))
  refine wl_gd 134 rfl rfl (wl (r_fa U28 sz26 dE rfl rfl rfl) (wl_gd 134 rfl rfl (wl (r_ld1 (v := .slice _ _ _) U26 rfl rfl (hb8.cell rfl)) (wl_gd 134 rfl rfl (wl (r_len U26 rfl) ?_)))))
  refine wl_gd 134 rfl rfl (wl (r_eql rfl rfl) (wl (r_pt (v := .bool _) rfl rfl) (wl (r_as (v := .bool true) (congrArg Value.bool (decide_eq_true rfl))) (x_nil (e_S ?_)))))
  refine c_ret (e_Sr (fin1 (.inl rfl) rfl rfl ?_))
  exact ⟨rfl, hB⟩
 obtain ⟨rfl, rfl, rfl⟩ := hr2 c126
 refine c_skip (e_S (c_seq (c_region (wl (r_fa U30 sz3_UAll dE rfl rfl rfl) (wl (r_ld1 (v := .int _ _) U3 rfl rfl (hb10.cell rfl)) ?_)))))
 refine wl (r_eql rfl rfl) (wl (r_mv (v := .bool true) (congrArg Value.bool (decide_eq_true rfl))) (wl_gd 143 rfl rfl (wmB rfl (wl_gd 143 rfl rfl (wmB rfl ?_)))))
 refine wl_gd 143 rfl rfl (wl (r_eqlBr U4 rfl rfl (beq_self_eq_true _)) (wl (r_pt (v := .bool _) rfl rfl) (wmB rfl (wl_gd 148 rfl rfl (wl (r_ldS U28 rfl rfl hb8.range0 sz28_UAll) ?_)))))
 refine wl_gd 148 rfl rfl (wl (r_ldS U28 rfl rfl hb17.range0 sz28_UAll) (wl_gd 148 rfl rfl ?_))
 refine wl_cl fn13_UOrd (same_any AX AY _ _ _ _ _ _ _ (hNX.mono hBX) (hNY.mono hBY) rfl rfl rfl) rfl (fun e' w31 hr => ?_)
 obtain ⟨rfl, hs⟩ := hr
 replace hs := Same.of_bel hs
 replace hB := hB.tr0 hs
 replace hb2 := hb2.tr0 hs
 replace hBX := hBX.tr0 hs
 replace hb8 := hb8.tr0 hs
 replace hb10 := hb10.tr0 hs
 replace hb17 := hb17.tr0 hs
 replace hBY := hBY.tr0 hs
 clear hs
 refine ⟨_, rfl, ?_⟩
 refine wl (r_pt (v := .bool _) rfl rfl) (waB rfl (x_nil (e_S (c_ret (fin1 (.inl rfl) rfl rfl ?_)))))
 exact ⟨rfl, hB⟩
end Go.Proofs.YteoncmfiiknfbaaDoor
