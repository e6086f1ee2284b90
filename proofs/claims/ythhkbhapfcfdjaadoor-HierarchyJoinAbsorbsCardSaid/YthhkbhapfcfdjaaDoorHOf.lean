/- What these functions of the program compute, at every world: glosswright/glosswrightequal.hierarchyOf. -/
import Derived.Test.YthhkbhapfcfdjaaDoorGraphOf
namespace Go.Proofs.YthhkbhapfcfdjaaDoor
open Go.RowKit

/-- a slice of strings -/
def StrsIn (w : World) (A : Option Addr) (ss : List ByteArray) : Prop :=
  ss ≠ [] → ∃ b o, A = some ⟨b, o, none⟩ ∧ b < w.heap.size ∧ ∀ k (h : k < ss.length), w.cell? ⟨b, o + k * 1, none⟩ = some (.string ss[k])
theorem StrsIn.at_ {w w' : World} {A : Option Addr} {ss : List ByteArray} (h : StrsIn w A ss) (hb : Bel w w') {k : Nat} (hk : k < ss.length) :
    ∃ b o, A = some ⟨b, o, none⟩ ∧ w'.cell? ⟨b, o + k * 1, none⟩ = some (.string ss[k]) := by
  obtain ⟨b, o, e, hl, hc⟩ := h (by rintro rfl; simp at hk)
  exact ⟨b, o, e, hb.cell hl (hc k hk)⟩
def hierAt (ns : List ByteArray) (ps : List Int) (i : Nat) : Ty := ⟨ns.getD i ⟨#[]⟩, if 0 < i then [ps.getD i 0] else []⟩
def hierL (ns : List ByteArray) (ps : List Int) (k : Nat) : List Ty := (List.range k).map (hierAt ns ps)
theorem hierL_succ (ns : List ByteArray) (ps : List Int) (k : Nat) : hierL ns ps (k + 1) = hierL ns ps k ++ [hierAt ns ps k] := by
  unfold hierL; rw [List.range_succ, List.map_append]; rfl
theorem hierL_len (ns : List ByteArray) (ps : List Int) (k : Nat) : (hierL ns ps k).length = k := by simp [hierL]
/-- a world in which the blocks from B on are as they were -/
structure FrSame (B : Nat) (w w2 : World) : Prop where
  size : w.heap.size ≤ w2.heap.size
  blk : ∀ k, B ≤ k → k < w.heap.size → w2.heap[k]? = w.heap[k]?
theorem FrSame.of {B : Nat} {w0 w w' : World} {X : List Nat} (h : FrSame B w0 w) (hs : Same X w w') (hx : ∀ g ∈ X, g < B ∨ w0.heap.size ≤ g) : FrSame B w0 w' :=
  ⟨Nat.le_trans h.size hs.size, fun k hk hk2 => by
    rw [hs.blk k (Nat.lt_of_lt_of_le hk2 h.size) (fun hm => by have := hx k hm; omega)]
    exact h.blk k hk hk2⟩
theorem FrSame.refl (B : Nat) (w : World) : FrSame B w w := ⟨Nat.le_refl _, fun _ _ _ => rfl⟩
theorem FrSame.at_ {B b t : Nat} {w w2 : World} {cs : Array Value} (h : FrSame B w w2) (hb : Blk w b t cs) (hl : B ≤ b) : Blk w2 b t cs := (h.blk b hl hb.lt).trans hb
/-- the cells of a row of types -/
inductive Tys (w : World) (B : Nat) : List Ty → List Value → Prop
  | nil : Tys w B [] []
  | snoc {l : List Ty} {cs : List Value} {t : Ty} {A : Option Addr} (h : Tys w B l cs) (hp : t.par = [] ∨ ∃ b z, t.par = [z] ∧ A = some ⟨b, 0, none⟩ ∧ B ≤ b ∧ Blk w b 3 #[.int .i64 z]) : Tys w B (l ++ [t]) (cs ++ [.string t.name, .slice A t.par.length t.par.length])
theorem Tys.of {w w' : World} {B : Nat} {l : List Ty} {cs : List Value} (h : Tys w B l cs) (hk : ∀ b z, B ≤ b → Blk w b 3 #[.int .i64 z] → Blk w' b 3 #[.int .i64 z]) : Tys w' B l cs := by
  induction h with
  | nil => exact .nil
  | snoc h hp ih =>
    refine .snoc ih ?_
    rcases hp with hp | ⟨b, z, h1, h2, h3, h4⟩
    · exact .inl hp
    · exact .inr ⟨b, z, h1, h2, h3, hk b z h3 h4⟩
theorem Tys.tr {w w' : World} {B : Nat} {l : List Ty} {cs : List Value} {X : List Nat} (h : Tys w B l cs) (hs : Same X w w') (hx : ∀ g ∈ X, ∃ cs t, Blk w g t cs ∧ t ≠ 3) : Tys w' B l cs :=
  h.of (fun b z _ hb => hb.tr hs (fun hm => by obtain ⟨cs, t, h1, h2⟩ := hx b hm; exact h2 (blk_type h1 hb)))
theorem Own.blk {w : World} {base : Nat} {e : TypeId} {sz : Nat} {A : Option Addr} {k cap : Nat} {xs : List Value} (h : Own w base e sz A k cap xs) : ∀ g ∈ aL A, ∃ cs, Blk w g e cs := fun g hg => by
  rcases h.2 with ⟨hn, _⟩ | ⟨g', c, cur, hv, hb, hgg, r⟩
  · cases hn; cases hg
  · cases hv
    simp only [aL, List.mem_singleton] at hg
    subst hg; exact ⟨cur, hgg⟩
theorem Tys.len {w : World} {B : Nat} {l : List Ty} {cs : List Value} (h : Tys w B l cs) : cs.length = l.length * 2 := by
  induction h with
  | nil => rfl
  | snoc h hp ih => simp only [List.length_append, List.length_cons, List.length_nil, ih]; omega
theorem Tys.get {w : World} {B : Nat} {l : List Ty} {cs : List Value} (h : Tys w B l cs) : ∀ k (hk : k < l.length), ∃ A c, cs[k * 2]? = some (.string (l[k]).name) ∧ cs[k * 2 + 1]? = some (.slice A (l[k]).par.length c) ∧ IntsIn w A (l[k]).par := by
  induction h with
  | nil => intro k hk; simp at hk
  | snoc h hp ih =>
    rename_i l cs t A
    intro k hk
    have hlen := h.len
    by_cases e : k < l.length
    · obtain ⟨A', c, h1, h2, h3⟩ := ih k e
      refine ⟨A', c, ?_, ?_, ?_⟩
      · rw [List.getElem?_append_left (by omega), h1, List.getElem_append_left e]
      · rw [List.getElem?_append_left (by omega), h2, List.getElem_append_left e]
      · rw [List.getElem_append_left e]; exact h3
    · simp only [List.length_append, List.length_cons, List.length_nil] at hk
      have ek : k = l.length := by omega
      subst ek
      have eg : (l ++ [t])[l.length]'(by simp) = t := by simp
      rw [eg]
      refine ⟨A, t.par.length, ?_, ?_, ?_⟩
      · rw [List.getElem?_append_right (by omega), hlen]; simp
      · rw [List.getElem?_append_right (by omega), hlen]; simp
      · rcases hp with hp | ⟨b, z, h1, h2, h3, h4⟩
        · rw [hp]; exact ⟨Nat.zero_le _, fun h => absurd rfl h⟩
        · rw [h1]
          refine ⟨by simp [maxI], fun _ => ⟨b, 0, h2, h4.lt, fun j hj => ?_⟩⟩
          have : j = 0 := by simp at hj; omega
          subst this
          exact h4.cell rfl
theorem own_types {w : World} {B : Nat} {A : Option Addr} {k cap : Nat} {cs : List Value} {l : List Ty} (ho : Own w B 67 2 A k cap cs) (ht : Tys w B l cs) : TypesIn w A l := by
  have hlk : l.length = k := by have h1 := ho.len; have h2 := ht.len; omega
  refine ⟨by rw [hlk]; exact ho.max, fun hn => ?_⟩
  obtain ⟨g, e, hb, hg, hc⟩ := ho.cell (by
    intro h0
    have := ht.len
    rw [h0] at this
    cases l with
    | nil => exact hn rfl
    | cons a r => simp only [List.length_nil, List.length_cons] at this; omega)
  refine ⟨g, 0, e, hg, fun j hj => ?_⟩
  obtain ⟨A', c, h1, h2, h3⟩ := ht.get j hj
  refine ⟨A', c, ?_, h3⟩
  intro i v hi
  match i, hi with
  | 0, hi => cases hi; have := hc _ _ h1; simpa using this
  | 1, hi => cases hi; have := hc _ _ h2; simpa using this
  | _ + 2, hi => cases hi
theorem own_types_fr {w w2 : World} {B B0 : Nat} {A : Option Addr} {k cap : Nat} {cs : List Value} {l : List Ty} (ho : Own w B 67 2 A k cap cs) (ht : Tys w B l cs) (hB : B0 ≤ B) (hf : FrSame B0 w w2) : TypesIn w2 A l := by
  have ho2 : Own w2 B 67 2 A k cap cs := by
    refine ⟨ho.1, ?_⟩
    rcases ho.2 with hn | ⟨g, c, cur, hv, hb, hg, r⟩
    · exact .inl hn
    · exact .inr ⟨g, c, cur, hv, hb, (hf.blk g (Nat.le_trans hB hb) (lt_of_heap hg)).trans hg, r⟩
  exact own_types ho2 (ht.of (fun b z hb hbb => hf.at_ hbb (Nat.le_trans hB hb)))
theorem hierAt_zero {ns : List ByteArray} {ps : List Int} {k : Nat} (hk : k < ns.length) (h : ¬ 0 < k) : hierAt ns ps k = ⟨ns[k], []⟩ := by
  simp [hierAt, h, List.getD, List.getElem?_eq_getElem hk]
theorem hierAt_pos {ns : List ByteArray} {ps : List Int} {k : Nat} (hk : k < ns.length) (hk2 : k < ps.length) (h : 0 < k) : hierAt ns ps k = ⟨ns[k], [ps[k]]⟩ := by
  simp [hierAt, h, List.getD, List.getElem?_eq_getElem hk, List.getElem?_eq_getElem hk2]
theorem tys_zero {w : World} {B k : Nat} {ns : List ByteArray} {ps : List Int} {cs : List Value} (h : Tys w B (hierL ns ps k) cs) (hk : k < ns.length) (h0 : ¬ 0 < k) : Tys w B (hierL ns ps (k + 1)) (cs ++ [.string ns[k], .slice none 0 0]) := by
  rw [hierL_succ, hierAt_zero hk h0]
  exact .snoc (t := ⟨ns[k], []⟩) h (.inl rfl)
theorem tys_pos {w : World} {B k b : Nat} {ns : List ByteArray} {ps : List Int} {cs : List Value} (h : Tys w B (hierL ns ps k) cs) (hk : k < ns.length) (hk2 : k < ps.length) (h0 : 0 < k) (hb : Blk w b 3 #[.int .i64 ps[k]]) (hB : B ≤ b) : Tys w B (hierL ns ps (k + 1)) (cs ++ [.string ns[k], .slice (some ⟨b, 0, none⟩) 1 1]) := by
  rw [hierL_succ, hierAt_pos hk hk2 h0]
  exact .snoc (t := ⟨ns[k], [ps[k]]⟩) h (.inr ⟨b, _, rfl, rfl, hB, hb⟩)

theorem in67 : (Tryd.prog.info? 67).map (fun i => (i.zero, i.size, i.bytes)) = some (some (.agg #[.string ⟨#[]⟩, .slice none 0 0]), 2, 40) := by kernel_rfl
theorem sz25 : (Tryd.prog.info? 25).map (·.size) = some 2 := by kernel_rfl
theorem ze25 : (Tryd.prog.info? 25).map (·.zero) = some (some (.agg #[.slice none 0 0, .slice none 0 0])) := by kernel_rfl
set_option maxHeartbeats 1000000 in
theorem hierarchyOf_any (A B C : Option Addr) (c d m f : Nat) (ns : List ByteArray) (ps : List Int) (w : World) (hN : StrsIn w A ns) (hP : IntsIn w B ps) (hl : ns.length ≤ 1000) (hpl : ps.length = ns.length) : Calls Tryd.prog 26 #[.slice A ns.length c, .slice B ps.length d, .slice C m f] w fun e w' => (∃ A' cap, e = .returned (.agg #[.slice A' ns.length cap, .slice C m f]) ∧ ∀ w2, FrSame w.heap.size w' w2 → TypesIn w2 A' (hierL ns ps ns.length)) ∧ Bel w w' := by
  refine enter Tryd.func26 Tryd.ntmps26 rfl (Nat.le_of_ble_eq_true rfl) ?_
  have hB : Bel w w := Below.refl _ _
  refine c_seq ?_
  refine c_region ?_
  refine wl_al (cs := #[.slice none 0 0, .slice none 0 0]) ze25 rfl (fun b6 w1 hb6 hs hr => ?_)
  have lo6 := Nat.le_trans (Bel.size hB) hr
  replace hB := hB.tr0 hs
  clear hs
  clear hr
  refine x_nil ?_
  refine e_S ?_
  refine c_seq ?_
  refine c_region ?_
  refine wl_al (cs := #[.slice none 0 0, .slice none 0 0]) ze25 rfl (fun b7 w2 hb7 hs hr => ?_)
  have or_b6_b7 : b6 < b7 := Nat.lt_of_lt_of_le hb6.lt hr
  have lo7 := Nat.le_trans (Bel.size hB) hr
  replace hB := hB.tr0 hs
  replace hb6 := hb6.tr0 hs
  clear hs
  clear hr
  refine x_nil ?_
  refine e_S ?_
  refine c_seq ?_
  refine c_seq ?_
  refine c_region ?_
  refine wl (r_mv (v := .slice _ _ _) rfl) ?_
  refine wl (r_len Tryd.underlying74 rfl) ?_
  refine wl (r_mv (v := .int _ _) rfl) ?_
  refine x_nil ?_
  refine e_S ?_
  refine c_block ?_
  refine c_loopS [8, 9, 10, 13, 14, 15, 16, 17, 18, 19, 20, 21, 22, 23, 24, 25, 26, 27, 28, 29, 30, 31, 32, 33, 34] (fun m g w' => ∃ (k : Nat) (A7 : Option Addr) (cap7 : Nat) (cs : List Value), k ≤ ns.length ∧ m = ns.length - k ∧ g 13 = .int .i64 k ∧ Bel w w' ∧ Blk w' b6 25 #[.slice none 0 0, .slice none 0 0] ∧ Blk w' b7 25 #[.slice A7 k cap7, .slice none 0 0] ∧ Own w' (b7 + 1) 67 2 A7 k cap7 cs ∧ Tys w' (b7 + 1) (hierL ns ps k) cs) (ns.length) ?_ (fun m g3 w3 hI => ?_)
  · exact ⟨0, none, 0, [], Nat.zero_le _, rfl, rfl, hB, hb6, hb7, Own.nil _ _ _ _, .nil⟩
  obtain ⟨k, A7, cap7, cs, hk, hm, h13, hB, hb6, hb7, ho7, hty⟩ := hI
  refine c_know 13 (.int .i64 k) h13 (by simp [undef]) ?_
  refine c_seq ?_
  refine c_region ?_
  refine wl (r_lss rfl rfl) ?_
  refine x_nil ?_
  refine e_S ?_
  refine c_seq ?_
  refine c_ifd rfl (fun c14 => ?_) (fun c14 => ?_)
  · have hlt : k < ns.length := by omega
    have hlp : k < ps.length := by omega
    obtain ⟨nb, no, rfl, hnc⟩ := hN.at_ hB hlt
    obtain ⟨pb, po, rfl, hpb, hpc⟩ := hP.at_ hlp
    refine c_skip ?_
    refine e_S ?_
    refine c_seq ?_
    refine c_block ?_
    refine c_seq ?_
    refine c_region ?_
    refine wl (r_mv (v := .int _ _) rfl) ?_
    refine wl (r_ia (i := k) Tryd.underlying74 sz9 rfl rfl (by omega) rfl) ?_
    refine wl (r_ld1 (v := .string _) Tryd.underlying9 rfl rfl hnc) ?_
    refine wl (r_as (v := .int _ _) rfl) ?_
    refine wl (r_as (v := .string _) rfl) ?_
    refine x_nil ?_
    refine e_S ?_
    refine c_seq ?_
    refine c_region ?_
    refine wl (r_mv (v := .string _) rfl) ?_
    refine wl (r_bd1 (v0 := .string _) (fun v0 => #[v0, .slice none 0 0]) rfl (by kernel_rfl)) ?_
    refine wl_al (cs := #[.string ⟨#[]⟩, .slice none 0 0]) ze67 rfl (fun b10 w4 hb10 hs hr => ?_)
    have or_b6_b10 : b6 < b10 := Nat.lt_of_lt_of_le hb6.lt hr
    have or_b7_b10 : b7 < b10 := Nat.lt_of_lt_of_le hb7.lt hr
    have or_ho7_b10 := fun g hg => Nat.lt_of_lt_of_le (ho7.lt g hg).2 hr
    have lo10 := Nat.le_trans (Bel.size hB) hr
    replace hB := hB.tr0 hs
    replace hb6 := hb6.tr0 hs
    replace hb7 := hb7.tr0 hs
    replace ho7 := ho7.tr0 hs
    replace hty := hty.tr hs (fun g hg => by cases hg)
    clear hs
    clear hr
    refine wl_stW hb10 rfl rfl sz67 rfl (by repeat (first | rfl | refine one_cons (by first | rfl | assumption) ?_)) (fun w5 hq hs => ?_)
    replace hB := hB.tr1 hs lo10
    replace hb6 := hb6.tr1 hs (by omega)
    replace hb7 := hb7.tr1 hs (by omega)
    replace ho7 := ho7.tr1 hs (fun g hg => by have := (ho7.lt g hg).1; (try have := or_ho7_b10 g hg); (try simp only [aL, List.mem_singleton] at hg); omega)
    replace hty := hty.tr hs (fun g hg => by rw [List.mem_singleton.1 hg]; exact ⟨_, _, hb10, by decide⟩)
    clear hs
    replace hb10 := hq
    refine x_nil ?_
    refine e_S ?_
    refine c_seq ?_
    refine c_seq ?_
    refine c_region ?_
    refine wl (r_mv (v := .int _ _) rfl) ?_
    refine wl (r_gtr rfl rfl) ?_
    refine x_nil ?_
    refine e_S ?_
    refine c_ifd rfl (fun c21 => ?_) (fun c21 => ?_)
    · skip
      refine c_region ?_
      refine wl (r_mv (v := .slice _ _ _) rfl) ?_
      refine wl (r_mv (v := .int _ _) rfl) ?_
      refine wl (r_ia (i := k) Tryd.underlying45 sz3 rfl rfl (by omega) rfl) ?_
      refine wl (r_ld1 (v := .int _ _) Tryd.underlying3 rfl rfl (hB.cell hpb hpc)) ?_
      refine wl_bs (cs := #[_]) [(0, .int _ _)] rfl Tryd.underlying45 sz3 ze3 (by decide) (by decide) (by kernel_rfl) rfl (fun b26 w6 hb26 hs hr => ?_)
      have or_b6_b26 : b6 < b26 := Nat.lt_of_lt_of_le hb6.lt hr
      have or_b7_b26 : b7 < b26 := Nat.lt_of_lt_of_le hb7.lt hr
      have or_ho7_b26 := fun g hg => Nat.lt_of_lt_of_le (ho7.lt g hg).2 hr
      have or_b10_b26 : b10 < b26 := Nat.lt_of_lt_of_le hb10.lt hr
      have lo26 := Nat.le_trans (Bel.size hB) hr
      replace hB := hB.tr0 hs
      replace hb6 := hb6.tr0 hs
      replace hb7 := hb7.tr0 hs
      replace ho7 := ho7.tr0 hs
      replace hty := hty.tr hs (fun g hg => by cases hg)
      replace hb10 := hb10.tr0 hs
      clear hs
      clear hr
      refine wl (r_fa Tryd.underlying67 sz45 (by decide) rfl rfl rfl) ?_
      refine wl_st1 (v := .slice _ _ _) hb10 rfl rfl sz45 (by first | decide | simp) rfl rfl (fun w7 hq hs => ?_)
      replace hB := hB.tr1 hs lo10
      replace hb6 := hb6.tr1 hs (by omega)
      replace hb7 := hb7.tr1 hs (by omega)
      replace ho7 := ho7.tr1 hs (fun g hg => by have := (ho7.lt g hg).1; (try have := or_ho7_b10 g hg); (try simp only [aL, List.mem_singleton] at hg); omega)
      replace hty := hty.tr hs (fun g hg => by rw [List.mem_singleton.1 hg]; exact ⟨_, _, hb10, by decide⟩)
      replace hb26 := hb26.tr1 hs (by omega)
      clear hs
      replace hb10 := hq
      refine x_nil ?_
      refine e_S ?_
      refine c_region ?_
      refine wl (r_fa Tryd.underlying25 sz22 (by decide) rfl rfl rfl) ?_
      refine wl (r_ld1 (v := .slice _ _ _) Tryd.underlying22 rfl rfl (hb7.cell rfl)) ?_
      refine wl (r_ldS Tryd.underlying67 rfl rfl hb10.range0 sz67) ?_
      refine wl_bs (cs := #[_, _]) [(0, .agg _)] rfl Tryd.underlying22 sz67 ze67 (by decide) (by decide) (by kernel_rfl) rfl (fun b31 w8 hb31 hs hr => ?_)
      have or_b6_b31 : b6 < b31 := Nat.lt_of_lt_of_le hb6.lt hr
      have or_b7_b31 : b7 < b31 := Nat.lt_of_lt_of_le hb7.lt hr
      have or_ho7_b31 := fun g hg => Nat.lt_of_lt_of_le (ho7.lt g hg).2 hr
      have or_b10_b31 : b10 < b31 := Nat.lt_of_lt_of_le hb10.lt hr
      have or_b26_b31 : b26 < b31 := Nat.lt_of_lt_of_le hb26.lt hr
      have lo31 := Nat.le_trans (Bel.size hB) hr
      replace hB := hB.tr0 hs
      replace hb6 := hb6.tr0 hs
      replace hb7 := hb7.tr0 hs
      replace ho7 := ho7.tr0 hs
      replace hty := hty.tr hs (fun g hg => by cases hg)
      replace hb10 := hb10.tr0 hs
      replace hb26 := hb26.tr0 hs
      clear hs
      clear hr
      refine wl_app Tryd.underlying22 in67 rfl (by decide) ho7 hb31 rfl rfl rfl (by repeat (first | rfl | refine one_cons (by first | rfl | assumption) ?_)) (by decide) (by omega) (by omega) hb7.lt (fun g32 cap32 w9 ho32 hs hg => ?_)
      have ne_ho32_b6 : g32 ≠ b6 := fun e => by
        have hl := hb6.lt
        rcases hg with hg | hg
        · have h1 := ho7.lt g32 (by rw [hg]; exact List.mem_singleton.2 rfl)
          (try have := or_ho7_b6 g32 (by rw [hg]; exact List.mem_singleton.2 rfl)); omega
        · omega
      have ne_ho32_b7 : g32 ≠ b7 := fun e => by
        have hl := hb7.lt
        rcases hg with hg | hg
        · have h1 := ho7.lt g32 (by rw [hg]; exact List.mem_singleton.2 rfl)
          (try have := or_ho7_b7 g32 (by rw [hg]; exact List.mem_singleton.2 rfl)); omega
        · omega
      have ne_ho32_b10 : g32 ≠ b10 := fun e => by
        have hl := hb10.lt
        rcases hg with hg | hg
        · have h1 := ho7.lt g32 (by rw [hg]; exact List.mem_singleton.2 rfl)
          (try have := or_ho7_b10 g32 (by rw [hg]; exact List.mem_singleton.2 rfl)); omega
        · omega
      have ne_ho32_b26 : g32 ≠ b26 := fun e => by
        have hl := hb26.lt
        rcases hg with hg | hg
        · have h1 := ho7.lt g32 (by rw [hg]; exact List.mem_singleton.2 rfl)
          (try have := or_ho7_b26 g32 (by rw [hg]; exact List.mem_singleton.2 rfl)); omega
        · omega
      replace hB := hB.tr hs (fun g hg => Nat.le_trans (Nat.le_succ_of_le lo7) (ho7.lt g hg).1)
      replace hb6 := hb6.tr hs (fun hx => by have := (ho7.lt _ hx).1; (try have := or_ho7_b6 _ hx); omega)
      replace hb7 := hb7.tr hs (fun hx => by have := (ho7.lt _ hx).1; (try have := or_ho7_b7 _ hx); omega)
      replace hty := hty.tr hs (fun g hg => by obtain ⟨cs, h⟩ := (ho7).blk g hg; exact ⟨_, _, h, by decide⟩)
      replace hb10 := hb10.tr hs (fun hx => by have := (ho7.lt _ hx).1; (try have := or_ho7_b10 _ hx); omega)
      replace hb26 := hb26.tr hs (fun hx => by have := (ho7.lt _ hx).1; (try have := or_ho7_b26 _ hx); omega)
      have hty2 := (by first | exact tys_pos hty hlt hlp (by omega) hb26 or_b7_b26 | exact tys_zero hty hlt (by omega) : Tys w9 (b7 + 1) (hierL ns ps (k + 1)) (cs ++ _))
      refine wl (r_fa Tryd.underlying25 sz22 (by decide) rfl rfl rfl) ?_
      refine wl_st1 (v := .slice _ _ _) hb7 rfl rfl sz22 (by first | decide | simp) rfl rfl (fun w10 hq hs => ?_)
      replace hB := hB.tr1 hs lo7
      replace hb6 := hb6.tr1 hs (by omega)
      replace hty := hty.tr hs (fun g hg => by rw [List.mem_singleton.1 hg]; exact ⟨_, _, hb7, by decide⟩)
      replace hb10 := hb10.tr1 hs (by omega)
      replace hb26 := hb26.tr1 hs (by omega)
      replace ho32 := ho32.tr1 hs (fun g hg => by have := (ho32.lt g hg).1; (try have := or_ho32_b7 g hg); (try simp only [aL, List.mem_singleton] at hg); omega)
      replace hty2 := hty2.tr hs (fun g hg => by rw [List.mem_singleton.1 hg]; exact ⟨_, _, hb7, by decide⟩)
      clear hs
      replace hb7 := hq
      refine x_nil ?_
      refine e_B ?_
      refine e_S ?_
      refine c_region ?_
      refine wl (r_add rfl rfl rfl (by omega)) ?_
      refine wl (r_mv (v := .int _ _) rfl) ?_
      refine x_nil ?_
      refine e_LS (ns.length - (k + 1)) (by omega) (by repeat (first | exact ag_refl | exact ag_ovr' | refine ag_upd rfl ?_ | refine ag_sub rfl ?_ | refine ag_kn (by assumption) ?_)) ?_
      exact ⟨k + 1, _, _, _, by omega, rfl, rfl, hB, hb6, hb7, ho32, hty2⟩
    · skip
      refine c_skip ?_
      refine e_S ?_
      refine c_region ?_
      refine wl (r_fa Tryd.underlying25 sz22 (by decide) rfl rfl rfl) ?_
      refine wl (r_ld1 (v := .slice _ _ _) Tryd.underlying22 rfl rfl (hb7.cell rfl)) ?_
      refine wl (r_ldS Tryd.underlying67 rfl rfl hb10.range0 sz67) ?_
      refine wl_bs (cs := #[_, _]) [(0, .agg _)] rfl Tryd.underlying22 sz67 ze67 (by decide) (by decide) (by kernel_rfl) rfl (fun b31 w11 hb31 hs hr => ?_)
      have or_b6_b31 : b6 < b31 := Nat.lt_of_lt_of_le hb6.lt hr
      have or_b7_b31 : b7 < b31 := Nat.lt_of_lt_of_le hb7.lt hr
      have or_ho7_b31 := fun g hg => Nat.lt_of_lt_of_le (ho7.lt g hg).2 hr
      have or_b10_b31 : b10 < b31 := Nat.lt_of_lt_of_le hb10.lt hr
      have lo31 := Nat.le_trans (Bel.size hB) hr
      replace hB := hB.tr0 hs
      replace hb6 := hb6.tr0 hs
      replace hb7 := hb7.tr0 hs
      replace ho7 := ho7.tr0 hs
      replace hty := hty.tr hs (fun g hg => by cases hg)
      replace hb10 := hb10.tr0 hs
      clear hs
      clear hr
      refine wl_app Tryd.underlying22 in67 rfl (by decide) ho7 hb31 rfl rfl rfl (by repeat (first | rfl | refine one_cons (by first | rfl | assumption) ?_)) (by decide) (by omega) (by omega) hb7.lt (fun g32 cap32 w12 ho32 hs hg => ?_)
      have ne_ho32_b6 : g32 ≠ b6 := fun e => by
        have hl := hb6.lt
        rcases hg with hg | hg
        · have h1 := ho7.lt g32 (by rw [hg]; exact List.mem_singleton.2 rfl)
          (try have := or_ho7_b6 g32 (by rw [hg]; exact List.mem_singleton.2 rfl)); omega
        · omega
      have ne_ho32_b7 : g32 ≠ b7 := fun e => by
        have hl := hb7.lt
        rcases hg with hg | hg
        · have h1 := ho7.lt g32 (by rw [hg]; exact List.mem_singleton.2 rfl)
          (try have := or_ho7_b7 g32 (by rw [hg]; exact List.mem_singleton.2 rfl)); omega
        · omega
      have ne_ho32_b10 : g32 ≠ b10 := fun e => by
        have hl := hb10.lt
        rcases hg with hg | hg
        · have h1 := ho7.lt g32 (by rw [hg]; exact List.mem_singleton.2 rfl)
          (try have := or_ho7_b10 g32 (by rw [hg]; exact List.mem_singleton.2 rfl)); omega
        · omega
      replace hB := hB.tr hs (fun g hg => Nat.le_trans (Nat.le_succ_of_le lo7) (ho7.lt g hg).1)
      replace hb6 := hb6.tr hs (fun hx => by have := (ho7.lt _ hx).1; (try have := or_ho7_b6 _ hx); omega)
      replace hb7 := hb7.tr hs (fun hx => by have := (ho7.lt _ hx).1; (try have := or_ho7_b7 _ hx); omega)
      replace hty := hty.tr hs (fun g hg => by obtain ⟨cs, h⟩ := (ho7).blk g hg; exact ⟨_, _, h, by decide⟩)
      replace hb10 := hb10.tr hs (fun hx => by have := (ho7.lt _ hx).1; (try have := or_ho7_b10 _ hx); omega)
      have hty2 := (by first | exact tys_pos hty hlt hlp (by omega) hb26 or_b7_b26 | exact tys_zero hty hlt (by omega) : Tys w12 (b7 + 1) (hierL ns ps (k + 1)) (cs ++ _))
      refine wl (r_fa Tryd.underlying25 sz22 (by decide) rfl rfl rfl) ?_
      refine wl_st1 (v := .slice _ _ _) hb7 rfl rfl sz22 (by first | decide | simp) rfl rfl (fun w13 hq hs => ?_)
      replace hB := hB.tr1 hs lo7
      replace hb6 := hb6.tr1 hs (by omega)
      replace hty := hty.tr hs (fun g hg => by rw [List.mem_singleton.1 hg]; exact ⟨_, _, hb7, by decide⟩)
      replace hb10 := hb10.tr1 hs (by omega)
      replace ho32 := ho32.tr1 hs (fun g hg => by have := (ho32.lt g hg).1; (try have := or_ho32_b7 g hg); (try simp only [aL, List.mem_singleton] at hg); omega)
      replace hty2 := hty2.tr hs (fun g hg => by rw [List.mem_singleton.1 hg]; exact ⟨_, _, hb7, by decide⟩)
      clear hs
      replace hb7 := hq
      refine x_nil ?_
      refine e_B ?_
      refine e_S ?_
      refine c_region ?_
      refine wl (r_add rfl rfl rfl (by omega)) ?_
      refine wl (r_mv (v := .int _ _) rfl) ?_
      refine x_nil ?_
      refine e_LS (ns.length - (k + 1)) (by omega) (by repeat (first | exact ag_refl | exact ag_ovr' | refine ag_upd rfl ?_ | refine ag_sub rfl ?_ | refine ag_kn (by assumption) ?_)) ?_
      exact ⟨k + 1, _, _, _, by omega, rfl, rfl, hB, hb6, hb7, ho32, hty2⟩
  · have hkl : k = ns.length := by omega
    subst hkl
    refine c_exit ?_
    refine e_Sx ?_
    refine e_LSx ?_
    refine e_Bx ?_
    refine e_S ?_
    refine c_seq ?_
    refine c_region ?_
    refine wl (r_mv (v := .slice _ _ _) rfl) ?_
    refine wl (r_fa Tryd.underlying25 sz23 (by decide) rfl rfl rfl) ?_
    refine wl_st1 (v := .slice _ _ _) hb7 rfl rfl sz23 (by first | decide | simp) rfl rfl (fun w14 hq hs => ?_)
    replace hB := hB.tr1 hs lo7
    replace hb6 := hb6.tr1 hs (by omega)
    replace ho7 := ho7.tr1 hs (fun g hg => by have := (ho7.lt g hg).1; (try have := or_ho7_b7 g hg); (try simp only [aL, List.mem_singleton] at hg); omega)
    replace hty := hty.tr hs (fun g hg => by rw [List.mem_singleton.1 hg]; exact ⟨_, _, hb7, by decide⟩)
    clear hs
    replace hb7 := hq
    refine x_nil ?_
    refine e_S ?_
    refine c_seq ?_
    refine c_region ?_
    refine wl (r_ldS Tryd.underlying25 rfl rfl hb7.range0 sz25) ?_
    refine wl_stW hb6 rfl rfl sz25 rfl (by repeat (first | rfl | refine one_cons (by first | rfl | assumption) ?_)) (fun w15 hq hs => ?_)
    replace hB := hB.tr1 hs lo6
    replace hb7 := hb7.tr1 hs (by omega)
    replace ho7 := ho7.tr1 hs (fun g hg => by have := (ho7.lt g hg).1; (try have := or_ho7_b6 g hg); (try simp only [aL, List.mem_singleton] at hg); omega)
    replace hty := hty.tr hs (fun g hg => by rw [List.mem_singleton.1 hg]; exact ⟨_, _, hb6, by decide⟩)
    clear hs
    replace hb6 := hq
    refine x_nil ?_
    refine e_S ?_
    refine c_ret ?_
    refine fin1 (.inl rfl) rfl (rr_cell Tryd.underlying25 rfl rfl hb6.range0 sz25) ?_
    exact ⟨⟨_, _, rfl, fun w2 hf => own_types_fr ho7 hty (Nat.le_succ_of_le lo7) hf⟩, hB⟩
end Go.Proofs.YthhkbhapfcfdjaaDoor
