/- What these functions of the program compute, at every world: glosswright/graph.Within, glosswright/glosswrightref3.InHierarchy, glosswright/graph.Validate, glosswright/glosswrightref3.GraphFault. -/
import Derived.Test.YtegngekpmpdngaaDoorU
import Derived.Test.YtegngekpmpdngaaDoorGUnr
namespace Go.Proofs.YtegngekpmpdngaaDoor
open Go.RowKit
theorem fn27 : callable Tryd.prog 27 = true := by kernel_rfl
theorem fn40 : callable Tryd.prog 40 = true := by kernel_rfl
theorem fn44 : callable Tryd.prog 44 = true := by kernel_rfl
theorem fn48_GVal : callable Tryd.prog 48 = true := by kernel_rfl
theorem fn50 : callable Tryd.prog 50 = true := by kernel_rfl
theorem fn58_GVal : callable Tryd.prog 58 = true := by kernel_rfl
theorem fn71 : callable Tryd.prog 71 = true := by kernel_rfl
theorem fn72 : callable Tryd.prog 72 = true := by kernel_rfl
theorem fn73 : callable Tryd.prog 73 = true := by kernel_rfl
theorem fn97 : callable Tryd.prog 97 = true := by kernel_rfl
theorem fn98 : callable Tryd.prog 98 = true := by kernel_rfl
theorem sz25 : (Tryd.prog.info? 25).map (·.size) = some 2 := by kernel_rfl
theorem sz28 : (Tryd.prog.info? 28).map (·.size) = some 1 := by kernel_rfl
theorem sz63_GVal : (Tryd.prog.info? 63).map (·.size) = some 3 := by kernel_rfl
theorem sz92_GVal : (Tryd.prog.info? 92).map (·.size) = some 2 := by kernel_rfl
theorem ze63_GVal : (Tryd.prog.info? 63).map (·.zero) = some (some (.agg #[.string ⟨#[]⟩, .int .i64 0, .int .i64 0])) := by kernel_rfl
set_option maxHeartbeats 1000000 in
theorem within_any (A B G : Option Addr) (c d cg bu bd : Nat) (l : List Ty) (fs : List Ft) (gr : List Nd) (w : World) (hI : TableIn w l bu bd) (h60 : l.length ≤ 60) (hF : FeatsIn w B fs) (hG : NodesIn w G gr) (hfo : FOk l.length fs) : Calls Tryd.prog 71 #[.agg #[.slice A l.length c, .slice B fs.length d], tabV l.length bu bd, .agg #[.slice G gr.length cg]] w fun e w' => e = .returned (flV (withinF l fs gr)) ∧ Bel w w' := by
 refine enter Tryd.func71 Tryd.ntmps71 rfl (Nat.le_of_ble_eq_true rfl) ?_
 have hB : Bel w w := Below.refl _ _
 refine c_seq (c_region ?_)
 refine wl_bx (v := .agg #[_, _]) (cs := #[_, _]) rfl rfl (fun b3 w1 hb3 hs hr => ?_)
 have lo3 := nLT (Bel.size hB) hr
 replace hB := hB.tr0 hs
 clear hs
 clear hr
 refine wl_bx (v := .agg #[_, _]) (cs := #[_, _]) rfl rfl (fun b4 w2 hb4 hs hr => ?_)
 have or_b3_b4 : b3 < b4 := nLL hb3.lt hr
 have lo4 := nLT (Bel.size hB) hr
 replace hB := hB.tr0 hs
 replace hb3 := hb3.tr0 hs
 clear hs
 clear hr
 refine wl_bx (v := .agg #[_]) (cs := #[_]) rfl rfl (fun b5 w3 hb5 hs hr => ?_)
 have or_b3_b5 : b3 < b5 := nLL hb3.lt hr
 have or_b4_b5 : b4 < b5 := nLL hb4.lt hr
 have lo5 := nLT (Bel.size hB) hr
 replace hB := hB.tr0 hs
 replace hb3 := hb3.tr0 hs
 replace hb4 := hb4.tr0 hs
 clear hs
 clear hr
 refine wl_al (cs := #[.int .i64 0, .int .i64 0]) ze35_GLoose rfl (fun b6 w4 hb6 hs hr => ?_)
 have or_b3_b6 : b3 < b6 := nLL hb3.lt hr
 have or_b4_b6 : b4 < b6 := nLL hb4.lt hr
 have or_b5_b6 : b5 < b6 := nLL hb5.lt hr
 have lo6 := nLT (Bel.size hB) hr
 replace hB := hB.tr0 hs
 replace hb3 := hb3.tr0 hs
 replace hb4 := hb4.tr0 hs
 replace hb5 := hb5.tr0 hs
 clear hs
 clear hr
 refine x_nil (e_S (c_seq (c_seq (c_region (wl (r_ldS U25 rfl rfl hb3.range0 sz25) ?_)))))
 refine wl (r_ldS U28 rfl rfl hb5.range0 sz28) ?_
 refine wl_cl fn97 (loose_any A B G c d cg l fs gr _ (hG.mono hB)) rfl (fun e' w5 hr => ?_)
 obtain ⟨rfl, hs⟩ := hr
 replace hs := Same.of_bel hs
 replace hB := hB.tr0 hs
 replace hb3 := hb3.tr0 hs
 replace hb4 := hb4.tr0 hs
 replace hb5 := hb5.tr0 hs
 replace hb6 := hb6.tr0 hs
 clear hs
 refine ⟨_, rfl, ?_⟩
 refine wl_al (cs := #[.int .i64 0, .int .i64 0]) ze35_GLoose rfl (fun b7 w6 hb7 hs hr => ?_)
 have or_b3_b7 : b3 < b7 := nLL hb3.lt hr
 have or_b4_b7 : b4 < b7 := nLL hb4.lt hr
 have or_b5_b7 : b5 < b7 := nLL hb5.lt hr
 have or_b6_b7 : b6 < b7 := nLL hb6.lt hr
 have lo7 := nLT (Bel.size hB) hr
 replace hB := hB.tr0 hs
 replace hb3 := hb3.tr0 hs
 replace hb4 := hb4.tr0 hs
 replace hb5 := hb5.tr0 hs
 replace hb6 := hb6.tr0 hs
 clear hs
 clear hr
 refine wl_stW hb7 rfl rfl sz35_GLoose rfl oneA (fun w7 hq hs => ?_)
 replace hB := hB.tr1 hs lo7
 replace hb3 := hb3.tr1 hs om
 replace hb4 := hb4.tr1 hs om
 replace hb5 := hb5.tr1 hs om
 replace hb6 := hb6.tr1 hs om
 clear hs
 replace hb7 := hq
 refine x_nil (e_S (c_seq (c_region (wl (r_fa U35 sz3_GLoose dE rfl rfl rfl) (wl (r_ld1 (v := .int _ _) U3 rfl rfl (hb7.cell rfl)) ?_)))))
 refine wl (r_neq rfl rfl) (x_nil (e_S ?_))
 refine c_ifd rfl (fun c19 => ?_) (fun c19 => ?_)
 ·
  refine c_seq (c_region (wl (r_ldS U35 rfl rfl hb7.range0 sz35_GLoose) ?_))
  refine wl_stW hb6 rfl rfl sz35_GLoose rfl oneA (fun w8 hq hs => ?_)
  replace hB := hB.tr1 hs lo6
  replace hb3 := hb3.tr1 hs om
  replace hb4 := hb4.tr1 hs om
  replace hb5 := hb5.tr1 hs om
  replace hb7 := hb7.tr1 hs om
  clear hs
  replace hb6 := hq
  refine x_nil (e_S (c_ret (e_Sr (fin1 (.inl rfl) rfl (rr_cell U35 rfl rfl hb6.range0 sz35_GLoose) ?_))))
  exact ⟨ret_fl (wi_loose c19), hB⟩
 have hl0 := Decidable.not_not.1 c19
 have hk0 := gok_of hl0
 have hk6 := hk0.le
 refine c_skip (e_S (c_seq (c_seq (c_region (wl (r_fa U28 sz26 dE rfl rfl rfl) ?_)))))
 refine wl (r_ld1 (v := .slice _ _ _) U26 rfl rfl (hb5.cell rfl)) (wl (r_len U26 rfl) (wmI rfl (x_nil (e_S (c_block ?_)))))
 refine c_loopS [8, 9, 11, 12, 24, 25, 26, 27, 28, 29, 30, 31, 32, 33, 34, 35, 36, 37, 38, 39, 40, 41, 42, 43, 44, 45, 46, 47, 48, 49, 50, 51, 52, 53, 54, 55, 56, 57, 58, 59, 60, 61, 62, 63, 64, 65, 66] (fun m g w' => ∃ k : Nat, k ≤ gr.length ∧ m = gr.length - k ∧ g 24 = .int .i64 k ∧ Bel w w' ∧ Blk w' b3 25 #[.slice A l.length c, .slice B fs.length d] ∧ Blk w' b4 92 #[.slice (some ⟨bu, 0, none⟩) l.length l.length, .slice (some ⟨bd, 0, none⟩) l.length l.length] ∧ Blk w' b5 28 #[.slice G gr.length cg] ∧ Blk w' b6 35 #[.int .i64 0, .int .i64 0] ∧ tyF l fs gr = firstF (tyN l fs gr) k (gr.length - k)) (gr.length) ?_ (fun m g5 w9 hI => ?_)
 ·
  exact ⟨0, Nat.zero_le _, rfl, rfl, hB, hb3, hb4, hb5, hb6, rfl⟩
 obtain ⟨k, hk, hm, hkk, hB, hb3, hb4, hb5, hb6, hU⟩ := hI
 refine c_know 24 (.int .i64 k) hkk nu (c_seq (c_region (wl (r_lss rfl rfl) (x_nil (e_S ?_)))))
 refine c_seq ?_
 refine c_ifd rfl (fun c25 => ?_) (fun c25 => ?_)
 ·
  have hlt : k < gr.length := by omega
  obtain ⟨nb, no, LA, lc, rfl, hnb, hnr, hln⟩ := hG.at_ hB hlt
  have hmx := hln.1
  unfold maxI at hmx
  refine c_skip (e_S (c_seq (c_block (c_seq (c_region ?_)))))
  refine wmI rfl (wl (r_ia (i := k) U26 sz33 rfl rfl om rfl) (wl (r_ldS U33 rfl rfl hnr sz33) ?_))
  refine wl_al (cs := #[.int .i64 0, .slice none 0 0]) ze33 rfl (fun b9 w10 hb9 hs hr => ?_)
  have or_b3_b9 : b3 < b9 := nLL hb3.lt hr
  have or_b4_b9 : b4 < b9 := nLL hb4.lt hr
  have or_b5_b9 : b5 < b9 := nLL hb5.lt hr
  have or_b6_b9 : b6 < b9 := nLL hb6.lt hr
  have lo9 := nLT (Bel.size hB) hr
  replace hB := hB.tr0 hs
  replace hb3 := hb3.tr0 hs
  replace hb4 := hb4.tr0 hs
  replace hb5 := hb5.tr0 hs
  replace hb6 := hb6.tr0 hs
  clear hs
  clear hr
  refine waI rfl ?_
  refine wl_stW hb9 rfl rfl sz33 rfl oneA (fun w11 hq hs => ?_)
  replace hB := hB.tr1 hs lo9
  replace hb3 := hb3.tr1 hs om
  replace hb4 := hb4.tr1 hs om
  replace hb5 := hb5.tr1 hs om
  replace hb6 := hb6.tr1 hs om
  clear hs
  replace hb9 := hq
  refine x_nil (e_S (c_seq (c_region (wl (r_fa U33 sz31 dE rfl rfl rfl) (wl (r_ld1 (v := .slice _ _ _) U31 rfl rfl (hb9.cell rfl)) ?_)))))
  refine wl (r_len U31 rfl) (wmI rfl (x_nil (e_S (c_block ?_))))
  refine c_loopS [11, 12, 32, 33, 34, 35, 36, 37, 38, 39, 40, 41, 42, 43, 44, 45, 46, 47, 48, 49, 50, 51, 52, 53, 54, 55, 56, 57, 58, 59, 60, 61, 62, 63, 64, 65] (fun m g w' => ∃ j : Nat, j ≤ (gr[k]'hlt).ln.length ∧ m = (gr[k]'hlt).ln.length - j ∧ g 32 = .int .i64 j ∧ Bel w w' ∧ Blk w' b3 25 #[.slice A l.length c, .slice B fs.length d] ∧ Blk w' b4 92 #[.slice (some ⟨bu, 0, none⟩) l.length l.length, .slice (some ⟨bd, 0, none⟩) l.length l.length] ∧ Blk w' b5 28 #[.slice (some ⟨nb, no, none⟩) gr.length cg] ∧ Blk w' b6 35 #[.int .i64 0, .int .i64 0] ∧ Blk w' b9 33 #[.int .i64 (gr[k]'hlt).ty, .slice LA (gr[k]'hlt).ln.length lc] ∧ (∀ j' (hj' : j' < (gr[k]'hlt).ln.length), j' < j → lnTy l fs gr (gr[k]'hlt).ty ((gr[k]'hlt).ln[j']) = false)) ((gr[k]'hlt).ln.length) ?_ (fun m g8 w12 hI => ?_)
  ·
   exact ⟨0, Nat.zero_le _, rfl, rfl, hB, hb3, hb4, hb5, hb6, hb9, fun j' _ h => by omega⟩
  obtain ⟨j, hj, hmj, hjj, hB, hb3, hb4, hb5, hb6, hb9, hN⟩ := hI
  refine c_know 32 (.int .i64 j) hjj nu (c_seq (c_region (wl (r_lss rfl rfl) (x_nil (e_S ?_)))))
  refine c_seq ?_
  refine c_ifd rfl (fun c33 => ?_) (fun c33 => ?_)
  ·
   have hlj : j < (gr[k]'hlt).ln.length := by omega
   obtain ⟨lb, lof, rfl, hlb, hlr⟩ := hln.at_ hB hlj
   have hxr := hk0.ln k hlt _ (List.getElem_mem hlj)
   obtain ⟨fi, hfi, hfl⟩ : ∃ t : Nat, ((gr[k]'hlt).ln[j]'hlj).1 = (t : Int) ∧ t < fs.length := ⟨(((gr[k]'hlt).ln[j]'hlj).1).toNat, by omega, by omega⟩
   obtain ⟨ti, hti, htl⟩ : ∃ t : Nat, ((gr[k]'hlt).ln[j]'hlj).2 = (t : Int) ∧ t < gr.length := ⟨(((gr[k]'hlt).ln[j]'hlj).2).toNat, by omega, by omega⟩
   obtain ⟨yn, hyn, hynl⟩ : ∃ t : Nat, (gr[k]'hlt).ty = (t : Int) ∧ t < l.length := by
     have h := hk0.ty k hlt
     exact ⟨(gr[k]'hlt).ty.toNat, by omega, by omega⟩
   obtain ⟨zn, hzn, hznl⟩ : ∃ t : Nat, (gr[ti]'htl).ty = (t : Int) ∧ t < l.length := by
     have h := hk0.ty ti htl
     exact ⟨(gr[ti]'htl).ty.toNat, by omega, by omega⟩
   have hff := hfo.at_ fi hfl
   obtain ⟨on, hon, honl⟩ : ∃ t : Nat, (fs[fi]'hfl).of = (t : Int) ∧ t < l.length := ⟨(fs[fi]'hfl).of.toNat, by omega, by omega⟩
   obtain ⟨vn, hvn, hvnl⟩ : ∃ t : Nat, (fs[fi]'hfl).val = (t : Int) ∧ t < l.length := ⟨(fs[fi]'hfl).val.toNat, by omega, by omega⟩
   obtain ⟨fb, fo, rfl, hfb, hfr⟩ := hF.at_ (Below.refl _ _ : Bel w w) hfl
   obtain ⟨nb2, no2, LA2, lc2, he2, hnb2, hnr2, _⟩ := hG.at_ (Below.refl _ _ : Bel w w) htl
   cases he2
   rw [hzn] at hnr2
   have hlty := lnTy_at (l := l) hfi hfl hti htl hyn hon hvn hzn
   refine c_skip (e_S (c_seq (c_block (c_seq (c_region ?_)))))
   refine wl (r_ia (i := j) U31 sz30 rfl rfl om rfl) (wl (r_ldS U30 rfl rfl hlr sz30) ?_)
   refine wl_al (cs := #[.int .i64 0, .int .i64 0]) ze30 rfl (fun b11 w13 hb11 hs hr => ?_)
   have or_b3_b11 : b3 < b11 := nLL hb3.lt hr
   have or_b4_b11 : b4 < b11 := nLL hb4.lt hr
   have or_b5_b11 : b5 < b11 := nLL hb5.lt hr
   have or_b6_b11 : b6 < b11 := nLL hb6.lt hr
   have or_b9_b11 : b9 < b11 := nLL hb9.lt hr
   have lo11 := nLT (Bel.size hB) hr
   replace hB := hB.tr0 hs
   replace hb3 := hb3.tr0 hs
   replace hb4 := hb4.tr0 hs
   replace hb5 := hb5.tr0 hs
   replace hb6 := hb6.tr0 hs
   replace hb9 := hb9.tr0 hs
   clear hs
   clear hr
   refine wl_stW hb11 rfl rfl sz30 rfl oneA (fun w14 hq hs => ?_)
   replace hB := hB.tr1 hs lo11
   replace hb3 := hb3.tr1 hs om
   replace hb4 := hb4.tr1 hs om
   replace hb5 := hb5.tr1 hs om
   replace hb6 := hb6.tr1 hs om
   replace hb9 := hb9.tr1 hs om
   clear hs
   replace hb11 := hq
   refine x_nil (e_S (c_seq ?_))
   rw [hfi, hti] at hb11
   refine c_region (wl (r_fa U25 sz23_GLoose dE rfl rfl rfl) (wl (r_ld1 (v := .slice _ _ _) U23 rfl rfl (hb3.cell rfl)) (wl (r_fa U30 sz3_GLoose dE rfl rfl rfl) (wl (r_ld1 (v := .int _ _) U3 rfl rfl (hb11.cell rfl)) (wl (r_ia (i := fi) U23 sz63_GVal rfl rfl om rfl) ?_)))))
   refine wl (r_ldS U63 rfl rfl (hB.range hfb hfr) sz63_GVal) ?_
   refine wl_al (cs := #[.string ⟨#[]⟩, .int .i64 0, .int .i64 0]) ze63_GVal rfl (fun b12 w15 hb12 hs hr => ?_)
   have or_b3_b12 : b3 < b12 := nLL hb3.lt hr
   have or_b4_b12 : b4 < b12 := nLL hb4.lt hr
   have or_b5_b12 : b5 < b12 := nLL hb5.lt hr
   have or_b6_b12 : b6 < b12 := nLL hb6.lt hr
   have or_b9_b12 : b9 < b12 := nLL hb9.lt hr
   have or_b11_b12 : b11 < b12 := nLL hb11.lt hr
   have lo12 := nLT (Bel.size hB) hr
   replace hB := hB.tr0 hs
   replace hb3 := hb3.tr0 hs
   replace hb4 := hb4.tr0 hs
   replace hb5 := hb5.tr0 hs
   replace hb6 := hb6.tr0 hs
   replace hb9 := hb9.tr0 hs
   replace hb11 := hb11.tr0 hs
   clear hs
   clear hr
   refine wl_stW hb12 rfl rfl sz63_GVal rfl oneA (fun w16 hq hs => ?_)
   replace hB := hB.tr1 hs lo12
   replace hb3 := hb3.tr1 hs om
   replace hb4 := hb4.tr1 hs om
   replace hb5 := hb5.tr1 hs om
   replace hb6 := hb6.tr1 hs om
   replace hb9 := hb9.tr1 hs om
   replace hb11 := hb11.tr1 hs om
   clear hs
   replace hb12 := hq
   refine x_nil (e_S (c_seq ?_))
   rw [hon, hvn] at hb12
   rw [hyn] at hb9
   refine c_monoGO 21 [42, 43, 44, 45, 46, 47, 48, 49, 50, 51, 52, 53, 54, 55, 56, 57, 58, 59, 60, 61, 62] (fun _ => false) (fun ix v wv => match ix with | 0 => v = tabV l.length bu bd | 1 => v = .pointer (some ⟨b9, 0, none⟩) | 2 => v = .int .i64 (yn : Nat) | 3 => v = .pointer (some ⟨b12, 1, none⟩) | 4 => v = .int .i64 (on : Nat) | 5 => v = .bool (sub l yn on) | 6 => v = .bool (!sub l yn on) | 7 => v = .bool (!sub l yn on) | 8 => (((!sub l yn on)) = false → v = tabV l.length bu bd) ∧ (((!sub l yn on)) = true → v = undef) | 9 => (((!sub l yn on)) = false → v = .pointer (some ⟨b5, 0, none⟩)) ∧ (((!sub l yn on)) = true → v = undef) | 10 => (((!sub l yn on)) = false → v = .slice (some ⟨nb, no, none⟩) gr.length cg) ∧ (((!sub l yn on)) = true → v = undef) | 11 => (((!sub l yn on)) = false → v = .pointer (some ⟨b11, 1, none⟩)) ∧ (((!sub l yn on)) = true → v = undef) | 12 => (((!sub l yn on)) = false → v = .int .i64 (ti : Nat)) ∧ (((!sub l yn on)) = true → v = undef) | 13 => (((!sub l yn on)) = false → v = .pointer (some ⟨nb, no + ti * 2, none⟩)) ∧ (((!sub l yn on)) = true → v = undef) | 14 => (((!sub l yn on)) = false → v = .pointer (some ⟨nb, no + ti * 2 + 0, none⟩)) ∧ (((!sub l yn on)) = true → v = undef) | 15 => (((!sub l yn on)) = false → v = .int .i64 (zn : Nat)) ∧ (((!sub l yn on)) = true → v = undef) | 16 => (((!sub l yn on)) = false → v = .pointer (some ⟨b12, 2, none⟩)) ∧ (((!sub l yn on)) = true → v = undef) | 17 => (((!sub l yn on)) = false → v = .int .i64 (vn : Nat)) ∧ (((!sub l yn on)) = true → v = undef) | 18 => (((!sub l yn on)) = false → v = .bool (sub l zn vn)) ∧ (((!sub l yn on)) = true → v = undef) | 19 => (((!sub l yn on)) = false → v = .bool (!sub l zn vn)) ∧ (((!sub l yn on)) = true → v = undef) | 20 => v = .bool (!sub l yn on || !sub l zn vn) | _ => True) kR kR ?_ ?_ ?_
   ·
    intro ix v wv wv2 h hs
    match ix, h with
    | 0, h => exact h
    | 1, h => exact h
    | 2, h => exact h
    | 3, h => exact h
    | 4, h => exact h
    | 5, h => exact h
    | 6, h => exact h
    | 7, h => exact h
    | 8, h => exact h
    | 9, h => exact h
    | 10, h => exact h
    | 11, h => exact h
    | 12, h => exact h
    | 13, h => exact h
    | 14, h => exact h
    | 15, h => exact h
    | 16, h => exact h
    | 17, h => exact h
    | 18, h => exact h
    | 19, h => exact h
    | 20, h => exact h
    | _ + 21, h => exact trivial
   ·
    intro ix o hix hoq gg wx hs hd hdis
    match ix, hix, hoq with
    | 0, _, hoq =>
     obtain rfl := sI hoq
     have hs0 := hs
     replace hb4 := hb4.tr0 hs
     clear hs
     refine ⟨fun _ => ?_, fun hw => Bool.noConfusion (show true = false from hw)⟩
     refine os_rv (r_ldS U92 rfl rfl hb4.range0 sz92_GVal) ⟨Same.refl _ _, ?_, frsh_no⟩
     exact rfl
    | 1, _, hoq =>
     obtain rfl := sI hoq
     have hs0 := hs
     replace hb9 := hb9.tr0 hs
     clear hs
     refine ⟨fun _ => ?_, fun hw => Bool.noConfusion (show true = false from hw)⟩
     refine os_rv (r_fa U33 sz3_GLoose dE rfl rfl rfl) ⟨Same.refl _ _, ?_, frsh_no⟩
     exact rfl
    | 2, _, hoq =>
     obtain rfl := sI hoq
     have hs0 := hs
     replace hb9 := hb9.tr0 hs
     clear hs
     have d1 : gg 43 = .pointer (some ⟨b9, 0, none⟩) := hd 1 (dep_of kR)
     have e43 := d1
     refine ⟨fun _ => ?_, fun hw => Bool.noConfusion (show true = false from hw)⟩
     refine os_know 43 (.pointer (some ⟨b9, 0, none⟩)) e43 nu ?_
     refine os_rv (r_ld1 (v := .int _ _) U3 rfl rfl (hb9.cell rfl)) ⟨Same.refl _ _, ?_, frsh_no⟩
     exact rfl
    | 3, _, hoq =>
     obtain rfl := sI hoq
     have hs0 := hs
     replace hb12 := hb12.tr0 hs
     clear hs
     refine ⟨fun _ => ?_, fun hw => Bool.noConfusion (show true = false from hw)⟩
     refine os_rv (r_fa U63 sz3_GLoose dE rfl rfl rfl) ⟨Same.refl _ _, ?_, frsh_no⟩
     exact rfl
    | 4, _, hoq =>
     obtain rfl := sI hoq
     have hs0 := hs
     replace hb12 := hb12.tr0 hs
     clear hs
     have d3 : gg 45 = .pointer (some ⟨b12, 1, none⟩) := hd 3 (dep_of kR)
     have e45 := d3
     refine ⟨fun _ => ?_, fun hw => Bool.noConfusion (show true = false from hw)⟩
     refine os_know 45 (.pointer (some ⟨b12, 1, none⟩)) e45 nu ?_
     refine os_rv (r_ld1 (v := .int _ _) U3 rfl rfl (hb12.cell rfl)) ⟨Same.refl _ _, ?_, frsh_no⟩
     exact rfl
    | 5, _, hoq =>
     obtain rfl := sI hoq
     have hs0 := hs
     replace hB := hB.tr0 hs
     clear hs
     have d0 : gg 42 = tabV l.length bu bd := hd 0 (dep_of kR)
     have e42 := d0
     have d2 : gg 44 = .int .i64 (yn : Nat) := hd 2 (dep_of kR)
     have e44 := d2
     have d4 : gg 46 = .int .i64 (on : Nat) := hd 4 (dep_of kR)
     have e46 := d4
     refine ⟨fun _ => ?_, fun hw => Bool.noConfusion (show true = false from hw)⟩
     refine os_know 42 (tabV l.length bu bd) e42 (by simp [undef, tabV]) (os_know 44 (.int .i64 (yn : Nat)) e44 nu (os_know 46 (.int .i64 (on : Nat)) e46 nu ?_))
     refine os_cl fn50 (tsub_any l bu bd yn on wx (hI.mono hB) h60 hynl honl) rfl (fun e' w2 hr => ?_)
     obtain ⟨rfl, hs⟩ := hr
     exact ⟨_, rfl, Same.of_bel hs, rfl, frsh_no⟩
    | 6, _, hoq =>
     obtain rfl := sI hoq
     have hs0 := hs
     clear hs
     have d5 : gg 47 = .bool (sub l yn on) := hd 5 (dep_of kR)
     have e47 := d5
     refine ⟨fun _ => ?_, fun hw => Bool.noConfusion (show true = false from hw)⟩
     refine os_know 47 (.bool (sub l yn on)) e47 nu ?_
     refine os_rv (r_not rfl) ⟨Same.refl _ _, ?_, frsh_no⟩
     exact rfl
    | 7, _, hoq =>
     obtain rfl := sI hoq
     have hs0 := hs
     clear hs
     have d6 : gg 48 = .bool (!sub l yn on) := hd 6 (dep_of kR)
     have e48 := d6
     refine ⟨fun _ => ?_, fun hw => Bool.noConfusion (show true = false from hw)⟩
     refine os_know 48 (.bool (!sub l yn on)) e48 nu ?_
     refine os_rv (r_mv (v := .bool _) rfl) ⟨Same.refl _ _, ?_, frsh_no⟩
     exact rfl
    | 8, _, hoq =>
     obtain rfl := sI hoq
     have hs0 := hs
     replace hb4 := hb4.tr0 hs
     clear hs
     have d7 : gg 49 = .bool (!sub l yn on) := hd 7 (dep_of kR)
     have e49 := d7
     refine guard_case 49 ((!sub l yn on)) rfl e49 (fun hgc => ?_) (fun hgc => ⟨fun h => absurd (h.symm.trans hgc) dE, fun _ => rfl⟩)
     refine os_know 49 (.bool (!sub l yn on)) e49 nu ?_
     refine os_rv (r_ldS U92 rfl rfl hb4.range0 sz92_GVal) ⟨Same.refl _ _, ?_, frsh_no⟩
     exact ⟨fun _ => rfl, fun h => absurd (h.symm.trans hgc) dE⟩
    | 9, _, hoq =>
     obtain rfl := sI hoq
     have hs0 := hs
     replace hb5 := hb5.tr0 hs
     clear hs
     have d7 : gg 49 = .bool (!sub l yn on) := hd 7 (dep_of kR)
     have e49 := d7
     refine guard_case 49 ((!sub l yn on)) rfl e49 (fun hgc => ?_) (fun hgc => ⟨fun h => absurd (h.symm.trans hgc) dE, fun _ => rfl⟩)
     refine os_know 49 (.bool (!sub l yn on)) e49 nu ?_
     refine os_rv (r_fa U28 sz26 dE rfl rfl rfl) ⟨Same.refl _ _, ?_, frsh_no⟩
     exact ⟨fun _ => rfl, fun h => absurd (h.symm.trans hgc) dE⟩
    | 10, _, hoq =>
     obtain rfl := sI hoq
     have hs0 := hs
     replace hb5 := hb5.tr0 hs
     clear hs
     have d7 : gg 49 = .bool (!sub l yn on) := hd 7 (dep_of kR)
     have e49 := d7
     have d9 : (((!sub l yn on)) = false → gg 51 = .pointer (some ⟨b5, 0, none⟩)) ∧ (((!sub l yn on)) = true → gg 51 = undef) := hd 9 (dep_of kR)
     refine guard_case 49 ((!sub l yn on)) rfl e49 (fun hgc => ?_) (fun hgc => ⟨fun h => absurd (h.symm.trans hgc) dE, fun _ => rfl⟩)
     have e51 := d9.1 hgc
     refine os_know 49 (.bool (!sub l yn on)) e49 nu (os_know 51 (.pointer (some ⟨b5, 0, none⟩)) e51 nu ?_)
     refine os_rv (r_ld1 (v := .slice _ _ _) U26 rfl rfl (hb5.cell rfl)) ⟨Same.refl _ _, ?_, frsh_no⟩
     exact ⟨fun _ => rfl, fun h => absurd (h.symm.trans hgc) dE⟩
    | 11, _, hoq =>
     obtain rfl := sI hoq
     have hs0 := hs
     replace hb11 := hb11.tr0 hs
     clear hs
     have d7 : gg 49 = .bool (!sub l yn on) := hd 7 (dep_of kR)
     have e49 := d7
     refine guard_case 49 ((!sub l yn on)) rfl e49 (fun hgc => ?_) (fun hgc => ⟨fun h => absurd (h.symm.trans hgc) dE, fun _ => rfl⟩)
     refine os_know 49 (.bool (!sub l yn on)) e49 nu ?_
     refine os_rv (r_fa U30 sz3_GLoose dE rfl rfl rfl) ⟨Same.refl _ _, ?_, frsh_no⟩
     exact ⟨fun _ => rfl, fun h => absurd (h.symm.trans hgc) dE⟩
    | 12, _, hoq =>
     obtain rfl := sI hoq
     have hs0 := hs
     replace hb11 := hb11.tr0 hs
     clear hs
     have d7 : gg 49 = .bool (!sub l yn on) := hd 7 (dep_of kR)
     have e49 := d7
     have d11 : (((!sub l yn on)) = false → gg 53 = .pointer (some ⟨b11, 1, none⟩)) ∧ (((!sub l yn on)) = true → gg 53 = undef) := hd 11 (dep_of kR)
     refine guard_case 49 ((!sub l yn on)) rfl e49 (fun hgc => ?_) (fun hgc => ⟨fun h => absurd (h.symm.trans hgc) dE, fun _ => rfl⟩)
     have e53 := d11.1 hgc
     refine os_know 49 (.bool (!sub l yn on)) e49 nu (os_know 53 (.pointer (some ⟨b11, 1, none⟩)) e53 nu ?_)
     refine os_rv (r_ld1 (v := .int _ _) U3 rfl rfl (hb11.cell rfl)) ⟨Same.refl _ _, ?_, frsh_no⟩
     exact ⟨fun _ => rfl, fun h => absurd (h.symm.trans hgc) dE⟩
    | 13, _, hoq =>
     obtain rfl := sI hoq
     have hs0 := hs
     clear hs
     have d7 : gg 49 = .bool (!sub l yn on) := hd 7 (dep_of kR)
     have e49 := d7
     have d10 : (((!sub l yn on)) = false → gg 52 = .slice (some ⟨nb, no, none⟩) gr.length cg) ∧ (((!sub l yn on)) = true → gg 52 = undef) := hd 10 (dep_of kR)
     have d12 : (((!sub l yn on)) = false → gg 54 = .int .i64 (ti : Nat)) ∧ (((!sub l yn on)) = true → gg 54 = undef) := hd 12 (dep_of kR)
     refine guard_case 49 ((!sub l yn on)) rfl e49 (fun hgc => ?_) (fun hgc => ⟨fun h => absurd (h.symm.trans hgc) dE, fun _ => rfl⟩)
     have e52 := d10.1 hgc
     have e54 := d12.1 hgc
     refine os_know 49 (.bool (!sub l yn on)) e49 nu (os_know 52 (.slice (some ⟨nb, no, none⟩) gr.length cg) e52 nu (os_know 54 (.int .i64 (ti : Nat)) e54 nu ?_))
     refine os_rv (r_ia (i := ti) U26 sz33 rfl rfl om rfl) ⟨Same.refl _ _, ?_, frsh_no⟩
     exact ⟨fun _ => rfl, fun h => absurd (h.symm.trans hgc) dE⟩
    | 14, _, hoq =>
     obtain rfl := sI hoq
     have hs0 := hs
     clear hs
     have d7 : gg 49 = .bool (!sub l yn on) := hd 7 (dep_of kR)
     have e49 := d7
     have d13 : (((!sub l yn on)) = false → gg 55 = .pointer (some ⟨nb, no + ti * 2, none⟩)) ∧ (((!sub l yn on)) = true → gg 55 = undef) := hd 13 (dep_of kR)
     refine guard_case 49 ((!sub l yn on)) rfl e49 (fun hgc => ?_) (fun hgc => ⟨fun h => absurd (h.symm.trans hgc) dE, fun _ => rfl⟩)
     have e55 := d13.1 hgc
     refine os_know 49 (.bool (!sub l yn on)) e49 nu (os_know 55 (.pointer (some ⟨nb, no + ti * 2, none⟩)) e55 nu ?_)
     refine os_rv (r_fa U33 sz3_GLoose dE rfl rfl rfl) ⟨Same.refl _ _, ?_, frsh_no⟩
     exact ⟨fun _ => rfl, fun h => absurd (h.symm.trans hgc) dE⟩
    | 15, _, hoq =>
     obtain rfl := sI hoq
     have hs0 := hs
     replace hB := hB.tr0 hs
     clear hs
     have d7 : gg 49 = .bool (!sub l yn on) := hd 7 (dep_of kR)
     have e49 := d7
     have d14 : (((!sub l yn on)) = false → gg 56 = .pointer (some ⟨nb, no + ti * 2 + 0, none⟩)) ∧ (((!sub l yn on)) = true → gg 56 = undef) := hd 14 (dep_of kR)
     refine guard_case 49 ((!sub l yn on)) rfl e49 (fun hgc => ?_) (fun hgc => ⟨fun h => absurd (h.symm.trans hgc) dE, fun _ => rfl⟩)
     have e56 := d14.1 hgc
     refine os_know 49 (.bool (!sub l yn on)) e49 nu (os_know 56 (.pointer (some ⟨nb, no + ti * 2 + 0, none⟩)) e56 nu ?_)
     refine os_rv (r_ld1 (v := .int _ _) U3 rfl rfl (hB.cell hnb2 (hnr2 0 _ rfl))) ⟨Same.refl _ _, ?_, frsh_no⟩
     exact ⟨fun _ => rfl, fun h => absurd (h.symm.trans hgc) dE⟩
    | 16, _, hoq =>
     obtain rfl := sI hoq
     have hs0 := hs
     replace hb12 := hb12.tr0 hs
     clear hs
     have d7 : gg 49 = .bool (!sub l yn on) := hd 7 (dep_of kR)
     have e49 := d7
     refine guard_case 49 ((!sub l yn on)) rfl e49 (fun hgc => ?_) (fun hgc => ⟨fun h => absurd (h.symm.trans hgc) dE, fun _ => rfl⟩)
     refine os_know 49 (.bool (!sub l yn on)) e49 nu ?_
     refine os_rv (r_fa U63 sz3_GLoose dE rfl rfl rfl) ⟨Same.refl _ _, ?_, frsh_no⟩
     exact ⟨fun _ => rfl, fun h => absurd (h.symm.trans hgc) dE⟩
    | 17, _, hoq =>
     obtain rfl := sI hoq
     have hs0 := hs
     replace hb12 := hb12.tr0 hs
     clear hs
     have d7 : gg 49 = .bool (!sub l yn on) := hd 7 (dep_of kR)
     have e49 := d7
     have d16 : (((!sub l yn on)) = false → gg 58 = .pointer (some ⟨b12, 2, none⟩)) ∧ (((!sub l yn on)) = true → gg 58 = undef) := hd 16 (dep_of kR)
     refine guard_case 49 ((!sub l yn on)) rfl e49 (fun hgc => ?_) (fun hgc => ⟨fun h => absurd (h.symm.trans hgc) dE, fun _ => rfl⟩)
     have e58 := d16.1 hgc
     refine os_know 49 (.bool (!sub l yn on)) e49 nu (os_know 58 (.pointer (some ⟨b12, 2, none⟩)) e58 nu ?_)
     refine os_rv (r_ld1 (v := .int _ _) U3 rfl rfl (hb12.cell rfl)) ⟨Same.refl _ _, ?_, frsh_no⟩
     exact ⟨fun _ => rfl, fun h => absurd (h.symm.trans hgc) dE⟩
    | 18, _, hoq =>
     obtain rfl := sI hoq
     have hs0 := hs
     replace hB := hB.tr0 hs
     clear hs
     have d7 : gg 49 = .bool (!sub l yn on) := hd 7 (dep_of kR)
     have e49 := d7
     have d8 : (((!sub l yn on)) = false → gg 50 = tabV l.length bu bd) ∧ (((!sub l yn on)) = true → gg 50 = undef) := hd 8 (dep_of kR)
     have d15 : (((!sub l yn on)) = false → gg 57 = .int .i64 (zn : Nat)) ∧ (((!sub l yn on)) = true → gg 57 = undef) := hd 15 (dep_of kR)
     have d17 : (((!sub l yn on)) = false → gg 59 = .int .i64 (vn : Nat)) ∧ (((!sub l yn on)) = true → gg 59 = undef) := hd 17 (dep_of kR)
     refine guard_case 49 ((!sub l yn on)) rfl e49 (fun hgc => ?_) (fun hgc => ⟨fun h => absurd (h.symm.trans hgc) dE, fun _ => rfl⟩)
     have e50 := d8.1 hgc
     have e57 := d15.1 hgc
     have e59 := d17.1 hgc
     refine os_know 49 (.bool (!sub l yn on)) e49 nu (os_know 50 (tabV l.length bu bd) e50 (by simp [undef, tabV]) (os_know 57 (.int .i64 (zn : Nat)) e57 nu (os_know 59 (.int .i64 (vn : Nat)) e59 nu ?_)))
     refine os_cl fn50 (tsub_any l bu bd zn vn wx (hI.mono hB) h60 hznl hvnl) rfl (fun e' w2 hr => ?_)
     obtain ⟨rfl, hs⟩ := hr
     exact ⟨_, rfl, Same.of_bel hs, ⟨fun _ => rfl, fun h => absurd (h.symm.trans hgc) dE⟩, frsh_no⟩
    | 19, _, hoq =>
     obtain rfl := sI hoq
     have hs0 := hs
     clear hs
     have d7 : gg 49 = .bool (!sub l yn on) := hd 7 (dep_of kR)
     have e49 := d7
     have d18 : (((!sub l yn on)) = false → gg 60 = .bool (sub l zn vn)) ∧ (((!sub l yn on)) = true → gg 60 = undef) := hd 18 (dep_of kR)
     refine guard_case 49 ((!sub l yn on)) rfl e49 (fun hgc => ?_) (fun hgc => ⟨fun h => absurd (h.symm.trans hgc) dE, fun _ => rfl⟩)
     have e60 := d18.1 hgc
     refine os_know 49 (.bool (!sub l yn on)) e49 nu (os_know 60 (.bool (sub l zn vn)) e60 nu ?_)
     refine os_rv (r_not rfl) ⟨Same.refl _ _, ?_, frsh_no⟩
     exact ⟨fun _ => rfl, fun h => absurd (h.symm.trans hgc) dE⟩
    | 20, _, hoq =>
     obtain rfl := sI hoq
     have hs0 := hs
     clear hs
     have d7 : gg 49 = .bool (!sub l yn on) := hd 7 (dep_of kR)
     have e49 := d7
     have d19 : (((!sub l yn on)) = false → gg 61 = .bool (!sub l zn vn)) ∧ (((!sub l yn on)) = true → gg 61 = undef) := hd 19 (dep_of kR)
     refine ⟨fun _ => ?_, fun hw => Bool.noConfusion (show true = false from hw)⟩
     cases hcc : (!sub l yn on) with
     | true =>
      rw [hcc] at e49
      refine os_know 49 (.bool true) e49 nu ?_
      refine os_rv (r_pt (v := .bool _) rfl rfl) ⟨Same.refl _ _, ?_, frsh_no⟩
      exact rfl
     | false =>
      have e61 := d19.1 hcc
      rw [hcc] at e49
      refine os_know 49 (.bool false) e49 nu (os_know 61 (.bool (!sub l zn vn)) e61 nu ?_)
      refine os_rv (r_pf (v := .bool _) rfl rfl) ⟨Same.refl _ _, ?_, frsh_no⟩
      exact rfl
    | _ + 21, hix, _ => exact absurd hix om
   intro gg w17 hs hR hdis
   have hs0 := hs
   replace hB := hB.tr0 hs
   replace hb3 := hb3.tr0 hs
   replace hb4 := hb4.tr0 hs
   replace hb5 := hb5.tr0 hs
   replace hb6 := hb6.tr0 hs
   replace hb9 := hb9.tr0 hs
   replace hb11 := hb11.tr0 hs
   replace hb12 := hb12.tr0 hs
   clear hs
   have d20 : gg 62 = .bool (!sub l yn on || !sub l zn vn) := hR 20 dE
   have e62 := d20
   refine wl_know 62 (.bool (!sub l yn on || !sub l zn vn)) e62 nu (x_nil (e_S ?_))
   refine c_if rfl (fun c62 => ?_) (fun c62 => ?_)
   ·
    have hty := tyN_yes hlt hlj (hlty.trans c62)
    refine c_seq (c_region (wmI rfl ?_))
    refine wl_cl fn37 (gfault_any _ _ _) rfl (fun e' w18 hr => ?_)
    obtain ⟨rfl, hs⟩ := hr
    replace hs := Same.of_bel hs
    replace hB := hB.tr0 hs
    replace hb3 := hb3.tr0 hs
    replace hb4 := hb4.tr0 hs
    replace hb5 := hb5.tr0 hs
    replace hb6 := hb6.tr0 hs
    replace hb9 := hb9.tr0 hs
    replace hb11 := hb11.tr0 hs
    replace hb12 := hb12.tr0 hs
    clear hs
    refine ⟨_, rfl, ?_⟩
    refine wl_stW hb6 rfl rfl sz35_GLoose rfl oneA (fun w19 hq hs => ?_)
    replace hB := hB.tr1 hs lo6
    replace hb3 := hb3.tr1 hs om
    replace hb4 := hb4.tr1 hs om
    replace hb5 := hb5.tr1 hs om
    replace hb9 := hb9.tr1 hs om
    replace hb11 := hb11.tr1 hs om
    replace hb12 := hb12.tr1 hs om
    clear hs
    replace hb6 := hq
    refine x_nil (e_S (c_ret (e_Br (e_Sr (e_LSr ?_)))))
    refine e_Br (e_Br (e_Sr (e_LSr (e_Br (e_Sr ?_)))))
    refine fin1 (.inl rfl) rfl (rr_cell U35 rfl rfl hb6.range0 sz35_GLoose) ?_
    exact ⟨ret_fl (wi_ty hl0 (hU.trans (firstF_hit (c := 12) om hty dE))), hB⟩
   refine c_skip (e_B (e_S (c_region (wl (r_add rfl rfl rfl om) (wmI rfl ?_)))))
   refine x_nil (e_LS ((gr[k]'hlt).ln.length - (j + 1)) om agA ?_)
   rw [← hyn] at hb9
   exact ⟨j + 1, by omega, rfl, rfl, hB, hb3, hb4, hb5, hb6, hb9, fun j' hj' h => by
     by_cases e : j' = j
     · subst e; rw [hlty]; simpa using c62
     · exact hN j' hj' om⟩
  have hun := tyN_no hlt (fun j' hj' => hN j' hj' om)
  refine c_exit (e_Sx (e_LSx (e_Bx (e_B (e_S ?_)))))
  refine c_region (wl (r_add rfl rfl rfl om) (wmI rfl (x_nil (e_LS (gr.length - (k + 1)) om agA ?_))))
  exact ⟨k + 1, by omega, rfl, rfl, hB, hb3, hb4, hb5, hb6, hU.trans (firstF_miss hlt hun)⟩
 have hT0 := hU.trans (firstF_end om)
 refine c_exit (e_Sx (e_LSx (e_Bx (e_S (c_seq ?_)))))
 refine c_seq (c_region (wl (r_ldS U28 rfl rfl hb5.range0 sz28) ?_))
 refine wl_cl fn98 (unr_any G cg l.length fs.length gr _ (hG.mono hB) hk0) rfl (fun e' w20 hr => ?_)
 obtain ⟨rfl, hs⟩ := hr
 replace hs := Same.of_bel hs
 replace hB := hB.tr0 hs
 replace hb3 := hb3.tr0 hs
 replace hb4 := hb4.tr0 hs
 replace hb5 := hb5.tr0 hs
 replace hb6 := hb6.tr0 hs
 clear hs
 refine ⟨_, rfl, ?_⟩
 refine waI rfl (x_nil (e_S (c_seq (c_region (wmI rfl ?_)))))
 refine wl (r_geq rfl rfl) (x_nil (e_S ?_))
 refine c_ifd rfl (fun c70 => ?_) (fun c70 => ?_)
 ·
  refine c_seq (c_region (wmI rfl ?_))
  refine wl_cl fn37 (gfault_any _ _ _) rfl (fun e' w21 hr => ?_)
  obtain ⟨rfl, hs⟩ := hr
  replace hs := Same.of_bel hs
  replace hB := hB.tr0 hs
  replace hb3 := hb3.tr0 hs
  replace hb4 := hb4.tr0 hs
  replace hb5 := hb5.tr0 hs
  replace hb6 := hb6.tr0 hs
  clear hs
  refine ⟨_, rfl, ?_⟩
  refine wl_stW hb6 rfl rfl sz35_GLoose rfl oneA (fun w22 hq hs => ?_)
  replace hB := hB.tr1 hs lo6
  replace hb3 := hb3.tr1 hs om
  replace hb4 := hb4.tr1 hs om
  replace hb5 := hb5.tr1 hs om
  clear hs
  replace hb6 := hq
  refine x_nil (e_S (c_ret (e_Sr (fin1 (.inl rfl) rfl (rr_cell U35 rfl rfl hb6.range0 sz35_GLoose) ?_))))
  exact ⟨ret_fl (wi_unr hl0 hT0 om), hB⟩
 refine c_skip (e_S (c_seq (c_region (wl (r_bd (vs := #[]) (cs := #[.int .i64 0, .int .i64 0]) (by simp) kR) ?_))))
 refine wl_stW hb6 rfl rfl sz35_GLoose rfl oneA (fun w23 hq hs => ?_)
 replace hB := hB.tr1 hs lo6
 replace hb3 := hb3.tr1 hs om
 replace hb4 := hb4.tr1 hs om
 replace hb5 := hb5.tr1 hs om
 clear hs
 replace hb6 := hq
 refine x_nil (e_S (c_ret (fin1 (.inl rfl) rfl (rr_cell U35 rfl rfl hb6.range0 sz35_GLoose) ?_)))
 exact ⟨ret_fl (wi_zero hl0 hT0 om), hB⟩
set_option maxHeartbeats 1000000 in
theorem inh_any (A B G : Option Addr) (c d cg : Nat) (l : List Ty) (fs : List Ft) (gr : List Nd) (w : World) (hT : TypesIn w A l) (hv : VT l) (h60 : l.length ≤ 60) (hF : FeatsIn w B fs) (hG : NodesIn w G gr) (hfo : FOk l.length fs) : Calls Tryd.prog 40 #[.agg #[.slice A l.length c, .slice B fs.length d], .agg #[.slice G gr.length cg]] w fun e w' => e = .returned (flV (withinF l fs gr)) ∧ Bel w w' := by
 refine enter Tryd.func40 Tryd.ntmps40 rfl (Nat.le_of_ble_eq_true rfl) ?_
 have hB : Bel w w := Below.refl _ _
 refine c_seq (c_region ?_)
 refine wl_bx (v := .agg #[_, _]) (cs := #[_, _]) rfl rfl (fun b2 w1 hb2 hs hr => ?_)
 have lo2 := nLT (Bel.size hB) hr
 replace hB := hB.tr0 hs
 clear hs
 clear hr
 refine wl_bx (v := .agg #[_]) (cs := #[_]) rfl rfl (fun b3 w2 hb3 hs hr => ?_)
 have or_b2_b3 : b2 < b3 := nLL hb2.lt hr
 have lo3 := nLT (Bel.size hB) hr
 replace hB := hB.tr0 hs
 replace hb2 := hb2.tr0 hs
 clear hs
 clear hr
 refine wl_al (cs := #[.int .i64 0, .int .i64 0]) ze35_GLoose rfl (fun b4 w3 hb4 hs hr => ?_)
 have or_b2_b4 : b2 < b4 := nLL hb2.lt hr
 have or_b3_b4 : b3 < b4 := nLL hb3.lt hr
 have lo4 := nLT (Bel.size hB) hr
 replace hB := hB.tr0 hs
 replace hb2 := hb2.tr0 hs
 replace hb3 := hb3.tr0 hs
 clear hs
 clear hr
 refine x_nil (e_S (c_seq (c_seq (c_region (wl (r_ldS U25 rfl rfl hb2.range0 sz25) ?_)))))
 refine wl (r_ldS U28 rfl rfl hb3.range0 sz28) ?_
 refine wl_cl fn72 (rloose_any A B G c d cg l fs gr _ (hG.mono hB)) rfl (fun e' w4 hr => ?_)
 obtain ⟨rfl, hs⟩ := hr
 replace hs := Same.of_bel hs
 replace hB := hB.tr0 hs
 replace hb2 := hb2.tr0 hs
 replace hb3 := hb3.tr0 hs
 replace hb4 := hb4.tr0 hs
 clear hs
 refine ⟨_, rfl, ?_⟩
 refine wl_al (cs := #[.int .i64 0, .int .i64 0]) ze35_GLoose rfl (fun b5 w5 hb5 hs hr => ?_)
 have or_b2_b5 : b2 < b5 := nLL hb2.lt hr
 have or_b3_b5 : b3 < b5 := nLL hb3.lt hr
 have or_b4_b5 : b4 < b5 := nLL hb4.lt hr
 have lo5 := nLT (Bel.size hB) hr
 replace hB := hB.tr0 hs
 replace hb2 := hb2.tr0 hs
 replace hb3 := hb3.tr0 hs
 replace hb4 := hb4.tr0 hs
 clear hs
 clear hr
 refine wl_stW hb5 rfl rfl sz35_GLoose rfl oneA (fun w6 hq hs => ?_)
 replace hB := hB.tr1 hs lo5
 replace hb2 := hb2.tr1 hs om
 replace hb3 := hb3.tr1 hs om
 replace hb4 := hb4.tr1 hs om
 clear hs
 replace hb5 := hq
 refine x_nil (e_S (c_seq (c_region (wl (r_fa U35 sz3_GLoose dE rfl rfl rfl) (wl (r_ld1 (v := .int _ _) U3 rfl rfl (hb5.cell rfl)) ?_)))))
 refine wl (r_neq rfl rfl) (x_nil (e_S ?_))
 refine c_ifd rfl (fun c17 => ?_) (fun c17 => ?_)
 ·
  refine c_seq (c_region (wl (r_ldS U35 rfl rfl hb5.range0 sz35_GLoose) ?_))
  refine wl_stW hb4 rfl rfl sz35_GLoose rfl oneA (fun w7 hq hs => ?_)
  replace hB := hB.tr1 hs lo4
  replace hb2 := hb2.tr1 hs om
  replace hb3 := hb3.tr1 hs om
  replace hb5 := hb5.tr1 hs om
  clear hs
  replace hb4 := hq
  refine x_nil (e_S (c_ret (e_Sr (fin1 (.inl rfl) rfl (rr_cell U35 rfl rfl hb4.range0 sz35_GLoose) ?_))))
  exact ⟨ret_fl (wi_loose c17), hB⟩
 have hl0 := Decidable.not_not.1 c17
 have hk0 := gok_of hl0
 have hk6 := hk0.le
 refine c_skip (e_S (c_seq (c_seq (c_region (wl (r_fa U28 sz26 dE rfl rfl rfl) ?_)))))
 refine wl (r_ld1 (v := .slice _ _ _) U26 rfl rfl (hb3.cell rfl)) (wl (r_len U26 rfl) (wmI rfl (x_nil (e_S (c_block ?_)))))
 refine c_loopS [6, 7, 9, 10, 22, 23, 24, 25, 26, 27, 28, 29, 30, 31, 32, 33, 34, 35, 36, 37, 38, 39, 40, 41, 42, 43, 44, 45, 46, 47, 48, 49, 50, 51, 52, 53, 54, 55, 56, 57, 58, 59, 60, 61, 62, 63, 64, 65, 66] (fun m g w' => ∃ k : Nat, k ≤ gr.length ∧ m = gr.length - k ∧ g 22 = .int .i64 k ∧ Bel w w' ∧ Blk w' b2 25 #[.slice A l.length c, .slice B fs.length d] ∧ Blk w' b3 28 #[.slice G gr.length cg] ∧ Blk w' b4 35 #[.int .i64 0, .int .i64 0] ∧ tyF l fs gr = firstF (tyN l fs gr) k (gr.length - k)) (gr.length) ?_ (fun m g5 w8 hI => ?_)
 ·
  exact ⟨0, Nat.zero_le _, rfl, rfl, hB, hb2, hb3, hb4, rfl⟩
 obtain ⟨k, hk, hm, hkk, hB, hb2, hb3, hb4, hU⟩ := hI
 refine c_know 22 (.int .i64 k) hkk nu (c_seq (c_region (wl (r_lss rfl rfl) (x_nil (e_S ?_)))))
 refine c_seq ?_
 refine c_ifd rfl (fun c23 => ?_) (fun c23 => ?_)
 ·
  have hlt : k < gr.length := by omega
  obtain ⟨nb, no, LA, lc, rfl, hnb, hnr, hln⟩ := hG.at_ hB hlt
  have hmx := hln.1
  unfold maxI at hmx
  refine c_skip (e_S (c_seq (c_block (c_seq (c_region ?_)))))
  refine wmI rfl (wl (r_ia (i := k) U26 sz33 rfl rfl om rfl) (wl (r_ldS U33 rfl rfl hnr sz33) ?_))
  refine wl_al (cs := #[.int .i64 0, .slice none 0 0]) ze33 rfl (fun b7 w9 hb7 hs hr => ?_)
  have or_b2_b7 : b2 < b7 := nLL hb2.lt hr
  have or_b3_b7 : b3 < b7 := nLL hb3.lt hr
  have or_b4_b7 : b4 < b7 := nLL hb4.lt hr
  have lo7 := nLT (Bel.size hB) hr
  replace hB := hB.tr0 hs
  replace hb2 := hb2.tr0 hs
  replace hb3 := hb3.tr0 hs
  replace hb4 := hb4.tr0 hs
  clear hs
  clear hr
  refine waI rfl ?_
  refine wl_stW hb7 rfl rfl sz33 rfl oneA (fun w10 hq hs => ?_)
  replace hB := hB.tr1 hs lo7
  replace hb2 := hb2.tr1 hs om
  replace hb3 := hb3.tr1 hs om
  replace hb4 := hb4.tr1 hs om
  clear hs
  replace hb7 := hq
  refine x_nil (e_S (c_seq (c_region (wl (r_fa U33 sz31 dE rfl rfl rfl) (wl (r_ld1 (v := .slice _ _ _) U31 rfl rfl (hb7.cell rfl)) ?_)))))
  refine wl (r_len U31 rfl) (wmI rfl (x_nil (e_S (c_block ?_))))
  refine c_loopS [9, 10, 30, 31, 32, 33, 34, 35, 36, 37, 38, 39, 40, 41, 42, 43, 44, 45, 46, 47, 48, 49, 50, 51, 52, 53, 54, 55, 56, 57, 58, 59, 60, 61, 62, 63, 64, 65] (fun m g w' => ∃ j : Nat, j ≤ (gr[k]'hlt).ln.length ∧ m = (gr[k]'hlt).ln.length - j ∧ g 30 = .int .i64 j ∧ Bel w w' ∧ Blk w' b2 25 #[.slice A l.length c, .slice B fs.length d] ∧ Blk w' b3 28 #[.slice (some ⟨nb, no, none⟩) gr.length cg] ∧ Blk w' b4 35 #[.int .i64 0, .int .i64 0] ∧ Blk w' b7 33 #[.int .i64 (gr[k]'hlt).ty, .slice LA (gr[k]'hlt).ln.length lc] ∧ (∀ j' (hj' : j' < (gr[k]'hlt).ln.length), j' < j → lnTy l fs gr (gr[k]'hlt).ty ((gr[k]'hlt).ln[j']) = false)) ((gr[k]'hlt).ln.length) ?_ (fun m g8 w11 hI => ?_)
  ·
   exact ⟨0, Nat.zero_le _, rfl, rfl, hB, hb2, hb3, hb4, hb7, fun j' _ h => by omega⟩
  obtain ⟨j, hj, hmj, hjj, hB, hb2, hb3, hb4, hb7, hN⟩ := hI
  refine c_know 30 (.int .i64 j) hjj nu (c_seq (c_region (wl (r_lss rfl rfl) (x_nil (e_S ?_)))))
  refine c_seq ?_
  refine c_ifd rfl (fun c31 => ?_) (fun c31 => ?_)
  ·
   have hlj : j < (gr[k]'hlt).ln.length := by omega
   obtain ⟨lb, lof, rfl, hlb, hlr⟩ := hln.at_ hB hlj
   have hxr := hk0.ln k hlt _ (List.getElem_mem hlj)
   obtain ⟨fi, hfi, hfl⟩ : ∃ t : Nat, ((gr[k]'hlt).ln[j]'hlj).1 = (t : Int) ∧ t < fs.length := ⟨(((gr[k]'hlt).ln[j]'hlj).1).toNat, by omega, by omega⟩
   obtain ⟨ti, hti, htl⟩ : ∃ t : Nat, ((gr[k]'hlt).ln[j]'hlj).2 = (t : Int) ∧ t < gr.length := ⟨(((gr[k]'hlt).ln[j]'hlj).2).toNat, by omega, by omega⟩
   obtain ⟨yn, hyn, hynl⟩ : ∃ t : Nat, (gr[k]'hlt).ty = (t : Int) ∧ t < l.length := by
     have h := hk0.ty k hlt
     exact ⟨(gr[k]'hlt).ty.toNat, by omega, by omega⟩
   obtain ⟨zn, hzn, hznl⟩ : ∃ t : Nat, (gr[ti]'htl).ty = (t : Int) ∧ t < l.length := by
     have h := hk0.ty ti htl
     exact ⟨(gr[ti]'htl).ty.toNat, by omega, by omega⟩
   have hff := hfo.at_ fi hfl
   obtain ⟨on, hon, honl⟩ : ∃ t : Nat, (fs[fi]'hfl).of = (t : Int) ∧ t < l.length := ⟨(fs[fi]'hfl).of.toNat, by omega, by omega⟩
   obtain ⟨vn, hvn, hvnl⟩ : ∃ t : Nat, (fs[fi]'hfl).val = (t : Int) ∧ t < l.length := ⟨(fs[fi]'hfl).val.toNat, by omega, by omega⟩
   obtain ⟨fb, fo, rfl, hfb, hfr⟩ := hF.at_ (Below.refl _ _ : Bel w w) hfl
   obtain ⟨nb2, no2, LA2, lc2, he2, hnb2, hnr2, _⟩ := hG.at_ (Below.refl _ _ : Bel w w) htl
   cases he2
   rw [hzn] at hnr2
   have hlty := lnTy_at (l := l) hfi hfl hti htl hyn hon hvn hzn
   refine c_skip (e_S (c_seq (c_block (c_seq (c_region ?_)))))
   refine wl (r_ia (i := j) U31 sz30 rfl rfl om rfl) (wl (r_ldS U30 rfl rfl hlr sz30) ?_)
   refine wl_al (cs := #[.int .i64 0, .int .i64 0]) ze30 rfl (fun b9 w12 hb9 hs hr => ?_)
   have or_b2_b9 : b2 < b9 := nLL hb2.lt hr
   have or_b3_b9 : b3 < b9 := nLL hb3.lt hr
   have or_b4_b9 : b4 < b9 := nLL hb4.lt hr
   have or_b7_b9 : b7 < b9 := nLL hb7.lt hr
   have lo9 := nLT (Bel.size hB) hr
   replace hB := hB.tr0 hs
   replace hb2 := hb2.tr0 hs
   replace hb3 := hb3.tr0 hs
   replace hb4 := hb4.tr0 hs
   replace hb7 := hb7.tr0 hs
   clear hs
   clear hr
   refine wl_stW hb9 rfl rfl sz30 rfl oneA (fun w13 hq hs => ?_)
   replace hB := hB.tr1 hs lo9
   replace hb2 := hb2.tr1 hs om
   replace hb3 := hb3.tr1 hs om
   replace hb4 := hb4.tr1 hs om
   replace hb7 := hb7.tr1 hs om
   clear hs
   replace hb9 := hq
   refine x_nil (e_S (c_seq ?_))
   rw [hfi, hti] at hb9
   refine c_region (wl (r_fa U25 sz23_GLoose dE rfl rfl rfl) (wl (r_ld1 (v := .slice _ _ _) U23 rfl rfl (hb2.cell rfl)) (wl (r_fa U30 sz3_GLoose dE rfl rfl rfl) (wl (r_ld1 (v := .int _ _) U3 rfl rfl (hb9.cell rfl)) (wl (r_ia (i := fi) U23 sz63_GVal rfl rfl om rfl) ?_)))))
   refine wl (r_ldS U63 rfl rfl (hB.range hfb hfr) sz63_GVal) ?_
   refine wl_al (cs := #[.string ⟨#[]⟩, .int .i64 0, .int .i64 0]) ze63_GVal rfl (fun b10 w14 hb10 hs hr => ?_)
   have or_b2_b10 : b2 < b10 := nLL hb2.lt hr
   have or_b3_b10 : b3 < b10 := nLL hb3.lt hr
   have or_b4_b10 : b4 < b10 := nLL hb4.lt hr
   have or_b7_b10 : b7 < b10 := nLL hb7.lt hr
   have or_b9_b10 : b9 < b10 := nLL hb9.lt hr
   have lo10 := nLT (Bel.size hB) hr
   replace hB := hB.tr0 hs
   replace hb2 := hb2.tr0 hs
   replace hb3 := hb3.tr0 hs
   replace hb4 := hb4.tr0 hs
   replace hb7 := hb7.tr0 hs
   replace hb9 := hb9.tr0 hs
   clear hs
   clear hr
   refine wl_stW hb10 rfl rfl sz63_GVal rfl oneA (fun w15 hq hs => ?_)
   replace hB := hB.tr1 hs lo10
   replace hb2 := hb2.tr1 hs om
   replace hb3 := hb3.tr1 hs om
   replace hb4 := hb4.tr1 hs om
   replace hb7 := hb7.tr1 hs om
   replace hb9 := hb9.tr1 hs om
   clear hs
   replace hb10 := hq
   refine x_nil (e_S (c_seq ?_))
   rw [hon, hvn] at hb10
   rw [hyn] at hb7
   refine c_monoGO 23 [40, 41, 42, 43, 44, 45, 46, 47, 48, 49, 50, 51, 52, 53, 54, 55, 56, 57, 58, 59, 60, 61, 62] (fun _ => false) (fun ix v wv => match ix with | 0 => v = .pointer (some ⟨b2, 0, none⟩) | 1 => v = .slice A l.length c | 2 => v = .pointer (some ⟨b7, 0, none⟩) | 3 => v = .int .i64 (yn : Nat) | 4 => v = .pointer (some ⟨b10, 1, none⟩) | 5 => v = .int .i64 (on : Nat) | 6 => v = .bool (sub l yn on) | 7 => v = .bool (!sub l yn on) | 8 => v = .bool (!sub l yn on) | 9 => (((!sub l yn on)) = false → v = .pointer (some ⟨b2, 0, none⟩)) ∧ (((!sub l yn on)) = true → v = undef) | 10 => (((!sub l yn on)) = false → v = .slice A l.length c) ∧ (((!sub l yn on)) = true → v = undef) | 11 => (((!sub l yn on)) = false → v = .pointer (some ⟨b3, 0, none⟩)) ∧ (((!sub l yn on)) = true → v = undef) | 12 => (((!sub l yn on)) = false → v = .slice (some ⟨nb, no, none⟩) gr.length cg) ∧ (((!sub l yn on)) = true → v = undef) | 13 => (((!sub l yn on)) = false → v = .pointer (some ⟨b9, 1, none⟩)) ∧ (((!sub l yn on)) = true → v = undef) | 14 => (((!sub l yn on)) = false → v = .int .i64 (ti : Nat)) ∧ (((!sub l yn on)) = true → v = undef) | 15 => (((!sub l yn on)) = false → v = .pointer (some ⟨nb, no + ti * 2, none⟩)) ∧ (((!sub l yn on)) = true → v = undef) | 16 => (((!sub l yn on)) = false → v = .pointer (some ⟨nb, no + ti * 2 + 0, none⟩)) ∧ (((!sub l yn on)) = true → v = undef) | 17 => (((!sub l yn on)) = false → v = .int .i64 (zn : Nat)) ∧ (((!sub l yn on)) = true → v = undef) | 18 => (((!sub l yn on)) = false → v = .pointer (some ⟨b10, 2, none⟩)) ∧ (((!sub l yn on)) = true → v = undef) | 19 => (((!sub l yn on)) = false → v = .int .i64 (vn : Nat)) ∧ (((!sub l yn on)) = true → v = undef) | 20 => (((!sub l yn on)) = false → v = .bool (sub l zn vn)) ∧ (((!sub l yn on)) = true → v = undef) | 21 => (((!sub l yn on)) = false → v = .bool (!sub l zn vn)) ∧ (((!sub l yn on)) = true → v = undef) | 22 => v = .bool (!sub l yn on || !sub l zn vn) | _ => True) kR kR ?_ ?_ ?_
   ·
    intro ix v wv wv2 h hs
    match ix, h with
    | 0, h => exact h
    | 1, h => exact h
    | 2, h => exact h
    | 3, h => exact h
    | 4, h => exact h
    | 5, h => exact h
    | 6, h => exact h
    | 7, h => exact h
    | 8, h => exact h
    | 9, h => exact h
    | 10, h => exact h
    | 11, h => exact h
    | 12, h => exact h
    | 13, h => exact h
    | 14, h => exact h
    | 15, h => exact h
    | 16, h => exact h
    | 17, h => exact h
    | 18, h => exact h
    | 19, h => exact h
    | 20, h => exact h
    | 21, h => exact h
    | 22, h => exact h
    | _ + 23, h => exact trivial
   ·
    intro ix o hix hoq gg wx hs hd hdis
    match ix, hix, hoq with
    | 0, _, hoq =>
     obtain rfl := sI hoq
     have hs0 := hs
     replace hb2 := hb2.tr0 hs
     clear hs
     refine ⟨fun _ => ?_, fun hw => Bool.noConfusion (show true = false from hw)⟩
     refine os_rv (r_fa U25 sz22_GLoose dE rfl rfl rfl) ⟨Same.refl _ _, ?_, frsh_no⟩
     exact rfl
    | 1, _, hoq =>
     obtain rfl := sI hoq
     have hs0 := hs
     replace hb2 := hb2.tr0 hs
     clear hs
     have d0 : gg 40 = .pointer (some ⟨b2, 0, none⟩) := hd 0 (dep_of kR)
     have e40 := d0
     refine ⟨fun _ => ?_, fun hw => Bool.noConfusion (show true = false from hw)⟩
     refine os_know 40 (.pointer (some ⟨b2, 0, none⟩)) e40 nu ?_
     refine os_rv (r_ld1 (v := .slice _ _ _) U22 rfl rfl (hb2.cell rfl)) ⟨Same.refl _ _, ?_, frsh_no⟩
     exact rfl
    | 2, _, hoq =>
     obtain rfl := sI hoq
     have hs0 := hs
     replace hb7 := hb7.tr0 hs
     clear hs
     refine ⟨fun _ => ?_, fun hw => Bool.noConfusion (show true = false from hw)⟩
     refine os_rv (r_fa U33 sz3_GLoose dE rfl rfl rfl) ⟨Same.refl _ _, ?_, frsh_no⟩
     exact rfl
    | 3, _, hoq =>
     obtain rfl := sI hoq
     have hs0 := hs
     replace hb7 := hb7.tr0 hs
     clear hs
     have d2 : gg 42 = .pointer (some ⟨b7, 0, none⟩) := hd 2 (dep_of kR)
     have e42 := d2
     refine ⟨fun _ => ?_, fun hw => Bool.noConfusion (show true = false from hw)⟩
     refine os_know 42 (.pointer (some ⟨b7, 0, none⟩)) e42 nu ?_
     refine os_rv (r_ld1 (v := .int _ _) U3 rfl rfl (hb7.cell rfl)) ⟨Same.refl _ _, ?_, frsh_no⟩
     exact rfl
    | 4, _, hoq =>
     obtain rfl := sI hoq
     have hs0 := hs
     replace hb10 := hb10.tr0 hs
     clear hs
     refine ⟨fun _ => ?_, fun hw => Bool.noConfusion (show true = false from hw)⟩
     refine os_rv (r_fa U63 sz3_GLoose dE rfl rfl rfl) ⟨Same.refl _ _, ?_, frsh_no⟩
     exact rfl
    | 5, _, hoq =>
     obtain rfl := sI hoq
     have hs0 := hs
     replace hb10 := hb10.tr0 hs
     clear hs
     have d4 : gg 44 = .pointer (some ⟨b10, 1, none⟩) := hd 4 (dep_of kR)
     have e44 := d4
     refine ⟨fun _ => ?_, fun hw => Bool.noConfusion (show true = false from hw)⟩
     refine os_know 44 (.pointer (some ⟨b10, 1, none⟩)) e44 nu ?_
     refine os_rv (r_ld1 (v := .int _ _) U3 rfl rfl (hb10.cell rfl)) ⟨Same.refl _ _, ?_, frsh_no⟩
     exact rfl
    | 6, _, hoq =>
     obtain rfl := sI hoq
     have hs0 := hs
     replace hB := hB.tr0 hs
     clear hs
     have d1 : gg 41 = .slice A l.length c := hd 1 (dep_of kR)
     have e41 := d1
     have d3 : gg 43 = .int .i64 (yn : Nat) := hd 3 (dep_of kR)
     have e43 := d3
     have d5 : gg 45 = .int .i64 (on : Nat) := hd 5 (dep_of kR)
     have e45 := d5
     refine ⟨fun _ => ?_, fun hw => Bool.noConfusion (show true = false from hw)⟩
     refine os_know 41 (.slice A l.length c) e41 nu (os_know 43 (.int .i64 (yn : Nat)) e43 nu (os_know 45 (.int .i64 (on : Nat)) e45 nu ?_))
     refine os_cl fn58_GVal (sub_any A c l yn on wx (hT.mono hB) hv h60 hynl honl) rfl (fun e' w2 hr => ?_)
     obtain ⟨rfl, hs⟩ := hr
     exact ⟨_, rfl, Same.of_bel hs, rfl, frsh_no⟩
    | 7, _, hoq =>
     obtain rfl := sI hoq
     have hs0 := hs
     clear hs
     have d6 : gg 46 = .bool (sub l yn on) := hd 6 (dep_of kR)
     have e46 := d6
     refine ⟨fun _ => ?_, fun hw => Bool.noConfusion (show true = false from hw)⟩
     refine os_know 46 (.bool (sub l yn on)) e46 nu ?_
     refine os_rv (r_not rfl) ⟨Same.refl _ _, ?_, frsh_no⟩
     exact rfl
    | 8, _, hoq =>
     obtain rfl := sI hoq
     have hs0 := hs
     clear hs
     have d7 : gg 47 = .bool (!sub l yn on) := hd 7 (dep_of kR)
     have e47 := d7
     refine ⟨fun _ => ?_, fun hw => Bool.noConfusion (show true = false from hw)⟩
     refine os_know 47 (.bool (!sub l yn on)) e47 nu ?_
     refine os_rv (r_mv (v := .bool _) rfl) ⟨Same.refl _ _, ?_, frsh_no⟩
     exact rfl
    | 9, _, hoq =>
     obtain rfl := sI hoq
     have hs0 := hs
     replace hb2 := hb2.tr0 hs
     clear hs
     have d8 : gg 48 = .bool (!sub l yn on) := hd 8 (dep_of kR)
     have e48 := d8
     refine guard_case 48 ((!sub l yn on)) rfl e48 (fun hgc => ?_) (fun hgc => ⟨fun h => absurd (h.symm.trans hgc) dE, fun _ => rfl⟩)
     refine os_know 48 (.bool (!sub l yn on)) e48 nu ?_
     refine os_rv (r_fa U25 sz22_GLoose dE rfl rfl rfl) ⟨Same.refl _ _, ?_, frsh_no⟩
     exact ⟨fun _ => rfl, fun h => absurd (h.symm.trans hgc) dE⟩
    | 10, _, hoq =>
     obtain rfl := sI hoq
     have hs0 := hs
     replace hb2 := hb2.tr0 hs
     clear hs
     have d8 : gg 48 = .bool (!sub l yn on) := hd 8 (dep_of kR)
     have e48 := d8
     have d9 : (((!sub l yn on)) = false → gg 49 = .pointer (some ⟨b2, 0, none⟩)) ∧ (((!sub l yn on)) = true → gg 49 = undef) := hd 9 (dep_of kR)
     refine guard_case 48 ((!sub l yn on)) rfl e48 (fun hgc => ?_) (fun hgc => ⟨fun h => absurd (h.symm.trans hgc) dE, fun _ => rfl⟩)
     have e49 := d9.1 hgc
     refine os_know 48 (.bool (!sub l yn on)) e48 nu (os_know 49 (.pointer (some ⟨b2, 0, none⟩)) e49 nu ?_)
     refine os_rv (r_ld1 (v := .slice _ _ _) U22 rfl rfl (hb2.cell rfl)) ⟨Same.refl _ _, ?_, frsh_no⟩
     exact ⟨fun _ => rfl, fun h => absurd (h.symm.trans hgc) dE⟩
    | 11, _, hoq =>
     obtain rfl := sI hoq
     have hs0 := hs
     replace hb3 := hb3.tr0 hs
     clear hs
     have d8 : gg 48 = .bool (!sub l yn on) := hd 8 (dep_of kR)
     have e48 := d8
     refine guard_case 48 ((!sub l yn on)) rfl e48 (fun hgc => ?_) (fun hgc => ⟨fun h => absurd (h.symm.trans hgc) dE, fun _ => rfl⟩)
     refine os_know 48 (.bool (!sub l yn on)) e48 nu ?_
     refine os_rv (r_fa U28 sz26 dE rfl rfl rfl) ⟨Same.refl _ _, ?_, frsh_no⟩
     exact ⟨fun _ => rfl, fun h => absurd (h.symm.trans hgc) dE⟩
    | 12, _, hoq =>
     obtain rfl := sI hoq
     have hs0 := hs
     replace hb3 := hb3.tr0 hs
     clear hs
     have d8 : gg 48 = .bool (!sub l yn on) := hd 8 (dep_of kR)
     have e48 := d8
     have d11 : (((!sub l yn on)) = false → gg 51 = .pointer (some ⟨b3, 0, none⟩)) ∧ (((!sub l yn on)) = true → gg 51 = undef) := hd 11 (dep_of kR)
     refine guard_case 48 ((!sub l yn on)) rfl e48 (fun hgc => ?_) (fun hgc => ⟨fun h => absurd (h.symm.trans hgc) dE, fun _ => rfl⟩)
     have e51 := d11.1 hgc
     refine os_know 48 (.bool (!sub l yn on)) e48 nu (os_know 51 (.pointer (some ⟨b3, 0, none⟩)) e51 nu ?_)
     refine os_rv (r_ld1 (v := .slice _ _ _) U26 rfl rfl (hb3.cell rfl)) ⟨Same.refl _ _, ?_, frsh_no⟩
     exact ⟨fun _ => rfl, fun h => absurd (h.symm.trans hgc) dE⟩
    | 13, _, hoq =>
     obtain rfl := sI hoq
     have hs0 := hs
     replace hb9 := hb9.tr0 hs
     clear hs
     have d8 : gg 48 = .bool (!sub l yn on) := hd 8 (dep_of kR)
     have e48 := d8
     refine guard_case 48 ((!sub l yn on)) rfl e48 (fun hgc => ?_) (fun hgc => ⟨fun h => absurd (h.symm.trans hgc) dE, fun _ => rfl⟩)
     refine os_know 48 (.bool (!sub l yn on)) e48 nu ?_
     refine os_rv (r_fa U30 sz3_GLoose dE rfl rfl rfl) ⟨Same.refl _ _, ?_, frsh_no⟩
     exact ⟨fun _ => rfl, fun h => absurd (h.symm.trans hgc) dE⟩
    | 14, _, hoq =>
     obtain rfl := sI hoq
     have hs0 := hs
     replace hb9 := hb9.tr0 hs
     clear hs
     have d8 : gg 48 = .bool (!sub l yn on) := hd 8 (dep_of kR)
     have e48 := d8
     have d13 : (((!sub l yn on)) = false → gg 53 = .pointer (some ⟨b9, 1, none⟩)) ∧ (((!sub l yn on)) = true → gg 53 = undef) := hd 13 (dep_of kR)
     refine guard_case 48 ((!sub l yn on)) rfl e48 (fun hgc => ?_) (fun hgc => ⟨fun h => absurd (h.symm.trans hgc) dE, fun _ => rfl⟩)
     have e53 := d13.1 hgc
     refine os_know 48 (.bool (!sub l yn on)) e48 nu (os_know 53 (.pointer (some ⟨b9, 1, none⟩)) e53 nu ?_)
     refine os_rv (r_ld1 (v := .int _ _) U3 rfl rfl (hb9.cell rfl)) ⟨Same.refl _ _, ?_, frsh_no⟩
     exact ⟨fun _ => rfl, fun h => absurd (h.symm.trans hgc) dE⟩
    | 15, _, hoq =>
     obtain rfl := sI hoq
     have hs0 := hs
     clear hs
     have d8 : gg 48 = .bool (!sub l yn on) := hd 8 (dep_of kR)
     have e48 := d8
     have d12 : (((!sub l yn on)) = false → gg 52 = .slice (some ⟨nb, no, none⟩) gr.length cg) ∧ (((!sub l yn on)) = true → gg 52 = undef) := hd 12 (dep_of kR)
     have d14 : (((!sub l yn on)) = false → gg 54 = .int .i64 (ti : Nat)) ∧ (((!sub l yn on)) = true → gg 54 = undef) := hd 14 (dep_of kR)
     refine guard_case 48 ((!sub l yn on)) rfl e48 (fun hgc => ?_) (fun hgc => ⟨fun h => absurd (h.symm.trans hgc) dE, fun _ => rfl⟩)
     have e52 := d12.1 hgc
     have e54 := d14.1 hgc
     refine os_know 48 (.bool (!sub l yn on)) e48 nu (os_know 52 (.slice (some ⟨nb, no, none⟩) gr.length cg) e52 nu (os_know 54 (.int .i64 (ti : Nat)) e54 nu ?_))
     refine os_rv (r_ia (i := ti) U26 sz33 rfl rfl om rfl) ⟨Same.refl _ _, ?_, frsh_no⟩
     exact ⟨fun _ => rfl, fun h => absurd (h.symm.trans hgc) dE⟩
    | 16, _, hoq =>
     obtain rfl := sI hoq
     have hs0 := hs
     clear hs
     have d8 : gg 48 = .bool (!sub l yn on) := hd 8 (dep_of kR)
     have e48 := d8
     have d15 : (((!sub l yn on)) = false → gg 55 = .pointer (some ⟨nb, no + ti * 2, none⟩)) ∧ (((!sub l yn on)) = true → gg 55 = undef) := hd 15 (dep_of kR)
     refine guard_case 48 ((!sub l yn on)) rfl e48 (fun hgc => ?_) (fun hgc => ⟨fun h => absurd (h.symm.trans hgc) dE, fun _ => rfl⟩)
     have e55 := d15.1 hgc
     refine os_know 48 (.bool (!sub l yn on)) e48 nu (os_know 55 (.pointer (some ⟨nb, no + ti * 2, none⟩)) e55 nu ?_)
     refine os_rv (r_fa U33 sz3_GLoose dE rfl rfl rfl) ⟨Same.refl _ _, ?_, frsh_no⟩
     exact ⟨fun _ => rfl, fun h => absurd (h.symm.trans hgc) dE⟩
    | 17, _, hoq =>
     obtain rfl := sI hoq
     have hs0 := hs
     replace hB := hB.tr0 hs
     clear hs
     have d8 : gg 48 = .bool (!sub l yn on) := hd 8 (dep_of kR)
     have e48 := d8
     have d16 : (((!sub l yn on)) = false → gg 56 = .pointer (some ⟨nb, no + ti * 2 + 0, none⟩)) ∧ (((!sub l yn on)) = true → gg 56 = undef) := hd 16 (dep_of kR)
     refine guard_case 48 ((!sub l yn on)) rfl e48 (fun hgc => ?_) (fun hgc => ⟨fun h => absurd (h.symm.trans hgc) dE, fun _ => rfl⟩)
     have e56 := d16.1 hgc
     refine os_know 48 (.bool (!sub l yn on)) e48 nu (os_know 56 (.pointer (some ⟨nb, no + ti * 2 + 0, none⟩)) e56 nu ?_)
     refine os_rv (r_ld1 (v := .int _ _) U3 rfl rfl (hB.cell hnb2 (hnr2 0 _ rfl))) ⟨Same.refl _ _, ?_, frsh_no⟩
     exact ⟨fun _ => rfl, fun h => absurd (h.symm.trans hgc) dE⟩
    | 18, _, hoq =>
     obtain rfl := sI hoq
     have hs0 := hs
     replace hb10 := hb10.tr0 hs
     clear hs
     have d8 : gg 48 = .bool (!sub l yn on) := hd 8 (dep_of kR)
     have e48 := d8
     refine guard_case 48 ((!sub l yn on)) rfl e48 (fun hgc => ?_) (fun hgc => ⟨fun h => absurd (h.symm.trans hgc) dE, fun _ => rfl⟩)
     refine os_know 48 (.bool (!sub l yn on)) e48 nu ?_
     refine os_rv (r_fa U63 sz3_GLoose dE rfl rfl rfl) ⟨Same.refl _ _, ?_, frsh_no⟩
     exact ⟨fun _ => rfl, fun h => absurd (h.symm.trans hgc) dE⟩
    | 19, _, hoq =>
     obtain rfl := sI hoq
     have hs0 := hs
     replace hb10 := hb10.tr0 hs
     clear hs
     have d8 : gg 48 = .bool (!sub l yn on) := hd 8 (dep_of kR)
     have e48 := d8
     have d18 : (((!sub l yn on)) = false → gg 58 = .pointer (some ⟨b10, 2, none⟩)) ∧ (((!sub l yn on)) = true → gg 58 = undef) := hd 18 (dep_of kR)
     refine guard_case 48 ((!sub l yn on)) rfl e48 (fun hgc => ?_) (fun hgc => ⟨fun h => absurd (h.symm.trans hgc) dE, fun _ => rfl⟩)
     have e58 := d18.1 hgc
     refine os_know 48 (.bool (!sub l yn on)) e48 nu (os_know 58 (.pointer (some ⟨b10, 2, none⟩)) e58 nu ?_)
     refine os_rv (r_ld1 (v := .int _ _) U3 rfl rfl (hb10.cell rfl)) ⟨Same.refl _ _, ?_, frsh_no⟩
     exact ⟨fun _ => rfl, fun h => absurd (h.symm.trans hgc) dE⟩
    | 20, _, hoq =>
     obtain rfl := sI hoq
     have hs0 := hs
     replace hB := hB.tr0 hs
     clear hs
     have d8 : gg 48 = .bool (!sub l yn on) := hd 8 (dep_of kR)
     have e48 := d8
     have d10 : (((!sub l yn on)) = false → gg 50 = .slice A l.length c) ∧ (((!sub l yn on)) = true → gg 50 = undef) := hd 10 (dep_of kR)
     have d17 : (((!sub l yn on)) = false → gg 57 = .int .i64 (zn : Nat)) ∧ (((!sub l yn on)) = true → gg 57 = undef) := hd 17 (dep_of kR)
     have d19 : (((!sub l yn on)) = false → gg 59 = .int .i64 (vn : Nat)) ∧ (((!sub l yn on)) = true → gg 59 = undef) := hd 19 (dep_of kR)
     refine guard_case 48 ((!sub l yn on)) rfl e48 (fun hgc => ?_) (fun hgc => ⟨fun h => absurd (h.symm.trans hgc) dE, fun _ => rfl⟩)
     have e50 := d10.1 hgc
     have e57 := d17.1 hgc
     have e59 := d19.1 hgc
     refine os_know 48 (.bool (!sub l yn on)) e48 nu (os_know 50 (.slice A l.length c) e50 nu (os_know 57 (.int .i64 (zn : Nat)) e57 nu (os_know 59 (.int .i64 (vn : Nat)) e59 nu ?_)))
     refine os_cl fn58_GVal (sub_any A c l zn vn wx (hT.mono hB) hv h60 hznl hvnl) rfl (fun e' w2 hr => ?_)
     obtain ⟨rfl, hs⟩ := hr
     exact ⟨_, rfl, Same.of_bel hs, ⟨fun _ => rfl, fun h => absurd (h.symm.trans hgc) dE⟩, frsh_no⟩
    | 21, _, hoq =>
     obtain rfl := sI hoq
     have hs0 := hs
     clear hs
     have d8 : gg 48 = .bool (!sub l yn on) := hd 8 (dep_of kR)
     have e48 := d8
     have d20 : (((!sub l yn on)) = false → gg 60 = .bool (sub l zn vn)) ∧ (((!sub l yn on)) = true → gg 60 = undef) := hd 20 (dep_of kR)
     refine guard_case 48 ((!sub l yn on)) rfl e48 (fun hgc => ?_) (fun hgc => ⟨fun h => absurd (h.symm.trans hgc) dE, fun _ => rfl⟩)
     have e60 := d20.1 hgc
     refine os_know 48 (.bool (!sub l yn on)) e48 nu (os_know 60 (.bool (sub l zn vn)) e60 nu ?_)
     refine os_rv (r_not rfl) ⟨Same.refl _ _, ?_, frsh_no⟩
     exact ⟨fun _ => rfl, fun h => absurd (h.symm.trans hgc) dE⟩
    | 22, _, hoq =>
     obtain rfl := sI hoq
     have hs0 := hs
     clear hs
     have d8 : gg 48 = .bool (!sub l yn on) := hd 8 (dep_of kR)
     have e48 := d8
     have d21 : (((!sub l yn on)) = false → gg 61 = .bool (!sub l zn vn)) ∧ (((!sub l yn on)) = true → gg 61 = undef) := hd 21 (dep_of kR)
     refine ⟨fun _ => ?_, fun hw => Bool.noConfusion (show true = false from hw)⟩
     cases hcc : (!sub l yn on) with
     | true =>
      rw [hcc] at e48
      refine os_know 48 (.bool true) e48 nu ?_
      refine os_rv (r_pt (v := .bool _) rfl rfl) ⟨Same.refl _ _, ?_, frsh_no⟩
      exact rfl
     | false =>
      have e61 := d21.1 hcc
      rw [hcc] at e48
      refine os_know 48 (.bool false) e48 nu (os_know 61 (.bool (!sub l zn vn)) e61 nu ?_)
      refine os_rv (r_pf (v := .bool _) rfl rfl) ⟨Same.refl _ _, ?_, frsh_no⟩
      exact rfl
    | _ + 23, hix, _ => exact absurd hix om
   intro gg w16 hs hR hdis
   have hs0 := hs
   replace hB := hB.tr0 hs
   replace hb2 := hb2.tr0 hs
   replace hb3 := hb3.tr0 hs
   replace hb4 := hb4.tr0 hs
   replace hb7 := hb7.tr0 hs
   replace hb9 := hb9.tr0 hs
   replace hb10 := hb10.tr0 hs
   clear hs
   have d22 : gg 62 = .bool (!sub l yn on || !sub l zn vn) := hR 22 dE
   have e62 := d22
   refine wl_know 62 (.bool (!sub l yn on || !sub l zn vn)) e62 nu (x_nil (e_S ?_))
   refine c_if rfl (fun c62 => ?_) (fun c62 => ?_)
   ·
    have hty := tyN_yes hlt hlj (hlty.trans c62)
    refine c_seq (c_region (wmI rfl (wl (r_bd2 (v0 := .int _ _) (v1 := .int _ _) (fun v0 v1 => #[v0, v1]) rfl rfl kR) ?_)))
    refine wl_stW hb4 rfl rfl sz35_GLoose rfl oneA (fun w17 hq hs => ?_)
    replace hB := hB.tr1 hs lo4
    replace hb2 := hb2.tr1 hs om
    replace hb3 := hb3.tr1 hs om
    replace hb7 := hb7.tr1 hs om
    replace hb9 := hb9.tr1 hs om
    replace hb10 := hb10.tr1 hs om
    clear hs
    replace hb4 := hq
    refine x_nil (e_S (c_ret (e_Br (e_Sr (e_LSr ?_)))))
    refine e_Br (e_Br (e_Sr (e_LSr (e_Br (e_Sr ?_)))))
    refine fin1 (.inl rfl) rfl (rr_cell U35 rfl rfl hb4.range0 sz35_GLoose) ?_
    exact ⟨ret_fl (wi_ty hl0 (hU.trans (firstF_hit (c := 12) om hty dE))), hB⟩
   refine c_skip (e_B (e_S (c_region (wl (r_add rfl rfl rfl om) (wmI rfl ?_)))))
   refine x_nil (e_LS ((gr[k]'hlt).ln.length - (j + 1)) om agA ?_)
   rw [← hyn] at hb7
   exact ⟨j + 1, by omega, rfl, rfl, hB, hb2, hb3, hb4, hb7, fun j' hj' h => by
     by_cases e : j' = j
     · subst e; rw [hlty]; simpa using c62
     · exact hN j' hj' om⟩
  have hun := tyN_no hlt (fun j' hj' => hN j' hj' om)
  refine c_exit (e_Sx (e_LSx (e_Bx (e_B (e_S ?_)))))
  refine c_region (wl (r_add rfl rfl rfl om) (wmI rfl (x_nil (e_LS (gr.length - (k + 1)) om agA ?_))))
  exact ⟨k + 1, by omega, rfl, rfl, hB, hb2, hb3, hb4, hU.trans (firstF_miss hlt hun)⟩
 have hT0 := hU.trans (firstF_end om)
 refine c_exit (e_Sx (e_LSx (e_Bx (e_S (c_seq ?_)))))
 refine c_seq (c_region (wl (r_ldS U28 rfl rfl hb3.range0 sz28) ?_))
 refine wl_cl fn73 (runr_any G cg l.length fs.length gr _ (hG.mono hB) hk0) rfl (fun e' w18 hr => ?_)
 obtain ⟨rfl, hs⟩ := hr
 replace hs := Same.of_bel hs
 replace hB := hB.tr0 hs
 replace hb2 := hb2.tr0 hs
 replace hb3 := hb3.tr0 hs
 replace hb4 := hb4.tr0 hs
 clear hs
 refine ⟨_, rfl, ?_⟩
 refine waI rfl (x_nil (e_S (c_seq (c_region (wmI rfl ?_)))))
 refine wl (r_geq rfl rfl) (x_nil (e_S ?_))
 refine c_ifd rfl (fun c70 => ?_) (fun c70 => ?_)
 ·
  refine c_seq (c_region (wmI rfl (wl (r_bd2 (v0 := .int _ _) (v1 := .int _ _) (fun v0 v1 => #[v0, v1]) rfl rfl kR) ?_)))
  refine wl_stW hb4 rfl rfl sz35_GLoose rfl oneA (fun w19 hq hs => ?_)
  replace hB := hB.tr1 hs lo4
  replace hb2 := hb2.tr1 hs om
  replace hb3 := hb3.tr1 hs om
  clear hs
  replace hb4 := hq
  refine x_nil (e_S (c_ret (e_Sr (fin1 (.inl rfl) rfl (rr_cell U35 rfl rfl hb4.range0 sz35_GLoose) ?_))))
  exact ⟨ret_fl (wi_unr hl0 hT0 om), hB⟩
 refine c_skip (e_S (c_seq (c_region (wl (r_bd (vs := #[]) (cs := #[.int .i64 0, .int .i64 0]) (by simp) kR) ?_))))
 refine wl_stW hb4 rfl rfl sz35_GLoose rfl oneA (fun w20 hq hs => ?_)
 replace hB := hB.tr1 hs lo4
 replace hb2 := hb2.tr1 hs om
 replace hb3 := hb3.tr1 hs om
 clear hs
 replace hb4 := hq
 refine x_nil (e_S (c_ret (fin1 (.inl rfl) rfl (rr_cell U35 rfl rfl hb4.range0 sz35_GLoose) ?_)))
 exact ⟨ret_fl (wi_zero hl0 hT0 om), hB⟩
theorem gval_any (A B G : Option Addr) (c d cg : Nat) (l : List Ty) (fs : List Ft) (gr : List Nd) (w : World) (hTab : TabIn w) (hT : TypesIn w A l) (hF : FeatsIn w B fs) (hG : NodesIn w G gr) : Calls Tryd.prog 35 #[.agg #[.slice A l.length c, .slice B fs.length d], .agg #[.slice G gr.length cg]] w fun e w' => e = .returned (flV (graphF l fs gr)) ∧ Bel w w' := by
 refine enter Tryd.func35 Tryd.ntmps35 rfl (Nat.le_of_ble_eq_true rfl) ?_
 have hB : Bel w w := Below.refl _ _
 refine c_seq (c_region ?_)
 refine wl_bx (v := .agg #[_, _]) (cs := #[_, _]) rfl rfl (fun b2 w1 hb2 hs hr => ?_)
 have lo2 := nLT (Bel.size hB) hr
 replace hB := hB.tr0 hs
 clear hs
 clear hr
 refine wl_bx (v := .agg #[_]) (cs := #[_]) rfl rfl (fun b3 w2 hb3 hs hr => ?_)
 have or_b2_b3 : b2 < b3 := nLL hb2.lt hr
 have lo3 := nLT (Bel.size hB) hr
 replace hB := hB.tr0 hs
 replace hb2 := hb2.tr0 hs
 clear hs
 clear hr
 refine wl_al (cs := #[.int .i64 0, .int .i64 0]) ze35_GLoose rfl (fun b4 w3 hb4 hs hr => ?_)
 have or_b2_b4 : b2 < b4 := nLL hb2.lt hr
 have or_b3_b4 : b3 < b4 := nLL hb3.lt hr
 have lo4 := nLT (Bel.size hB) hr
 replace hB := hB.tr0 hs
 replace hb2 := hb2.tr0 hs
 replace hb3 := hb3.tr0 hs
 clear hs
 clear hr
 refine x_nil (e_S (c_seq (c_seq (c_region (wl (r_ldS U25 rfl rfl hb2.range0 sz25) ?_)))))
 refine wl_cl fn44 (validate_any A B c d l fs _ (hTab.mono hB) (hT.mono hB) (hF.mono hB)) rfl (fun e' w4 hr => ?_)
 obtain ⟨rfl, hs⟩ := hr
 replace hs := Same.of_bel hs
 replace hB := hB.tr0 hs
 replace hb2 := hb2.tr0 hs
 replace hb3 := hb3.tr0 hs
 replace hb4 := hb4.tr0 hs
 clear hs
 refine ⟨_, rfl, ?_⟩
 refine wl_al (cs := #[.int .i64 0, .int .i64 0]) ze35_GLoose rfl (fun b5 w5 hb5 hs hr => ?_)
 have or_b2_b5 : b2 < b5 := nLL hb2.lt hr
 have or_b3_b5 : b3 < b5 := nLL hb3.lt hr
 have or_b4_b5 : b4 < b5 := nLL hb4.lt hr
 have lo5 := nLT (Bel.size hB) hr
 replace hB := hB.tr0 hs
 replace hb2 := hb2.tr0 hs
 replace hb3 := hb3.tr0 hs
 replace hb4 := hb4.tr0 hs
 clear hs
 clear hr
 refine wl_stW hb5 rfl rfl sz35_GLoose rfl oneA (fun w6 hq hs => ?_)
 replace hB := hB.tr1 hs lo5
 replace hb2 := hb2.tr1 hs om
 replace hb3 := hb3.tr1 hs om
 replace hb4 := hb4.tr1 hs om
 clear hs
 replace hb5 := hq
 refine x_nil (e_S (c_seq (c_region (wl (r_fa U35 sz3_GLoose dE rfl rfl rfl) (wl (r_ld1 (v := .int _ _) U3 rfl rfl (hb5.cell rfl)) ?_)))))
 refine wl (r_neq rfl rfl) (x_nil (e_S ?_))
 refine c_ifd rfl (fun c10 => ?_) (fun c10 => ?_)
 ·
  refine c_seq (c_region (wl (r_ldS U35 rfl rfl hb5.range0 sz35_GLoose) ?_))
  refine wl_stW hb4 rfl rfl sz35_GLoose rfl oneA (fun w7 hq hs => ?_)
  replace hB := hB.tr1 hs lo4
  replace hb2 := hb2.tr1 hs om
  replace hb3 := hb3.tr1 hs om
  replace hb5 := hb5.tr1 hs om
  clear hs
  replace hb4 := hq
  refine x_nil (e_S (c_ret (e_Sr (fin1 (.inl rfl) rfl (rr_cell U35 rfl rfl hb4.range0 sz35_GLoose) ?_))))
  exact ⟨ret_fl (gf_hier c10), hB⟩
 have h0 := Decidable.not_not.1 c10
 have hS := sound_of h0
 have hfo := fok_of h0
 refine c_skip (e_S (c_seq ?_))
 refine c_monoTO 6 [12, 13, 14, 15, 16, 17] (fun _ => false) (fun ix v wv => match ix with | 0 => v = .agg #[.slice A l.length c, .slice B fs.length d] | 1 => v = .pointer (some ⟨b2, 0, none⟩) | 2 => v = .slice A l.length c | 3 => ∃ bu bd, v = tabV l.length bu bd ∧ TableIn wv l bu bd | 4 => v = .agg #[.slice G gr.length cg] | 5 => v = .agg #[.int .i64 (withinF l fs gr).1, .int .i64 (withinF l fs gr).2] | _ => True) kR kR ?_ ?_ ?_
 ·
  intro ix v wv wv2 h hs
  match ix, h with
  | 0, h => exact h
  | 1, h => exact h
  | 2, h => exact h
  | 3, h =>
   obtain ⟨bu, bd, e15, hTI⟩ := (show ∃ bu bd, v = tabV l.length bu bd ∧ TableIn wv l bu bd from h)
   exact ⟨bu, bd, e15, hTI.mono hs.bel⟩
  | 4, h => exact h
  | 5, h => exact h
  | _ + 6, h => exact trivial
 ·
  intro ix o hix hoq gg wx hs hd hdis
  match ix, hix, hoq with
  | 0, _, hoq =>
   obtain rfl := sI hoq
   have hs0 := hs
   replace hb2 := hb2.tr0 hs
   clear hs
   refine os_rv (r_ldS U25 rfl rfl hb2.range0 sz25) ⟨Same.refl _ _, ?_, frsh_no⟩
   exact rfl
  | 1, _, hoq =>
   obtain rfl := sI hoq
   have hs0 := hs
   replace hb2 := hb2.tr0 hs
   clear hs
   refine os_rv (r_fa U25 sz22_GLoose dE rfl rfl rfl) ⟨Same.refl _ _, ?_, frsh_no⟩
   exact rfl
  | 2, _, hoq =>
   obtain rfl := sI hoq
   have hs0 := hs
   replace hb2 := hb2.tr0 hs
   clear hs
   have d1 : gg 13 = .pointer (some ⟨b2, 0, none⟩) := hd 1 (dep_of kR)
   have e13 := d1
   refine os_know 13 (.pointer (some ⟨b2, 0, none⟩)) e13 nu ?_
   refine os_rv (r_ld1 (v := .slice _ _ _) U22 rfl rfl (hb2.cell rfl)) ⟨Same.refl _ _, ?_, frsh_no⟩
   exact rfl
  | 3, _, hoq =>
   obtain rfl := sI hoq
   have hs0 := hs
   replace hB := hB.tr0 hs
   clear hs
   have d2 : gg 14 = .slice A l.length c := hd 2 (dep_of kR)
   have e14 := d2
   refine os_know 14 (.slice A l.length c) e14 nu ?_
   refine os_cl fn48_GVal (tables_any _ _ _ wx (hT.mono hB) hS.vt hS.le) rfl (fun e' w2 hr => ?_)
   obtain ⟨bu, bd, rfl, hTI, hs⟩ := hr
   exact ⟨_, rfl, Same.of_bel hs, ⟨_, _, rfl, hTI⟩, frsh_no⟩
  | 4, _, hoq =>
   obtain rfl := sI hoq
   have hs0 := hs
   replace hb3 := hb3.tr0 hs
   clear hs
   refine os_rv (r_ldS U28 rfl rfl hb3.range0 sz28) ⟨Same.refl _ _, ?_, frsh_no⟩
   exact rfl
  | 5, _, hoq =>
   obtain rfl := sI hoq
   have hs0 := hs
   replace hB := hB.tr0 hs
   clear hs
   have d0 : gg 12 = .agg #[.slice A l.length c, .slice B fs.length d] := hd 0 (dep_of kR)
   have e12 := d0
   have d3 : ∃ bu bd, gg 15 = tabV l.length bu bd ∧ TableIn wx l bu bd := hd 3 (dep_of kR)
   obtain ⟨bu, bd, e15, hTI⟩ := d3
   have d4 : gg 16 = .agg #[.slice G gr.length cg] := hd 4 (dep_of kR)
   have e16 := d4
   refine os_know 12 (.agg #[.slice A l.length c, .slice B fs.length d]) e12 nu (os_know 15 (tabV l.length bu bd) e15 (by simp [undef, tabV]) (os_know 16 (.agg #[.slice G gr.length cg]) e16 nu ?_))
   refine os_cl fn71 (within_any A B G c d cg bu bd l fs gr wx hTI hS.le (hF.mono hB) (hG.mono hB) hfo) rfl (fun e' w2 hr => ?_)
   obtain ⟨rfl, hs⟩ := hr
   exact ⟨_, rfl, Same.of_bel hs, rfl, frsh_no⟩
  | _ + 6, hix, _ => exact absurd hix om
 intro gg w8 hs hR hdis
 have hs0 := hs
 replace hB := hB.tr0 hs
 replace hb2 := hb2.tr0 hs
 replace hb3 := hb3.tr0 hs
 replace hb4 := hb4.tr0 hs
 replace hb5 := hb5.tr0 hs
 clear hs
 have d5 : gg 17 = .agg #[.int .i64 (withinF l fs gr).1, .int .i64 (withinF l fs gr).2] := hR 5 dE
 have e17 := d5
 refine wl_know 17 (.agg #[.int .i64 (withinF l fs gr).1, .int .i64 (withinF l fs gr).2]) e17 nu ?_
 refine wl_stW hb4 rfl rfl sz35_GLoose rfl oneA (fun w9 hq hs => ?_)
 replace hB := hB.tr1 hs lo4
 replace hb2 := hb2.tr1 hs om
 replace hb3 := hb3.tr1 hs om
 replace hb5 := hb5.tr1 hs om
 clear hs
 replace hb4 := hq
 refine x_nil (e_S (c_ret (fin1 (.inl rfl) rfl (rr_cell U35 rfl rfl hb4.range0 sz35_GLoose) ?_)))
 exact ⟨ret_fl (gf_in h0), hB⟩
theorem gfau_any (A B G : Option Addr) (c d cg : Nat) (l : List Ty) (fs : List Ft) (gr : List Nd) (w : World) (hcl : l.length ≤ c) (hdl : fs.length ≤ d) (hT : TypesIn w A l) (hF : FeatsIn w B fs) (hG : NodesIn w G gr) : Calls Tryd.prog 13 #[.agg #[.slice A l.length c, .slice B fs.length d], .agg #[.slice G gr.length cg]] w fun e w' => e = .returned (flV (graphF l fs gr)) ∧ Bel w w' := by
 refine enter Tryd.func13 Tryd.ntmps13 rfl (Nat.le_of_ble_eq_true rfl) ?_
 have hB : Bel w w := Below.refl _ _
 refine c_seq (c_region ?_)
 refine wl_bx (v := .agg #[_, _]) (cs := #[_, _]) rfl rfl (fun b2 w1 hb2 hs hr => ?_)
 have lo2 := nLT (Bel.size hB) hr
 replace hB := hB.tr0 hs
 clear hs
 clear hr
 refine wl_bx (v := .agg #[_]) (cs := #[_]) rfl rfl (fun b3 w2 hb3 hs hr => ?_)
 have or_b2_b3 : b2 < b3 := nLL hb2.lt hr
 have lo3 := nLT (Bel.size hB) hr
 replace hB := hB.tr0 hs
 replace hb2 := hb2.tr0 hs
 clear hs
 clear hr
 refine wl_al (cs := #[.int .i64 0, .int .i64 0]) ze35_GLoose rfl (fun b4 w3 hb4 hs hr => ?_)
 have or_b2_b4 : b2 < b4 := nLL hb2.lt hr
 have or_b3_b4 : b3 < b4 := nLL hb3.lt hr
 have lo4 := nLT (Bel.size hB) hr
 replace hB := hB.tr0 hs
 replace hb2 := hb2.tr0 hs
 replace hb3 := hb3.tr0 hs
 clear hs
 clear hr
 refine x_nil (e_S (c_seq (c_seq (c_region (wl (r_ldS U25 rfl rfl hb2.range0 sz25) ?_)))))
 refine wl_cl fn27 (hierFault_any A B c d l fs _ hcl hdl (hT.mono hB) (hF.mono hB)) rfl (fun e' w4 hr => ?_)
 obtain ⟨rfl, hs⟩ := hr
 replace hs := Same.of_bel hs
 replace hB := hB.tr0 hs
 replace hb2 := hb2.tr0 hs
 replace hb3 := hb3.tr0 hs
 replace hb4 := hb4.tr0 hs
 clear hs
 refine ⟨_, rfl, ?_⟩
 refine wl_al (cs := #[.int .i64 0, .int .i64 0]) ze35_GLoose rfl (fun b5 w5 hb5 hs hr => ?_)
 have or_b2_b5 : b2 < b5 := nLL hb2.lt hr
 have or_b3_b5 : b3 < b5 := nLL hb3.lt hr
 have or_b4_b5 : b4 < b5 := nLL hb4.lt hr
 have lo5 := nLT (Bel.size hB) hr
 replace hB := hB.tr0 hs
 replace hb2 := hb2.tr0 hs
 replace hb3 := hb3.tr0 hs
 replace hb4 := hb4.tr0 hs
 clear hs
 clear hr
 refine wl_stW hb5 rfl rfl sz35_GLoose rfl oneA (fun w6 hq hs => ?_)
 replace hB := hB.tr1 hs lo5
 replace hb2 := hb2.tr1 hs om
 replace hb3 := hb3.tr1 hs om
 replace hb4 := hb4.tr1 hs om
 clear hs
 replace hb5 := hq
 refine x_nil (e_S (c_seq (c_region (wl (r_fa U35 sz3_GLoose dE rfl rfl rfl) (wl (r_ld1 (v := .int _ _) U3 rfl rfl (hb5.cell rfl)) ?_)))))
 refine wl (r_neq rfl rfl) (x_nil (e_S ?_))
 refine c_ifd rfl (fun c10 => ?_) (fun c10 => ?_)
 ·
  refine c_seq (c_region (wl (r_ldS U35 rfl rfl hb5.range0 sz35_GLoose) ?_))
  refine wl_stW hb4 rfl rfl sz35_GLoose rfl oneA (fun w7 hq hs => ?_)
  replace hB := hB.tr1 hs lo4
  replace hb2 := hb2.tr1 hs om
  replace hb3 := hb3.tr1 hs om
  replace hb5 := hb5.tr1 hs om
  clear hs
  replace hb4 := hq
  refine x_nil (e_S (c_ret (e_Sr (fin1 (.inl rfl) rfl (rr_cell U35 rfl rfl hb4.range0 sz35_GLoose) ?_))))
  exact ⟨ret_fl (gf_hier c10), hB⟩
 have h0 := Decidable.not_not.1 c10
 have hS := sound_of h0
 have hfo := fok_of h0
 refine c_skip (e_S (c_seq (c_region (wl (r_ldS U25 rfl rfl hb2.range0 sz25) (wl (r_ldS U28 rfl rfl hb3.range0 sz28) ?_)))))
 refine wl_cl fn40 (inh_any A B G c d cg l fs gr _ (hT.mono hB) hS.vt hS.le (hF.mono hB) (hG.mono hB) hfo) rfl (fun e' w8 hr => ?_)
 obtain ⟨rfl, hs⟩ := hr
 replace hs := Same.of_bel hs
 replace hB := hB.tr0 hs
 replace hb2 := hb2.tr0 hs
 replace hb3 := hb3.tr0 hs
 replace hb4 := hb4.tr0 hs
 replace hb5 := hb5.tr0 hs
 clear hs
 refine ⟨_, rfl, ?_⟩
 refine wl_stW hb4 rfl rfl sz35_GLoose rfl oneA (fun w9 hq hs => ?_)
 replace hB := hB.tr1 hs lo4
 replace hb2 := hb2.tr1 hs om
 replace hb3 := hb3.tr1 hs om
 replace hb5 := hb5.tr1 hs om
 clear hs
 replace hb4 := hq
 refine x_nil (e_S (c_ret (fin1 (.inl rfl) rfl (rr_cell U35 rfl rfl hb4.range0 sz35_GLoose) ?_)))
 exact ⟨ret_fl (gf_in h0), hB⟩
end Go.Proofs.YtegngekpmpdngaaDoor
