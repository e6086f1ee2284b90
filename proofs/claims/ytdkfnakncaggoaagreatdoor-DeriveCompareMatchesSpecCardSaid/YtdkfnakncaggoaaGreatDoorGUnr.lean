/- What these functions of the program compute, at every world: slices.Index[[]bool,bool], glosswright/graph.fault, glosswright/graph.Loose, glosswright/glosswrightref3.LooseFault. What these functions of the program compute, at every world: glosswright/graph.Unreached, glosswright/glosswrightref3.Unreached. -/
import Derived.Test.YtdkfnakncaggoaaGreatDoorU
import Derived.Test.YtdkfnakncaggoaaGreatDoorName
import Derived.Test.YtdkfnakncaggoaaGreatDoorDfs
namespace Go.Proofs.YtdkfnakncaggoaaGreatDoor
open Go.RowKit
theorem fn67:zQ Tryz.prog 67=true:=by kernel_rfl
theorem Zw:(Tryz.prog.info? 100).map (·.size)=some 2:=by kernel_rfl
theorem Zv:(Tryz.prog.info? 103).map (·.size)=some 2:=by kernel_rfl
theorem I4:(Tryz.prog.info? 22).map (·.size)=some 1:=by kernel_rfl
theorem sz28:(Tryz.prog.info? 28).map (·.size)=some 1:=by kernel_rfl
theorem qw:(Tryz.prog.info? 3).map (·.size)=some 1:=by kernel_rfl
theorem zq:(Tryz.prog.info? 37).map (·.size)=some 2:=by kernel_rfl
theorem vQ:(Tryz.prog.info? 4).map (·.size)=some 1:=by kernel_rfl
theorem sz98:(Tryz.prog.info? 98).map (·.size)=some 1:=by kernel_rfl
theorem Cw:(Tryz.prog.info? 100).map (·.zero)=some (some (.agg #[.int .i64 0,.slice none 0 0])):=by kernel_rfl
theorem Nw:(Tryz.prog.info? 103).map (·.zero)=some (some (.agg #[.int .i64 0,.int .i64 0])):=by kernel_rfl
theorem zY:(Tryz.prog.info? 37).map (·.zero)=some (some (.agg #[.int .i64 0,.int .i64 0])):=by kernel_rfl
theorem E7 (b n:Nat) (mk:Nat→Bool) (w:World) (hb:Blk w b 4 (row n (fun x=> .bool (mk x)))) (hn:n≤1000):Calls Tryz.prog 71 #[.slice (some ⟨b,0,none⟩) n n,.bool false] w fun e w'=>(∃ r,e= .returned (.int .i64 r)∧((r= -1∧∀ i,i < n→mk i=true)∨∃ k:Nat,r=k∧k < n∧mk k=false∧∀ i,i < k→mk i=true))∧Bel w w':=by
 refine enter Tryz.func71 Tryz.ntmps71 rfl (Nat.le_of_ble_eq_true rfl) ?_;have hB:Bel w w:=Below.refl _ _;refine oY ?_;refine q8 [4,5,8,9,10,11,12,13,14,15,16,17,18] (fun m g w'=>∃ k:Nat,k≤n∧m=n - k∧g 8= .int .i64 k∧Bel w w'∧∀ i,i < k→mk i=true) (n) ?_ (fun m g2 w1 hI=>?_)
 ·exact⟨0,Nat.zero_le _,rfl,rfl,hB,fun i hi=>by omega⟩
 obtain⟨k,hk,hm,h8,hB,hA⟩:=hI;refine zJ 8 (.int .i64 k) h8 nu (zn6 ?_);refine zw rfl (fun c9=>?_) (fun c9=>?_)
 ·have hlt:k < n:=by omega
  refine M1 ?_;refine wl (qk (v:= .bool _) U4 rfl rfl ((hb.bel hB).cell (vK hlt))) (wl (r_eqlB U4 rfl rfl) (zZ (e_S ?_)));refine j7 rfl (fun c16=>?_) (fun c16=>?_)
  ·have hmk:mk k=false:=by simpa using c16
   refine jq ?_;exact⟨⟨_,rfl,.inr ⟨k,rfl,hlt,hmk,hA⟩⟩,hB⟩
  refine zn7 ?_;refine xv (n - (k + 1)) om agA ?_
  exact⟨k + 1,by omega,rfl,rfl,hB,fun i hi=>by
    by_cases e:i=k
    · subst e;simpa using c16
    · exact hA i om⟩
 have hke:k=n:=by omega
 subst hke;refine yj ?_;exact⟨⟨_,rfl,.inl ⟨rfl,hA⟩⟩,hB⟩
theorem ov (a b:Int) (w:World):Calls Tryz.prog 67 #[.int .i64 a,.int .i64 b] w fun e w'=>e= .returned (flV (a,b))∧Bel w w':=by
 refine enter Tryz.func67 Tryz.ntmps67 rfl (Nat.le_of_ble_eq_true rfl) ?_;have hB:Bel w w:=Below.refl _ _;refine zn2 ?_;refine qZ (cs:=#[.int .i64 0,.int .i64 0]) zY rfl (fun b4 w1 hb4 hs hr=>?_);have lo4:=nLT (Bel.size hB) hr;replace hB:=hB.tr0 hs;refine zn6 ?_;refine wl (yz (v0:= .int _ _) (v1:= .int _ _) (fun v0 v1=>#[v0,v1]) rfl rfl kR) ?_;refine zk hb4 rfl rfl zq rfl zK (fun w2 hq hs=>?_);replace hB:=hB.tr1 hs lo4;replace hb4:=hq;refine zn3 ?_;refine x5 (.inl rfl) rfl (zy U37 rfl rfl hb4.range0 zq) ?_;exact⟨rfl,hB⟩
theorem loose_any (A B G:Option Addr) (c d cg:Nat) (l:List Ty) (fs:List Ft) (gr:List Nd) (w:World) (hG:NodesIn w G gr):Calls Tryz.prog 65 #[.agg #[.slice A l.length c,.slice B fs.length d],.agg #[.slice G gr.length cg]] w fun e w'=>e= .returned (flV (vw l.length fs.length gr))∧Bel w w':=by
 refine enter Tryz.func65 Tryz.ntmps65 rfl (Nat.le_of_ble_eq_true rfl) ?_;have hB:Bel w w:=Below.refl _ _;refine zn2 ?_;refine qW (v:= .agg #[_,_]) (cs:=#[_,_]) rfl rfl (fun b2 w1 hb2 hs hr=>?_);replace hB:=hB.tr0 hs;refine qW (v:= .agg #[_]) (cs:=#[_]) rfl rfl (fun b3 w2 hb3 hs hr=>?_);replace hB:=hB.tr0 hs;replace hb2:=hb2.tr0 hs;refine qZ (cs:=#[.int .i64 0,.int .i64 0]) zY rfl (fun b4 w3 hb4 hs hr=>?_);have lo4:=nLT (Bel.size hB) hr;replace hB:=hB.tr0 hs;replace hb2:=hb2.tr0 hs;replace hb3:=hb3.tr0 hs;refine zn4 ?_;refine x7 [10,11,12,13,14,15,16,17,18,19] 19 (.bool (decide (gr.length=0∨60 < gr.length))) nu ?_ (fun gq=>?_)
 ·refine zn6 ?_;refine zj 14 rfl (fun g14=>?_) (fun g14=>?_)
  ·refine zn5 ?_;refine zZ (e_R ⟨rfl,agA,?_⟩);exact clA
  refine zn9 ?_;refine zZ (e_R ⟨rfl,agA,?_⟩);exact clA
 refine e_S ?_;refine zw rfl (fun c19=>?_) (fun c19=>?_)
 ·refine zn2 ?_;refine zV fn67 (ov _ _ _) rfl (fun e' w4 hr=>?_);obtain⟨rfl,hs⟩:=hr;replace hs:=sB hs;replace hB:=hB.tr0 hs;replace hb4:=hb4.tr0 hs;refine⟨_,rfl,?_⟩;refine zk hb4 rfl rfl zq rfl zK (fun w5 hq hs=>?_);replace hB:=hB.tr1 hs lo4;replace hb4:=hq;refine zn4 ?_;refine x5 (.inl rfl) rfl (zy U37 rfl rfl hb4.range0 zq) ?_;exact⟨qQ (by simp only [vw,if_pos c19]),hB⟩
 have hR:=Lib.hid (show vw l.length fs.length gr=qy (gV l.length fs.length gr) 0 (gr.length - 0) by simp only [vw,if_neg c19,Nat.sub_zero]);refine yj ?_;refine q8 [5,6,7,9,24,25,26,27,28,29,30,31,32,33,34,35,36,37,38,39,40,41,42,43,44,45,46,47,48,49,50,51,52,53,54,55,56,57,58,59,60,61,62,63,64,65,66,67,68,69,70,71,72,73,74,75,76,77,78,79,80,81,82,83,84] (fun m g w'=>∃ k:Nat,k≤gr.length∧m=gr.length - k∧g 24= .int .i64 k∧Bel w w'∧Blk w' b2 25 #[.slice A l.length c,.slice B fs.length d]∧Blk w' b3 30 #[.slice G gr.length cg]∧Blk w' b4 37 #[.int .i64 0,.int .i64 0]∧vw l.length fs.length gr=qy (gV l.length fs.length gr) k (gr.length - k)) (gr.length) ?_ (fun m g4 w6 hI=>?_)
 ·exact⟨0,Nat.zero_le _,rfl,rfl,hB,hb2,hb3,hb4,hR.out⟩
 obtain⟨k,hk,hm,hk0,hB,hb2,hb3,hb4,hR'⟩:=hI;refine zJ 24 (.int .i64 k) hk0 nu (zn6 ?_);refine zw rfl (fun c25=>?_) (fun c25=>?_)
 ·have hlt:k < gr.length:=by omega
  obtain⟨nb,no,LA,lc,rfl,hnb,hnr,hln⟩:=hG.at_ hB hlt;have hmx:=hln.1;unfold yJ at hmx;refine zn8 ?_;refine wl (zW YK rfl rfl hnr Zw) ?_;refine qZ (cs:=#[.int .i64 0,.slice none 0 0]) Cw rfl (fun b6 w7 hb6 hs hr=>?_);have:=nLL hb2.lt hr;have:=nLL hb3.lt hr;have:=nLL hb4.lt hr;have lo6:=nLT (Bel.size hB) hr;replace hB:=hB.tr0 hs;replace hb2:=hb2.tr0 hs;replace hb3:=hb3.tr0 hs;replace hb4:=hb4.tr0 hs;refine waI rfl ?_;refine zk hb6 rfl rfl Zw rfl zK (fun w8 hq hs=>?_);replace hB:=hB.tr1 hs lo6;replace hb2:=hb2.tr1 hs om;replace hb3:=hb3.tr1 hs om;replace hb4:=hb4.tr1 hs om;replace hb6:=hq;refine zn4 ?_;refine x7 [29,30,31,32,33,34,35,36,37,38,39] 39 (.bool (decide ((gr[k]'hlt).ty < 0∨(l.length:Int)≤(gr[k]'hlt).ty))) nu ?_ (fun gq=>?_)
  ·refine zn5 ?_;refine zj 32 rfl (fun g32=>?_) (fun g32=>?_)
   ·refine zn7 ?_;refine zZ (e_R ⟨rfl,agA,?_⟩);exact clA
   refine jq ?_;refine zZ (e_R ⟨rfl,agA,?_⟩);exact clA
  refine e_S ?_;refine zw rfl (fun c39=>?_) (fun c39=>?_)
  ·have hty:=Yj (nf:=fs.length) hlt c39;refine zn3 ?_;refine zV fn67 (ov _ _ _) rfl (fun e' w9 hr=>?_);obtain⟨rfl,hs⟩:=hr;replace hs:=sB hs;replace hB:=hB.tr0 hs;replace hb4:=hb4.tr0 hs;refine⟨_,rfl,?_⟩;refine zk hb4 rfl rfl zq rfl zK (fun w10 hq hs=>?_);replace hB:=hB.tr1 hs lo4;replace hb4:=hq;refine zn9 ?_;refine x5 (.inl rfl) rfl (zy U37 rfl rfl hb4.range0 zq) ?_;exact⟨qQ (hR'.trans (qV (c:=3) om hty dE)),hB⟩
  refine M1 ?_;refine q8 [7,9,45,46,47,48,49,50,51,52,53,54,55,56,57,58,59,60,61,62,63,64,65,66,67,68,69,70,71,72,73,74,75,76,77,78,79,80,81,82,83] (fun m g w'=>∃ (j:Nat) (last:Int),j≤(gr[k]'hlt).ln.length∧m=(gr[k]'hlt).ln.length - j∧g 45= .int .i64 j∧g 7= .int .i64 last∧Bel w w'∧Blk w' b2 25 #[.slice A l.length c,.slice B fs.length d]∧Blk w' b3 30 #[.slice (some ⟨nb,no,none⟩) gr.length cg]∧Blk w' b4 37 #[.int .i64 0,.int .i64 0]∧Blk w' b6 100 #[.int .i64 (gr[k]'hlt).ty,.slice LA (gr[k]'hlt).ln.length lc]∧gV l.length fs.length gr k=yZ fs.length gr.length last ((gr[k]'hlt).ln.drop j)) ((gr[k]'hlt).ln.length) ?_ (fun m g10 w11 hI=>?_)
  ·exact⟨0,-1,Nat.zero_le _,rfl,rfl,rfl,hB,hb2,hb3,hb4,hb6,Yk hlt c39⟩
  obtain⟨j,last,hj,hmj,h45,h7,hB,hb2,hb3,hb4,hb6,hP⟩:=hI;refine zJ 45 (.int .i64 j) h45 nu (zJ 7 (.int .i64 last) h7 nu (zn6 ?_));refine zw rfl (fun c46=>?_) (fun c46=>?_)
  ·have hlj:j < (gr[k]'hlt).ln.length:=by omega
   obtain⟨lb,lof,rfl,hlb,hlr⟩:=hln.at_ hB hlj;refine zn7 ?_;refine wl (zW X3 rfl rfl hlr Zv) ?_;refine xV (cs:=#[.int .i64 0,.int .i64 0]) Nw rfl (fun _=>rfl) (fun _=>rfl) Zv rfl zK (fun b9 w13 hb9 hs hr=>?_);replace hB:=hB.tr0 hs;replace hb2:=hb2.tr0 hs;replace hb3:=hb3.tr0 hs;replace hb4:=hb4.tr0 hs;replace hb6:=hb6.tr0 hs;refine zn4 ?_;refine x7 [49,50,51,52,53,54,55,56,57,58,59,60,61,62,63,64,65,66,67,68,69,70,71,72] 72 (.bool (decide (((gr[k]'hlt).ln[j]'hlj).1 < 0∨(fs.length:Int)≤((gr[k]'hlt).ln[j]'hlj).1∨((gr[k]'hlt).ln[j]'hlj).2 < 0∨(gr.length:Int)≤((gr[k]'hlt).ln[j]'hlj).2))) nu ?_ (fun gq=>?_)
   ·refine zn5 ?_;refine zj 52 rfl (fun g52=>?_) (fun g52=>?_)
    ·refine zn20 ?_;refine zZ (e_R ⟨rfl,agA,?_⟩);exact clA
    refine oY ?_;refine zj 60 rfl (fun g60=>?_) (fun g60=>?_)
    ·refine yj ?_;refine zZ (e_R ⟨rfl,agA,?_⟩);exact clA
    refine zn8 ?_;refine zj 65 rfl (fun g65=>?_) (fun g65=>?_)
    ·refine zn7 ?_;refine zZ (e_R ⟨rfl,agA,?_⟩);exact clA
    refine jq ?_;refine zZ (e_R ⟨rfl,agA,?_⟩);exact clA
   refine e_S ?_;refine zw rfl (fun c72=>?_) (fun c72=>?_)
   ·have hty:=hP.trans (ln_bad hlj (show uK _ _ _ from c72));refine zn3 ?_;refine zV fn67 (ov _ _ _) rfl (fun e' w14 hr=>?_);obtain⟨rfl,hs⟩:=hr;replace hs:=sB hs;replace hB:=hB.tr0 hs;replace hb4:=hb4.tr0 hs;refine⟨_,rfl,?_⟩;refine zk hb4 rfl rfl zq rfl zK (fun w15 hq hs=>?_);replace hB:=hB.tr1 hs lo4;replace hb4:=hq;refine jq ?_;refine x5 (.inl rfl) rfl (zy U37 rfl rfl hb4.range0 zq) ?_;exact⟨qQ (hR'.trans (qV (c:=3) om hty dE)),hB⟩
   refine vx ?_;refine zw rfl (fun c78=>?_) (fun c78=>?_)
   ·have hty:=hP.trans (ln_ord hlj (show ¬uK _ _ _ from c72) c78);refine zn3 ?_;refine zV fn67 (ov _ _ _) rfl (fun e' w16 hr=>?_);obtain⟨rfl,hs⟩:=hr;replace hs:=sB hs;replace hB:=hB.tr0 hs;replace hb4:=hb4.tr0 hs;refine⟨_,rfl,?_⟩;refine zk hb4 rfl rfl zq rfl zK (fun w17 hq hs=>?_);replace hB:=hB.tr1 hs lo4;replace hb4:=hq;refine jq ?_;refine x5 (.inl rfl) rfl (zy U37 rfl rfl hb4.range0 zq) ?_;exact⟨qQ (hR'.trans (qV (c:=13) om hty dE)),hB⟩
   have hP':=hP.trans (Dw hlj (show ¬uK _ _ _ from c72) c78);refine jq ?_;refine xv ((gr[k]'hlt).ln.length - (j + 1)) om agA ?_;exact⟨j + 1,_,by omega,rfl,rfl,rfl,hB,hb2,hb3,hb4,hb6,hP'⟩
  have hty0:=hP.trans (ln_end om);refine yq ?_;refine xv (gr.length - (k + 1)) om agA ?_;exact⟨k + 1,by omega,rfl,rfl,hB,hb2,hb3,hb4,hR'.trans (yx hlt hty0)⟩
 refine zn7 ?_;refine wl (uw (vs:=#[]) (cs:=#[.int .i64 0,.int .i64 0]) (by simp) kR) ?_;refine zk hb4 rfl rfl zq rfl zK (fun w18 hq hs=>?_);replace hB:=hB.tr1 hs lo4;replace hb4:=hq;refine zn3 ?_;refine x5 (.inl rfl) rfl (zy U37 rfl rfl hb4.range0 zq) ?_;exact⟨qQ (hR'.trans (yK om)),hB⟩
theorem RX (A B G:Option Addr) (c d cg:Nat) (l:List Ty) (fs:List Ft) (gr:List Nd) (w:World) (hG:NodesIn w G gr):Calls Tryz.prog 45 #[.agg #[.slice A l.length c,.slice B fs.length d],.agg #[.slice G gr.length cg]] w fun e w'=>e= .returned (flV (vw l.length fs.length gr))∧Bel w w':=by
 refine enter Tryz.func45 Tryz.ntmps45 rfl (Nat.le_of_ble_eq_true rfl) ?_;have hB:Bel w w:=Below.refl _ _;refine zn2 ?_;refine qW (v:= .agg #[_,_]) (cs:=#[_,_]) rfl rfl (fun b2 w1 hb2 hs hr=>?_);replace hB:=hB.tr0 hs;refine qW (v:= .agg #[_]) (cs:=#[_]) rfl rfl (fun b3 w2 hb3 hs hr=>?_);replace hB:=hB.tr0 hs;replace hb2:=hb2.tr0 hs;refine qZ (cs:=#[.int .i64 0,.int .i64 0]) zY rfl (fun b4 w3 hb4 hs hr=>?_);have lo4:=nLT (Bel.size hB) hr;replace hB:=hB.tr0 hs;replace hb2:=hb2.tr0 hs;replace hb3:=hb3.tr0 hs;refine zn4 ?_;refine x7 [9,10,11,12,13,14,15,16,17,18] 18 (.bool (decide (gr.length=0∨60 < gr.length))) nu ?_ (fun gq=>?_)
 ·refine zn6 ?_;refine zj 13 rfl (fun g13=>?_) (fun g13=>?_)
  ·refine zn5 ?_;refine zZ (e_R ⟨rfl,agA,?_⟩);exact clA
  refine zn9 ?_;refine zZ (e_R ⟨rfl,agA,?_⟩);exact clA
 refine e_S ?_;refine zw rfl (fun c18=>?_) (fun c18=>?_)
 ·refine zn2 ?_;refine wl (yz (v0:= .int _ _) (v1:= .int _ _) (fun v0 v1=>#[v0,v1]) rfl rfl kR) ?_;refine zk hb4 rfl rfl zq rfl zK (fun w4 hq hs=>?_);replace hB:=hB.tr1 hs lo4;replace hb4:=hq;refine zn4 ?_;refine x5 (.inl rfl) rfl (zy U37 rfl rfl hb4.range0 zq) ?_;exact⟨qQ (by simp only [vw,if_pos c18]),hB⟩
 have hR:=Lib.hid (show vw l.length fs.length gr=qy (gV l.length fs.length gr) 0 (gr.length - 0) by simp only [vw,if_neg c18,Nat.sub_zero]);refine yj ?_;refine q8 [5,6,7,8,23,24,25,26,27,28,29,30,31,32,33,34,35,36,37,38,39,40,41,42,43,44,45,46,47,48,49,50,51,52,53,54,55,56,57,58,59,60,61,62,63,64,65,66,67,68,69,70,71,72,73,74,75,76,77,78,79,80,81,82,83,84,85,86,87,88,89,90,91,92] (fun m g w'=>∃ k:Nat,k≤gr.length∧m=gr.length - k∧g 23= .int .i64 k∧Bel w w'∧Blk w' b2 25 #[.slice A l.length c,.slice B fs.length d]∧Blk w' b3 30 #[.slice G gr.length cg]∧Blk w' b4 37 #[.int .i64 0,.int .i64 0]∧vw l.length fs.length gr=qy (gV l.length fs.length gr) k (gr.length - k)) (gr.length) ?_ (fun m g4 w5 hI=>?_)
 ·exact⟨0,Nat.zero_le _,rfl,rfl,hB,hb2,hb3,hb4,hR.out⟩
 obtain⟨k,hk,hm,hk0,hB,hb2,hb3,hb4,hR'⟩:=hI;refine zJ 23 (.int .i64 k) hk0 nu (zn6 ?_);refine zw rfl (fun c24=>?_) (fun c24=>?_)
 ·have hlt:k < gr.length:=by omega
  obtain⟨nb,no,LA,lc,rfl,hnb,hnr,hln⟩:=hG.at_ hB hlt;have hmx:=hln.1;unfold yJ at hmx;refine zn8 ?_;refine wl (zW YK rfl rfl hnr Zw) ?_;refine qZ (cs:=#[.int .i64 0,.slice none 0 0]) Cw rfl (fun b6 w6 hb6 hs hr=>?_);have:=nLL hb2.lt hr;have:=nLL hb3.lt hr;have:=nLL hb4.lt hr;have lo6:=nLT (Bel.size hB) hr;replace hB:=hB.tr0 hs;replace hb2:=hb2.tr0 hs;replace hb3:=hb3.tr0 hs;replace hb4:=hb4.tr0 hs;refine waI rfl ?_;refine zk hb6 rfl rfl Zw rfl zK (fun w7 hq hs=>?_);replace hB:=hB.tr1 hs lo6;replace hb2:=hb2.tr1 hs om;replace hb3:=hb3.tr1 hs om;replace hb4:=hb4.tr1 hs om;replace hb6:=hq;refine zn4 ?_;refine x7 [28,29,30,31,32,33,34,35,36,37,38] 38 (.bool (decide ((gr[k]'hlt).ty < 0∨(l.length:Int)≤(gr[k]'hlt).ty))) nu ?_ (fun gq=>?_)
  ·refine zn5 ?_;refine zj 31 rfl (fun g31=>?_) (fun g31=>?_)
   ·refine zn7 ?_;refine zZ (e_R ⟨rfl,agA,?_⟩);exact clA
   refine jq ?_;refine zZ (e_R ⟨rfl,agA,?_⟩);exact clA
  refine e_S ?_;refine zw rfl (fun c38=>?_) (fun c38=>?_)
  ·have hty:=Yj (nf:=fs.length) hlt c38;refine zn3 ?_;refine wl (yz (v0:= .int _ _) (v1:= .int _ _) (fun v0 v1=>#[v0,v1]) rfl rfl kR) ?_;refine zk hb4 rfl rfl zq rfl zK (fun w8 hq hs=>?_);replace hB:=hB.tr1 hs lo4;replace hb4:=hq;refine zn9 ?_;refine x5 (.inl rfl) rfl (zy U37 rfl rfl hb4.range0 zq) ?_;exact⟨qQ (hR'.trans (qV (c:=3) om hty dE)),hB⟩
  refine vx ?_;refine q8 [7,8,44,45,46,47,48,49,50,51,52,53,54,55,56,57,58,59,60,61,62,63,64,65,66,67,68,69,70,71,72,73,74,75,76,77,78,79,80,81,82,83,84,85,86,87,88,89,90,91] (fun m g w'=>∃ (j:Nat) (last:Int),j≤(gr[k]'hlt).ln.length∧m=(gr[k]'hlt).ln.length - j∧g 44= .int .i64 j∧Bel w w'∧Blk w' b2 25 #[.slice A l.length c,.slice B fs.length d]∧Blk w' b3 30 #[.slice (some ⟨nb,no,none⟩) gr.length cg]∧Blk w' b4 37 #[.int .i64 0,.int .i64 0]∧Blk w' b6 100 #[.int .i64 (gr[k]'hlt).ty,.slice LA (gr[k]'hlt).ln.length lc]∧(j=0→last= -1)∧(∀ h:0 < j∧j - 1 < (gr[k]'hlt).ln.length,last=((gr[k]'hlt).ln[j - 1]'h.2).1)∧gV l.length fs.length gr k=yZ fs.length gr.length last ((gr[k]'hlt).ln.drop j)) ((gr[k]'hlt).ln.length) ?_ (fun m g9 w9 hI=>?_)
  ·exact⟨0,-1,Nat.zero_le _,rfl,rfl,hB,hb2,hb3,hb4,hb6,fun _=>rfl,fun h=>by omega,Yk hlt c38⟩
  obtain⟨j,last,hj,hmj,h44,hB,hb2,hb3,hb4,hb6,hl0,hl1,hP⟩:=hI;refine zJ 44 (.int .i64 j) h44 nu (zn6 ?_);refine zw rfl (fun c45=>?_) (fun c45=>?_)
  ·have hlj:j < (gr[k]'hlt).ln.length:=by omega
   have hln':=hln;obtain⟨lb,lof,rfl,hlb,hlr⟩:=hln.at_ hB hlj;have hpd:∀ h:j - 1 < (gr[k]'hlt).ln.length,w.rangeAt lb (lof + (j - 1) * 2) [.int .i64 ((gr[k]'hlt).ln[j - 1]'h).1,.int .i64 ((gr[k]'hlt).ln[j - 1]'h).2]:=fun h=>by
     obtain⟨pb,po,he,hpb,hpr⟩:=hln'.at_ (Below.refl _ _:Bel w w) h;cases he;exact hpr
   refine zn8 ?_;refine wl (zW X3 rfl rfl hlr Zv) ?_;refine qZ (cs:=#[.int .i64 0,.int .i64 0]) Nw rfl (fun b8 w10 hb8 hs hr=>?_);have:=nLL hb2.lt hr;have:=nLL hb3.lt hr;have:=nLL hb4.lt hr;have:=nLL hb6.lt hr;have lo8:=nLT (Bel.size hB) hr;replace hB:=hB.tr0 hs;replace hb2:=hb2.tr0 hs;replace hb3:=hb3.tr0 hs;replace hb4:=hb4.tr0 hs;replace hb6:=hb6.tr0 hs;refine waI rfl ?_;refine zk hb8 rfl rfl Zv rfl zK (fun w11 hq hs=>?_);replace hB:=hB.tr1 hs lo8;replace hb2:=hb2.tr1 hs om;replace hb3:=hb3.tr1 hs om;replace hb4:=hb4.tr1 hs om;replace hb6:=hb6.tr1 hs om;replace hb8:=hq;refine zn4 ?_;refine x7 [49,50,51,52,53,54,55,56,57,58,59,60,61,62,63,64,65,66,67,68,69,70,71,72] 72 (.bool (decide (((gr[k]'hlt).ln[j]'hlj).1 < 0∨(fs.length:Int)≤((gr[k]'hlt).ln[j]'hlj).1∨((gr[k]'hlt).ln[j]'hlj).2 < 0∨(gr.length:Int)≤((gr[k]'hlt).ln[j]'hlj).2))) nu ?_ (fun gq=>?_)
   ·refine zn5 ?_;refine zj 52 rfl (fun g52=>?_) (fun g52=>?_)
    ·refine zn20 ?_;refine zZ (e_R ⟨rfl,agA,?_⟩);exact clA
    refine oY ?_;refine zj 60 rfl (fun g60=>?_) (fun g60=>?_)
    ·refine yj ?_;refine zZ (e_R ⟨rfl,agA,?_⟩);exact clA
    refine zn8 ?_;refine zj 65 rfl (fun g65=>?_) (fun g65=>?_)
    ·refine zn7 ?_;refine zZ (e_R ⟨rfl,agA,?_⟩);exact clA
    refine jq ?_;refine zZ (e_R ⟨rfl,agA,?_⟩);exact clA
   refine e_S ?_;refine zw rfl (fun c72=>?_) (fun c72=>?_)
   ·have hty:=hP.trans (ln_bad hlj (show uK _ _ _ from c72));refine zn3 ?_;refine wl (yz (v0:= .int _ _) (v1:= .int _ _) (fun v0 v1=>#[v0,v1]) rfl rfl kR) ?_;refine zk hb4 rfl rfl zq rfl zK (fun w12 hq hs=>?_);replace hB:=hB.tr1 hs lo4;replace hb4:=hq;refine jq ?_;refine x5 (.inl rfl) rfl (zy U37 rfl rfl hb4.range0 zq) ?_;exact⟨qQ (hR'.trans (qV (c:=3) om hty dE)),hB⟩
   refine zn3 ?_;refine Z7 kR kR (fun w13 hs=>?_);replace hB:=hB.tr0 hs;replace hb2:=hb2.tr0 hs;replace hb3:=hb3.tr0 hs;replace hb4:=hb4.tr0 hs;replace hb6:=hb6.tr0 hs;replace hb8:=hb8.tr0 hs;refine zn3 ?_;refine jy 77 rfl (fun g77=>?_) (fun g77=>?_)
   ·refine vj 77 rfl rfl (vX X3 qw dE rfl rfl rfl) (vj 77 rfl rfl (qk (v:= .int _ _) U3 rfl rfl (hb8.cell rfl)) (vj 77 rfl rfl (vX YK sz98 dE rfl rfl rfl) (vj 77 rfl rfl (qk (v:= .slice _ _ _) U98 rfl rfl (hb6.cell rfl)) (vj 77 rfl rfl (x9 (v:= .int _ _) rfl) (vj 77 rfl rfl (jV (c:=((j - 1:Nat):Int)) rfl rfl om om) (vj 77 rfl rfl (yQ (i:=j - 1) U98 Zv rfl rfl om rfl) (vj 77 rfl rfl (vX X3 qw dE rfl rfl rfl) (vj 77 rfl rfl (qk (v:= .int _ _) U3 rfl rfl (hB.cell hlb (hpd om 0 _ rfl))) (vj 77 rfl rfl (r_leq rfl rfl) (zn1 ?_))))))))));refine kJ (e_S ?_);refine zw rfl (fun c88=>?_) (fun c88=>?_)
    ·have hty:=hP.trans (ln_ord hlj (show ¬uK _ _ _ from c72) (by have:=hl1 ⟨by omega,by omega⟩;omega));refine zn3 ?_;refine wl (yz (v0:= .int _ _) (v1:= .int _ _) (fun v0 v1=>#[v0,v1]) rfl rfl kR) ?_;refine zk hb4 rfl rfl zq rfl zK (fun w14 hq hs=>?_);replace hB:=hB.tr1 hs lo4;replace hb4:=hq;refine yj ?_;refine x5 (.inl rfl) rfl (zy U37 rfl rfl hb4.range0 zq) ?_;exact⟨qQ (hR'.trans (qV (c:=13) om hty dE)),hB⟩
    refine zn7 ?_;refine xv ((gr[k]'hlt).ln.length - (j + 1)) om agA ?_;have hnl:¬((gr[k]'hlt).ln[j]'hlj).1≤last:=fun h=>by
      by_cases e:j=0
      · have:=hl0 e;omega
      · have:=hl1 ⟨by omega,by omega⟩
        omega
    exact⟨j + 1,((gr[k]'hlt).ln[j]'hlj).1,by omega,rfl,rfl,hB,hb2,hb3,hb4,hb6,fun h=>by omega,fun h=>rfl,hP.trans (Dw hlj (show ¬uK _ _ _ from c72) hnl)⟩
   refine vx ?_;refine kJ (zn9 ?_);refine xv ((gr[k]'hlt).ln.length - (j + 1)) om agA ?_;have hnl:¬((gr[k]'hlt).ln[j]'hlj).1≤last:=fun h=>by
     by_cases e:j=0
     · have:=hl0 e;omega
     · have:=hl1 ⟨by omega,by omega⟩
       omega
   exact⟨j + 1,((gr[k]'hlt).ln[j]'hlj).1,by omega,rfl,rfl,hB,hb2,hb3,hb4,hb6,fun h=>by omega,fun h=>rfl,hP.trans (Dw hlj (show ¬uK _ _ _ from c72) hnl)⟩
  have hty0:=hP.trans (ln_end om);refine yq ?_;refine xv (gr.length - (k + 1)) om agA ?_;exact⟨k + 1,by omega,rfl,rfl,hB,hb2,hb3,hb4,hR'.trans (yx hlt hty0)⟩
 refine zn7 ?_;refine wl (uw (vs:=#[]) (cs:=#[.int .i64 0,.int .i64 0]) (by simp) kR) ?_;refine zk hb4 rfl rfl zq rfl zK (fun w15 hq hs=>?_);replace hB:=hB.tr1 hs lo4;replace hb4:=hq;refine zn3 ?_;refine x5 (.inl rfl) rfl (zy U37 rfl rfl hb4.range0 zq) ?_;exact⟨qQ (hR'.trans (yK om)),hB⟩
end Go.Proofs.YtdkfnakncaggoaaGreatDoor
namespace Go.Proofs.YtdkfnakncaggoaaGreatDoor
open Go.RowKit
theorem fn71:zQ Tryz.prog 71=true:=by kernel_rfl
theorem in3:(Tryz.prog.info? 3).map (fun i=>(i.zero,i.size,i.bytes))=some (some (.int .i64 0),1,8):=by kernel_rfl
theorem SQ:(Tryz.prog.info? 4).map (fun i=>(i.zero,i.size,i.bytes))=some (some (.bool false),1,1):=by kernel_rfl
theorem jw:(Tryz.prog.info? 3).map (·.zero)=some (some (.int .i64 0)):=by kernel_rfl
set_option maxHeartbeats 1000000 in
theorem unr_any (G:Option Addr) (cg nt nf:Nat) (gr:List Nd) (w:World) (hG:NodesIn w G gr) (hk:GOk nt nf gr):Calls Tryz.prog 68 #[.agg #[.slice G gr.length cg]] w fun e w'=>e= .returned (.int .i64 (Vv gr))∧Bel w w':=by
 have hn6:=hk.le;have hn0:=hk.pos;refine enter Tryz.func68 Tryz.ntmps68 rfl (Nat.le_of_ble_eq_true rfl) ?_;have hB:Bel w w:=Below.refl _ _;refine zn2 ?_;refine qW (v:= .agg #[_]) (cs:=#[_]) rfl rfl (fun b1 w1 hb1 hs hr=>?_);replace hB:=hB.tr0 hs;refine zn8 ?_;refine V2 (m:=gr.length) Y5 SQ rfl rfl rfl om om (fun b11 w2 hb11 hs hr=>?_);have:=nLL hb1.lt hr;have lo11:=nLT (Bel.size hB) hr;replace hB:=hB.tr0 hs;replace hb1:=hb1.tr0 hs;refine zn6 ?_;refine wl (yQ (i:=0) Y5 vQ rfl rfl hn0 rfl) ?_;refine xY (v:= .bool _) hb11 rfl rfl vQ (by rw [row_size];omega) rfl u3 (fun w3 hq hs=>?_);replace hB:=hB.tr1 hs lo11;replace hb1:=hb1.tr1 hs om;replace hb11:=hq;rw [yy (g':=fun x=> .bool (uv (fun _=>false) 0 x)) (fun x _=>by by_cases e:x=0 <;> simp [uv,e])] at hb11;refine zn5 ?_;refine qJ (cs:=#[_]) [(0,.int _ _)] rfl U69 qw jw dE dE kR rfl (fun b14 w4 hb14 hs hr=>?_);have or_b11_b14:b11 < b14:=nLL hb11.lt hr;replace hB:=hB.tr0 hs;replace hb1:=hb1.tr0 hs;replace hb11:=hb11.tr0 hs;refine zn4 ?_;refine q8 [4,5,7,15,16,17,18,19,20,21,22,23,24,25,26,27,28,29,30,31,32,33,34,35,36,37,38,39,40,41,42,43,44,45,46,47,48,49,50,51,52,53,54,55] (fun m g w'=>∃ (st:List Int) (A4:Option Addr) (cap4:Nat) (mk:Nat→Bool),m=2 * ZY gr.length mk + st.length∧2 * ZY gr.length mk + st.length≤200∧g 4= .slice A4 st.length cap4∧Bel w w'∧Blk w' b1 30 #[.slice G gr.length cg]∧Blk w' b11 4 (row gr.length (fun x=> .bool (mk x)))∧Own w' (b11 + 1) 3 1 A4 (st).length cap4 ((st).map (Value.int .i64))∧DS gr mk st gr.length 0) (2 * ZY gr.length (uv (fun _=>false) 0) + 1) ?_ (fun m g4 w5 hI=>?_)
 ·exact⟨[0],_,_,uv (fun _=>false) 0,rfl,by have:=Hv gr.length (uv (fun _=>false) 0);simp only [List.length_cons,List.length_nil];omega,rfl,hB,hb1,hb11,Yq hb14 or_b11_b14 rfl dE,DS.start hn0⟩
 obtain⟨st,A4,cap4,mk,hm,hbd,h4,hB,hb1,hb11,ho,hds⟩:=hI;refine zJ 4 (.slice A4 st.length cap4) h4 nu (zn8 ?_);refine zw rfl (fun c17=>?_) (fun c17=>?_)
 ·obtain⟨st1,z,rfl⟩:=snoc_of (show 0 < st.length by omega);obtain⟨i,rfl,hin,hds1⟩:=hds.pop;have hlen:(st1 ++ [(i:Int)]).length=st1.length + 1:=by simp
  obtain⟨q,rfl,hqb,hql,hqc⟩:=ho.cell (by simp);have hz:w5.cell? ⟨q,0 + st1.length * 1,none⟩=some (.int .i64 (i:Int)):=by
    have:=hqc st1.length (.int .i64 (i:Int)) (by simp)
    simpa using this
  obtain⟨nb,no,LA,lc,rfl,hnb,hnr,hln⟩:=hG.at_ hB hin;have hmx:=hln.1;unfold yJ at hmx;refine zn8 ?_;refine wl (jV (c:=(st1.length:Int)) rfl rfl (by rw [hlen];omega) om) (wl (yQ (i:=st1.length) U69 qw rfl rfl (by rw [hlen];omega) rfl) (wl (qk (v:= .int _ _) U3 rfl rfl hz) (zn8 ?_)));refine wl (jV (c:=(st1.length:Int)) rfl rfl (by rw [hlen];omega) om) (wl (E2 (h:=st1.length) U69 qw rfl rfl (by have:=ho.cap_le;omega)) (zn4 ?_));replace ho:Own w5 (b11 + 1) 3 1 (some ⟨q,0,none⟩) st1.length cap4 (st1.map (Value.int .i64)):=by
    have h:=ho.take (k':=st1.length) om om
    simpa using h
  refine zn4 ?_;refine wl (yQ (i:=i) U28 Zw rfl rfl hin rfl) (zn1 ?_);refine wl (qk (v:= .slice _ _ _) U98 rfl rfl (hnr 1 _ rfl)) (zn5 ?_);refine q8 [4,7,36,37,38,39,40,41,42,43,44,45,46,47,48,49,50,51,52,53,54,55] (fun m g w'=>∃ (j:Nat) (st2:List Int) (A5:Option Addr) (cap5:Nat) (mk2:Nat→Bool),j≤(gr[i]'hin).ln.length∧m=(gr[i]'hin).ln.length - j∧g 36= .int .i64 j∧g 4= .slice A5 st2.length cap5∧2 * ZY gr.length mk2 + st2.length≤2 * ZY gr.length mk + st1.length∧Bel w w'∧Blk w' b1 30 #[.slice (some ⟨nb,no,none⟩) gr.length cg]∧Blk w' b11 4 (row gr.length (fun x=> .bool (mk2 x)))∧Own w' (b11 + 1) 3 1 A5 (st2).length cap5 ((st2).map (Value.int .i64))∧DS gr mk2 st2 i j) ((gr[i]'hin).ln.length) ?_ (fun m g8 w6 hI=>?_)
  ·exact⟨0,st1,_,_,mk,Nat.zero_le _,rfl,rfl,rfl,Nat.le_refl _,hB,hb1,hb11,ho,hds1⟩
  obtain⟨j,st2,A5,cap5,mk2,hj,hmj,h36,h4,hms,hB,hb1,hb11,ho,hds2⟩:=hI;refine zJ 36 (.int .i64 j) h36 nu (zJ 4 (.slice A5 st2.length cap5) h4 nu (zn6 ?_));refine zw rfl (fun c37=>?_) (fun c37=>?_)
  ·have hjl:j < (gr[i]'hin).ln.length:=by omega
   obtain⟨lb,lof,rfl,hlb,hlr⟩:=hln.at_ hB hjl;obtain⟨t,ht,htl⟩:∃ t:Nat,((gr[i]'hin).ln[j]'hjl).2=(t:Int)∧t < gr.length:=by
     have h1:=hk.ln i hin _ (List.getElem_mem hjl);exact⟨(((gr[i]'hin).ln[j]'hjl).2).toNat,by omega,by omega⟩
   refine zn7 ?_;refine wl (zW X3 rfl rfl hlr Zv) ?_;refine xV (cs:=#[.int .i64 0,.int .i64 0]) Nw rfl (fun _=>rfl) (fun _=>rfl) Zv rfl zK (fun b7 w8 hb7 hs hr=>?_);have:=nLL hb11.lt hr;have or_ho_b7:=fun g hg=>nLL (ho.lt g hg).2 hr
   replace hB:=hB.tr0 hs;replace hb1:=hb1.tr0 hs;replace hb11:=hb11.tr0 hs;replace ho:=ho.tr0 hs;refine zn3 ?_;rw [ht] at hb7;refine zn4 ?_;refine wl (yQ (i:=t) Y5 vQ rfl rfl htl rfl) (wl (qk (v:= .bool _) U4 rfl rfl (hb11.cell (vK htl))) (zn3 ?_));refine j7 rfl (fun c45=>?_) (fun c45=>?_)
   ·have hmt:mk2 t=false:=by simpa using c45
    refine zn5 ?_;refine wl (yQ (i:=t) Y5 vQ rfl rfl htl rfl) ?_;refine xY (v:= .bool _) hb11 rfl rfl vQ (by rw [row_size];omega) rfl u3 (fun w9 hq hs=>?_);replace hB:=hB.tr1 hs lo11;replace hb1:=hb1.tr1 hs om;replace ho:=ho.tr1 hs (fun g hg=>by have:=(ho.lt g hg).1;(try have:=or_ho_b11 g hg);(try simp only [aL] at hg);(try simp only [List.mem_singleton] at hg);omega);replace hb7:=hb7.tr1 hs om;replace hb11:=hq;rw [BW] at hb11;refine zn6 ?_;refine qJ (cs:=#[_]) [(0,.int _ _)] rfl U69 qw jw dE dE kR rfl (fun b53 w10 hb53 hs hr=>?_);have:=nLL hb1.lt hr;have:=nLL hb11.lt hr;replace hB:=hB.tr0 hs;replace hb1:=hb1.tr0 hs;replace hb11:=hb11.tr0 hs;replace ho:=ho.tr0 hs;replace hb7:=hb7.tr0 hs;refine o8 U69 in3 rfl dE ho hb53 rfl rfl rfl zK dE om om hb11.lt (fun g54 cap54 w11 ho54 hs hg=>?_);have ne_ho54_b1:g54≠b1:=fun e=>by
     have hl:=hb1.lt;rcases hg with hg | hg
     · have h1:=ho.lt g54 (by rw [hg];exact List.mem_singleton.2 rfl)
       (try have:=or_ho_b1 g54 (by rw [hg];exact List.mem_singleton.2 rfl));omega
     · omega
    have ne_ho54_b11:g54≠b11:=fun e=>by
     have hl:=hb11.lt;rcases hg with hg | hg
     · have h1:=ho.lt g54 (by rw [hg];exact List.mem_singleton.2 rfl)
       (try have:=or_ho_b11 g54 (by rw [hg];exact List.mem_singleton.2 rfl));omega
     · omega
    have ne_ho54_b7:g54≠b7:=fun e=>by
     have hl:=hb7.lt;rcases hg with hg | hg
     · have h1:=ho.lt g54 (by rw [hg];exact List.mem_singleton.2 rfl)
       (try have:=or_ho_b7 g54 (by rw [hg];exact List.mem_singleton.2 rfl));omega
     · omega
    replace hB:=hB.tr hs (fun g hg=>nLT (Nat.le_succ_of_le lo11) (ho.lt g hg).1);replace hb1:=hb1.tr hs (fun hx=>by have:=(ho.lt _ hx).1;(try have:=or_ho_b1 _ hx);omega);replace hb11:=hb11.tr hs (fun hx=>by have:=(ho.lt _ hx).1;(try have:=or_ho_b11 _ hx);omega);refine zn8 ?_;refine xv ((gr[i]'hin).ln.length - (j + 1)) om agA ?_
    first
      | exact⟨j + 1,st2 ++ [(t:Int)],_,_,uv mk2 t,by omega,rfl,rfl,Y9 _ _ _ _,by have:=Sw htl hmt;simp only [List.length_append,List.length_cons,List.length_nil];omega,hB,hb1,hb11,ZV ho54,hds2.new hin hjl ht htl⟩
      | exact⟨j + 1,st2,_,_,mk2,by omega,rfl,rfl,rfl,hms,hB,hb1,hb11,ho,hds2.old hin hjl (by rw [ht];exact hmt)⟩
   have hmt:mk2 t=true:=by simpa using c45
   refine zn7 ?_;refine xv ((gr[i]'hin).ln.length - (j + 1)) om agA ?_
   first
     | exact⟨j + 1,st2 ++ [(t:Int)],_,_,uv mk2 t,by omega,rfl,rfl,Y9 _ _ _ _,by have:=Sw htl hmt;simp only [List.length_append,List.length_cons,List.length_nil];omega,hB,hb1,hb11,ZV ho54,hds2.new hin hjl ht htl⟩
     | exact⟨j + 1,st2,_,_,mk2,by omega,rfl,rfl,rfl,hms,hB,hb1,hb11,ho,hds2.old hin hjl (by rw [ht];exact hmt)⟩
  have hjx:j=(gr[i]'hin).ln.length:=by omega
  refine zn5 ?_;refine xv (2 * ZY gr.length mk2 + st2.length) om agA ?_;exact⟨st2,_,_,mk2,rfl,by omega,rfl,hB,hb1,hb11,ho,hds2.done hin hjx⟩
 have hst:st= []:=List.length_eq_zero_iff.1 om;subst hst;have hall:=hds.end_;refine zn8 ?_;refine zV fn71 (E7 b11 gr.length mk _ hb11 om) rfl (fun e' w12 hr=>?_);obtain⟨⟨r,rfl,hr⟩,hs⟩:=hr;replace hs:=sB hs;replace hB:=hB.tr0 hs;refine⟨_,rfl,?_⟩;refine zn5 ?_;have hun:r=Vv gr:=by
   rcases hr with ⟨h1,h2⟩ | ⟨k,h1,h2,h3,h4⟩
   · rw [h1];exact hall.yes h2
   · rw [h1];exact hall.no h2 h3 h4
 exact⟨uQ hun.symm,hB⟩
set_option maxHeartbeats 1000000 in
theorem runr_any (G:Option Addr) (cg nt nf:Nat) (gr:List Nd) (w:World) (hG:NodesIn w G gr) (hk:GOk nt nf gr):Calls Tryz.prog 47 #[.agg #[.slice G gr.length cg]] w fun e w'=>e= .returned (.int .i64 (Vv gr))∧Bel w w':=by
 have hn6:=hk.le;have hn0:=hk.pos;have hrg:=gok_rng hk;refine enter Tryz.func47 Tryz.ntmps47 rfl (Nat.le_of_ble_eq_true rfl) ?_;have hB:Bel w w:=Below.refl _ _;refine zn2 ?_;refine qW (v:= .agg #[_]) (cs:=#[_]) rfl rfl (fun b1 w1 hb1 hs hr=>?_);replace hB:=hB.tr0 hs;refine zn8 ?_;refine V2 (m:=gr.length) Y5 SQ rfl rfl rfl om om (fun b11 w2 hb11 hs hr=>?_);have:=nLL hb1.lt hr;have lo11:=nLT (Bel.size hB) hr;replace hB:=hB.tr0 hs;replace hb1:=hb1.tr0 hs;refine zn6 ?_;refine wl (yQ (i:=0) Y5 vQ rfl rfl hn0 rfl) ?_;refine xY (v:= .bool _) hb11 rfl rfl vQ (by rw [row_size];omega) rfl u3 (fun w3 hq hs=>?_);replace hB:=hB.tr1 hs lo11;replace hb1:=hb1.tr1 hs om;replace hb11:=hq;rw [yy (g':=fun x=> .bool (uv (fun _=>false) 0 x)) (fun x _=>by by_cases e:x=0 <;> simp [uv,e])] at hb11;refine yj ?_;refine q8 [4,5,7,17,18,19,20,21,22,23,24,25,26,27,28,29,30,31,32,33,34,35,36,37,38,39,40,41,42,43,44] (fun m g w'=>∃ (p:Nat) (mk:Nat→Bool),p≤gr.length∧m=gr.length - p∧g 17= .int .i64 p∧Bel w w'∧Blk w' b1 30 #[.slice G gr.length cg]∧Blk w' b11 4 (row gr.length (fun x=> .bool (mk x)))∧PS gr mk p) (gr.length) ?_ (fun m g4 w4 hI=>?_)
 ·exact⟨0,uv (fun _=>false) 0,Nat.zero_le _,rfl,rfl,hB,hb1,hb11,PS.start hn0⟩
 obtain⟨p,mk,hp,hm,h17,hB,hb1,hb11,hps⟩:=hI;refine zJ 17 (.int .i64 p) h17 nu (zn6 ?_);refine zw rfl (fun c18=>?_) (fun c18=>?_)
 ·refine jq ?_;refine q8 [4,5,7,22,23,24,25,26,27,28,29,30,31,32,33,34,35,36,37,38,39,40,41,42,43] (fun m g w'=>∃ (i:Nat) (mk2:Nat→Bool),i≤gr.length∧m=gr.length - i∧g 22= .int .i64 i∧Bel w w'∧Blk w' b1 30 #[.slice G gr.length cg]∧Blk w' b11 4 (row gr.length (fun x=> .bool (mk2 x)))∧PP gr mk mk2 i 0) (gr.length) ?_ (fun m g6 w5 hI=>?_)
  ·exact⟨0,mk,Nat.zero_le _,rfl,rfl,hB,hb1,hb11,PP.start hps⟩
  obtain⟨i,mk2,hi,hmi,h22,hB,hb1,hb11,hpp⟩:=hI;refine zJ 22 (.int .i64 i) h22 nu (zn6 ?_);refine zw rfl (fun c23=>?_) (fun c23=>?_)
  ·have hin:i < gr.length:=by omega
   obtain⟨nb,no,LA,lc,rfl,hnb,hnr,hln⟩:=hG.at_ hB hin;have hmx:=hln.1;unfold yJ at hmx;refine zn8 ?_;refine wl (zW YK rfl rfl hnr Zw) ?_;refine qZ (cs:=#[.int .i64 0,.slice none 0 0]) Cw rfl (fun b5 w6 hb5 hs hr=>?_);have:=nLL hb1.lt hr;have:=nLL hb11.lt hr;have lo5:=nLT (Bel.size hB) hr;replace hB:=hB.tr0 hs;replace hb1:=hb1.tr0 hs;replace hb11:=hb11.tr0 hs;refine waI rfl ?_;refine zk hb5 rfl rfl Zw rfl zK (fun w7 hq hs=>?_);replace hB:=hB.tr1 hs lo5;replace hb1:=hb1.tr1 hs om;replace hb11:=hb11.tr1 hs om;replace hb5:=hq;refine vx ?_;refine q8 [7,30,31,32,33,34,35,36,37,38,39,40,41,42] (fun m g w'=>∃ (j:Nat) (mk3:Nat→Bool),j≤(gr[i]'hin).ln.length∧m=(gr[i]'hin).ln.length - j∧g 30= .int .i64 j∧Bel w w'∧Blk w' b1 30 #[.slice (some ⟨nb,no,none⟩) gr.length cg]∧Blk w' b11 4 (row gr.length (fun x=> .bool (mk3 x)))∧Blk w' b5 100 #[.int .i64 (gr[i]'hin).ty,.slice LA (gr[i]'hin).ln.length lc]∧PP gr mk mk3 i j) ((gr[i]'hin).ln.length) ?_ (fun m g9 w8 hI=>?_)
   ·exact⟨0,mk2,Nat.zero_le _,rfl,rfl,hB,hb1,hb11,hb5,hpp⟩
   obtain⟨j,mk3,hj,hmj,h30,hB,hb1,hb11,hb5,hpp3⟩:=hI;refine zJ 30 (.int .i64 j) h30 nu (zn6 ?_);refine zw rfl (fun c31=>?_) (fun c31=>?_)
   ·have hjl:j < (gr[i]'hin).ln.length:=by omega
    obtain⟨lb,lof,rfl,hlb,hlr⟩:=hln.at_ hB hjl;obtain⟨t,ht,htl⟩:∃ t:Nat,((gr[i]'hin).ln[j]'hjl).2=(t:Int)∧t < gr.length:=by
      have h1:=hk.ln i hin _ (List.getElem_mem hjl);exact⟨(((gr[i]'hin).ln[j]'hjl).2).toNat,by omega,by omega⟩
    refine zn7 ?_;refine wl (zW X3 rfl rfl hlr Zv) ?_;refine xV (cs:=#[.int .i64 0,.int .i64 0]) Nw rfl (fun _=>rfl) (fun _=>rfl) Zv rfl zK (fun b7 w10 hb7 hs hr=>?_);replace hB:=hB.tr0 hs;replace hb1:=hb1.tr0 hs;replace hb11:=hb11.tr0 hs;replace hb5:=hb5.tr0 hs;refine zn7 ?_;refine wl (qk (v:= .bool _) U4 rfl rfl (hb11.cell (vK hin))) (zZ (e_S ?_));refine j7 rfl (fun c37=>?_) (fun c37=>?_)
    ·rw [ht] at hb7;refine zn4 ?_;refine wl (yQ (i:=t) Y5 vQ rfl rfl htl rfl) ?_;refine xY (v:= .bool _) hb11 rfl rfl vQ (by rw [row_size];omega) rfl u3 (fun w11 hq hs=>?_);replace hB:=hB.tr1 hs lo11;replace hb1:=hb1.tr1 hs om;replace hb5:=hb5.tr1 hs om;replace hb11:=hq;rw [BW] at hb11;refine zn7 ?_;refine xv ((gr[i]'hin).ln.length - (j + 1)) om agA ?_
     first
       | exact⟨j + 1,uv mk3 t,by omega,rfl,rfl,hB,hb1,hb11,hb5,hpp3.mark hin hjl ht c37⟩
       | exact⟨j + 1,mk3,by omega,rfl,rfl,hB,hb1,hb11,hb5,hpp3.skip c37⟩
    refine zn7 ?_;refine xv ((gr[i]'hin).ln.length - (j + 1)) om agA ?_
    first
      | exact⟨j + 1,uv mk3 t,by omega,rfl,rfl,hB,hb1,hb11,hb5,hpp3.mark hin hjl ht c37⟩
      | exact⟨j + 1,mk3,by omega,rfl,rfl,hB,hb1,hb11,hb5,hpp3.skip c37⟩
   have hjx:j=(gr[i]'hin).ln.length:=by omega
   refine yq ?_;refine xv (gr.length - (i + 1)) om agA ?_;exact⟨i + 1,mk3,by omega,rfl,rfl,hB,hb1,hb11,hpp3.next hin hjx⟩
  have hie:i=gr.length:=by omega
  rw [hie] at hpp;refine yq ?_;refine xv (gr.length - (p + 1)) om agA ?_;exact⟨p + 1,mk2,by omega,rfl,rfl,hB,hb1,hb11,PP.end_ hrg hps hpp⟩
 have hpe:p=gr.length:=by omega
 rw [hpe] at hps;have hall:=hps.end_;refine zn8 ?_;refine zV fn71 (E7 b11 gr.length mk _ hb11 om) rfl (fun e' w12 hr=>?_);obtain⟨⟨r,rfl,hr⟩,hs⟩:=hr;replace hs:=sB hs;replace hB:=hB.tr0 hs;refine⟨_,rfl,?_⟩;refine zn5 ?_;have hun:r=Vv gr:=by
   rcases hr with ⟨h1,h2⟩ | ⟨k,h1,h2,h3,h4⟩
   · rw [h1];exact hall.yes h2
   · rw [h1];exact hall.no h2 h3 h4
 exact⟨uQ hun.symm,hB⟩
end Go.Proofs.YtdkfnakncaggoaaGreatDoor
