/- What these functions of the program compute, at every world: glosswright/glosswrightref3.GrammarFault. What these functions of the program compute, at every world: . Derivation trees as plain values, how a world holds them, and what is wrong with them. No program in sight. Weights and codes of trees, and their order. No program in sight. What these functions of the program compute, at every world: cmp.Or[int], slices.Compare[[]int,int]. What these functions of the program compute, at every world: . What these functions of the program compute, at every world: glosswright/derive.Sum. -/
import Derived.Test.YtdkfnakncaggoaaGreatDoorU
import Derived.Test.YtdkfnakncaggoaaGreatDoorName
import Derived.Test.YtdkfnakncaggoaaGreatDoorGRf
import Derived.Test.YtdkfnakncaggoaaGreatDoorDfs
import Derived.Test.YtdkfnakncaggoaaGreatDoorWRc
import Derived.Test.YtdkfnakncaggoaaGreatDoorNN1
import Derived.Test.YtdkfnakncaggoaaGreatDoorGrm
import Derived.Test.YtdkfnakncaggoaaGreatDoorGEn
namespace Go.Proofs.YtdkfnakncaggoaaGreatDoor
open Go.RowKit
theorem fn30:zQ Tryz.prog 30=true:=by kernel_rfl
theorem fn32:zQ Tryz.prog 32=true:=by kernel_rfl
theorem fn33:zQ Tryz.prog 33=true:=by kernel_rfl
theorem B6:(Tryz.prog.info? 57).map (·.size)=some 9:=by kernel_rfl
theorem X6:(Tryz.prog.info? 60).map (·.size)=some 10:=by kernel_rfl
theorem ze57_GFt:(Tryz.prog.info? 57).map (·.zero)=some (some (.agg #[.string ⟨#[]⟩,.slice none 0 0,.int .i64 0,.int .i64 0,.string ⟨#[]⟩,.int .i64 0,.string ⟨#[]⟩,.slice none 0 0,.slice none 0 0])):=by kernel_rfl
theorem Cq:(Tryz.prog.info? 60).map (·.zero)=some (some (.agg #[.string ⟨#[]⟩,.slice none 0 0,.int .i64 0,.int .i64 0,.int .i64 0,.string ⟨#[]⟩,.int .i64 0,.string ⟨#[]⟩,.slice none 0 0,.slice none 0 0])):=by kernel_rfl
set_option maxHeartbeats 2000000 in
theorem Nj (AT AF AR AX AS:Option Addr) (ct cf cr cx cst:Nat) (l:List Ty) (fs:List Ft) (rs:List Rl) (xs:List Lx) (st:List Nd) (w:World) (hct:l.length≤ct) (hcf:fs.length≤cf) (hcr:rs.length≤cr) (hTy:TypesIn w AT l) (hF:FeatsIn w AF fs) (hRu:RulesIn w AR rs) (hLx:LexesIn w AX xs) (hG:NodesIn w AS st):Calls Tryz.prog 8 #[.agg #[.slice AT l.length ct,.slice AF fs.length cf,.slice AR rs.length cr,.slice AX xs.length cx,.slice AS st.length cst]] w fun e w'=>e= .returned (flV (x8 l fs rs xs st))∧Bel w w':=by
 refine enter Tryz.func8 Tryz.ntmps8 rfl (Nat.le_of_ble_eq_true rfl) ?_;have hB:Bel w w:=Below.refl _ _;refine zn2 ?_;refine qW (v:= .agg #[_,_,_,_,_]) (cs:=#[_,_,_,_,_]) rfl rfl (fun b1 w1 hb1 hs hr=>?_);replace hB:=hB.tr0 hs;refine qZ (cs:=#[.int .i64 0,.int .i64 0]) zY rfl (fun b2 w2 hb2 hs hr=>?_);have lo2:=nLT (Bel.size hB) hr;replace hB:=hB.tr0 hs;replace hb1:=hb1.tr0 hs;refine zn6 ?_;refine wl (zW U25 rfl rfl (hb1.sub (n:=2) (xs:=[_,_]) rfl) Ly) ?_;refine zV fn30 (Nx AT AF ct cf l fs _ hct hcf (hTy.mono hB) (hF.mono hB)) rfl (fun e' w3 hr=>?_);obtain⟨rfl,hs⟩:=hr;replace hs:=sB hs;replace hB:=hB.tr0 hs;replace hb1:=hb1.tr0 hs;replace hb2:=hb2.tr0 hs;refine⟨_,rfl,?_⟩;refine xV (cs:=#[.int .i64 0,.int .i64 0]) zY rfl (fun _=>rfl) (fun _=>rfl) zq rfl zK (fun b3 w5 hb3 hs hr=>?_);replace hB:=hB.tr0 hs;replace hb1:=hb1.tr0 hs;replace hb2:=hb2.tr0 hs;refine zn9 ?_;refine zw rfl (fun c18=>?_) (fun c18=>?_)
 ·refine zn3 ?_;refine zk hb2 rfl rfl zq rfl zK (fun w6 hq hs=>?_);replace hB:=hB.tr1 hs lo2;replace hb2:=hq;refine zn4 ?_;refine x5 (.inl rfl) rfl (zy U37 rfl rfl hb2.range0 zq) ?_;exact⟨qQ (DW c18),hB⟩
 have h0:=Decidable.not_not.1 c18;have hS:=BZ h0;have hfo:=fok_of h0;have h40:=Ez h0;refine yj ?_;refine zw rfl (fun c24=>?_) (fun c24=>?_)
 ·refine zn2 ?_;refine wl (yz (v0:= .int _ _) (v1:= .int _ _) (fun v0 v1=>#[v0,v1]) rfl rfl kR) ?_;refine zk hb2 rfl rfl zq rfl zK (fun w7 hq hs=>?_);replace hB:=hB.tr1 hs lo2;replace hb2:=hq;refine zn4 ?_;refine x5 (.inl rfl) rfl (zy U37 rfl rfl hb2.range0 zq) ?_;exact⟨qQ (Fv h0 om),hB⟩
 have hf3:¬fs.length≤3:=by omega
 refine zn4 ?_;refine x7 [26,27,28,29,30,31,32,33,34,35] 35 (.bool (decide (40 < rs.length∨100 < xs.length))) nu ?_ (fun gq=>?_)
 ·refine zn6 ?_;refine zj 30 rfl (fun g30=>?_) (fun g30=>?_)
  ·refine zn5 ?_;refine zZ (e_R ⟨rfl,agA,?_⟩);exact clA
  refine zn9 ?_;refine zZ (e_R ⟨rfl,agA,?_⟩);exact clA
 refine e_S ?_;refine zw rfl (fun h38=>?_) (fun h38=>?_)
 ·refine zn2 ?_;refine wl (yz (v0:= .int _ _) (v1:= .int _ _) (fun v0 v1=>#[v0,v1]) rfl rfl kR) ?_;refine zk hb2 rfl rfl zq rfl zK (fun w8 hq hs=>?_);replace hB:=hB.tr1 hs lo2;replace hb2:=hq;refine zn4 ?_;refine x5 (.inl rfl) rfl (zy U37 rfl rfl hb2.range0 zq) ?_;exact⟨qQ (DV h0 hf3 h38),hB⟩
 refine yj ?_;refine q8 [4,5,7,8,40,41,42,43,44,45,46,47,48,49,50,51,52,53,54,55,56,57,58,59,60,61,62,63,64,65,66,67,68,69,70,71,72,73,74,75,76,77] (fun m g w'=>∃ k:Nat,k≤rs.length∧m=rs.length - k∧g 40= .int .i64 k∧Bel w w'∧Blk w' b1 32 #[.slice AT l.length ct,.slice AF fs.length cf,.slice AR rs.length cr,.slice AX xs.length cx,.slice AS st.length cst]∧Blk w' b2 37 #[.int .i64 0,.int .i64 0]∧qy (kq l fs rs) 0 rs.length=qy (kq l fs rs) k (rs.length - k)) (rs.length) ?_ (fun m g9 w9 hI=>?_)
 ·exact⟨0,Nat.zero_le _,rfl,rfl,hB,hb1,hb2,rfl⟩
 obtain⟨k,hk,hm,h40s,hB,hb1,hb2,hR'⟩:=hI;refine zJ 40 (.int .i64 k) h40s nu (zn6 ?_);refine zw rfl (fun c41=>?_) (fun c41=>?_)
 ·have hlt:k < rs.length:=by omega
  obtain⟨tb,to,Gk,cgk,Sk,csk,Bk,mk,rfl,htb,htr,hGk,hSk,hTk⟩:=hRu.at_ hB hlt;refine zn8 ?_;refine wl (zW U60 rfl rfl htr X6) ?_;refine qZ (cs:=#[.string ⟨#[]⟩,.slice none 0 0,.int .i64 0,.int .i64 0,.int .i64 0,.string ⟨#[]⟩,.int .i64 0,.string ⟨#[]⟩,.slice none 0 0,.slice none 0 0]) Cq rfl (fun b5 w10 hb5 hs hr=>?_);have:=nLL hb1.lt hr;have:=nLL hb2.lt hr;have lo5:=nLT (Bel.size hB) hr;replace hB:=hB.tr0 hs;replace hb1:=hb1.tr0 hs;replace hb2:=hb2.tr0 hs;refine waI rfl ?_;refine zk hb5 rfl rfl X6 rfl zK (fun w11 hq hs=>?_);replace hB:=hB.tr1 hs lo5;replace hb1:=hb1.tr1 hs om;replace hb2:=hb2.tr1 hs om;replace hb5:=hq;refine zn7 ?_;refine zV Iz (KZ _ _) rfl (fun e' w12 hr=>?_);obtain⟨rfl,hs⟩:=hr;replace hs:=sB hs;replace hB:=hB.tr0 hs;replace hb1:=hb1.tr0 hs;replace hb2:=hb2.tr0 hs;replace hb5:=hb5.tr0 hs;refine⟨_,rfl,?_⟩;refine zn3 ?_;refine j7 rfl (fun c48=>?_) (fun c48=>?_)
  ·have hty:=rn10 (l:=l) (fs:=fs) hlt (by simpa using c48);refine zn3 ?_;refine wl (yz (v0:= .int _ _) (v1:= .int _ _) (fun v0 v1=>#[v0,v1]) rfl rfl kR) ?_;refine zk hb2 rfl rfl zq rfl zK (fun w13 hq hs=>?_);replace hB:=hB.tr1 hs lo2;replace hb2:=hq;refine zn9 ?_;refine x5 (.inl rfl) rfl (zy U37 rfl rfl hb2.range0 zq) ?_;exact⟨qQ (Qx h0 hf3 h38 (hR'.trans (qV om hty (show (10:Int)≠0 by decide))) (show (10:Int)≠0 by decide)),hB⟩
  have hnm:y6 (rs[k]'hlt).name=true:=by simpa using c48
  refine zn8 ?_;refine wl (E2 (h:=k) U26 X6 rfl rfl om) (zn5 ?_);refine q8 [7,56,57,58,59,60,61,62,63,64,65,66,67] (fun m g w'=>∃ j:Nat,j≤k∧m=k - j∧g 56= .int .i64 j∧Bel w w'∧Blk w' b1 32 #[.slice AT l.length ct,.slice AF fs.length cf,.slice (some ⟨tb,to,none⟩) rs.length cr,.slice AX xs.length cx,.slice AS st.length cst]∧Blk w' b2 37 #[.int .i64 0,.int .i64 0]∧Blk w' b5 60 #[.string (rs[k]'hlt).name,.slice Gk (rs[k]'hlt).gr.length cgk,.int .i64 (rs[k]'hlt).kids,.int .i64 (rs[k]'hlt).wt,.int .i64 (rs[k]'hlt).mean.kind,.string (rs[k]'hlt).mean.name,.int .i64 (rs[k]'hlt).mean.index,.string (rs[k]'hlt).mean.type.base,.slice Sk (rs[k]'hlt).mean.type.args.length csk,.slice Bk (rs[k]'hlt).mean.args.length mk]∧j9 ((rs.take j).map (·.name)) (rs[k]'hlt).name=false) (k) ?_ (fun m g14 w14 hI=>?_)
  ·exact⟨0,Nat.zero_le _,rfl,rfl,hB,hb1,hb2,hb5,rfl⟩
  obtain⟨j,hj,hmj,h56,hB,hb1,hb2,hb5,hse⟩:=hI;refine zJ 56 (.int .i64 j) h56 nu (zn6 ?_);refine zw rfl (fun c57=>?_) (fun c57=>?_)
  ·have hjt:j < rs.length:=by omega
   obtain⟨ub,uo,Gj,cgj,Sj,csj,Bj,mj,he,hub,hur,hGj,hSj,hTj⟩:=hRu.at_ hB hjt;cases he;refine zn7 ?_;refine wl (zW U60 rfl rfl hur X6) ?_;refine xV (cs:=#[.string ⟨#[]⟩,.slice none 0 0,.int .i64 0,.int .i64 0,.int .i64 0,.string ⟨#[]⟩,.int .i64 0,.string ⟨#[]⟩,.slice none 0 0,.slice none 0 0]) Cq rfl (fun _=>rfl) (fun _=>rfl) X6 rfl zK (fun b7 w16 hb7 hs hr=>?_);replace hB:=hB.tr0 hs;replace hb1:=hb1.tr0 hs;replace hb2:=hb2.tr0 hs;replace hb5:=hb5.tr0 hs;refine vx ?_;refine zw rfl (fun c64=>?_) (fun c64=>?_)
   ·have hty:=rn7 (l:=l) (fs:=fs) hlt hnm (rseen_yes hlt om c64);refine zn3 ?_;refine wl (yz (v0:= .int _ _) (v1:= .int _ _) (fun v0 v1=>#[v0,v1]) rfl rfl kR) ?_;refine zk hb2 rfl rfl zq rfl zK (fun w17 hq hs=>?_);replace hB:=hB.tr1 hs lo2;replace hb2:=hq;refine jq ?_;refine x5 (.inl rfl) rfl (zy U37 rfl rfl hb2.range0 zq) ?_;exact⟨qQ (Qx h0 hf3 h38 (hR'.trans (qV om hty (show (7:Int)≠0 by decide))) (show (7:Int)≠0 by decide)),hB⟩
   have hse':j9 ((rs.take (j + 1)).map (·.name)) (rs[k]'hlt).name=false:=by rw [uz rs hjt,List.map_append,List.map_cons,List.map_nil,gv,hse];simp [c64]
   refine zn7 ?_;refine xv (k - (j + 1)) om agA ?_;exact⟨j + 1,by omega,rfl,rfl,hB,hb1,hb2,hb5,hse'⟩
  have hsn:j9 ((rs.take k).map (·.name)) (rs[k]'hlt).name=false:=by
    have e:k=j:=by omega
    subst e;exact hse
  refine zn8 ?_;refine wl (zW U25 rfl rfl (hb1.sub (n:=2) (xs:=[_,_]) rfl) Ly) (zn1 ?_);refine zV fn32 (ruler_any AT AF Gk Sk Bk ct cf cgk csk mk l fs (rs[k]'hlt) _ (hTy.mono hB) hS.vt hS.le (hF.mono hB) hfo (hGk.mono hB) (hSk.mono hB) (hTk.mono hB)) rfl (fun e' w18 hr=>?_);obtain⟨rfl,hs⟩:=hr;replace hs:=sB hs;replace hB:=hB.tr0 hs;replace hb1:=hb1.tr0 hs;replace hb2:=hb2.tr0 hs;refine⟨_,rfl,?_⟩;refine zn9 ?_;refine zw rfl (fun c73=>?_) (fun c73=>?_)
  ·have hty:=rnF (l:=l) (fs:=fs) hlt hnm hsn;refine zn4 ?_;refine wl (yz (v0:= .int _ _) (v1:= .int _ _) (fun v0 v1=>#[v0,v1]) rfl rfl kR) ?_;refine zk hb2 rfl rfl zq rfl zK (fun w19 hq hs=>?_);replace hB:=hB.tr1 hs lo2;replace hb2:=hq;refine zn8 ?_;refine x5 (.inl rfl) rfl (zy U37 rfl rfl hb2.range0 zq) ?_;exact⟨qQ (Qx h0 hf3 h38 (hR'.trans (qV om hty c73)) c73),hB⟩
  have hty0:=(rnF (l:=l) (fs:=fs) hlt hnm hsn).trans (Decidable.not_not.1 c73);refine zn7 ?_;refine xv (rs.length - (k + 1)) om agA ?_;exact⟨k + 1,by omega,rfl,rfl,hB,hb1,hb2,hR'.trans (yx hlt hty0)⟩
 have hRz:qy (kq l fs rs) 0 rs.length=(0,0):=hR'.trans (yK om);refine Zk ?_;refine q8 [9,10,11,81,82,83,84,85,86,87,88,89,90,91,92,93,94,95] (fun m g w'=>∃ q:Nat,q≤xs.length∧m=xs.length - q∧g 81= .int .i64 q∧Bel w w'∧Blk w' b1 32 #[.slice AT l.length ct,.slice AF fs.length cf,.slice AR rs.length cr,.slice AX xs.length cx,.slice AS st.length cst]∧Blk w' b2 37 #[.int .i64 0,.int .i64 0]∧qy (YJ l fs xs) 0 xs.length=qy (YJ l fs xs) q (xs.length - q)) (xs.length) ?_ (fun m g24 w20 hI=>?_)
 ·exact⟨0,Nat.zero_le _,rfl,rfl,hB,hb1,hb2,rfl⟩
 obtain⟨q,hq,hm,h81,hB,hb1,hb2,hL'⟩:=hI;refine zJ 81 (.int .i64 q) h81 nu (zn6 ?_);refine zw rfl (fun c82=>?_) (fun c82=>?_)
 ·have hlq:q < xs.length:=by omega
  obtain⟨ub,uo,Gk,cgk,Sk,csk,Bk,mk,rfl,hub,hszq,hur,hGk,hSk,hTk⟩:=hLx.at_ hB hlq;refine zn8 ?_;refine wl (zW U57 rfl rfl hur B6) ?_;refine qZ (cs:=#[.string ⟨#[]⟩,.slice none 0 0,.int .i64 0,.int .i64 0,.string ⟨#[]⟩,.int .i64 0,.string ⟨#[]⟩,.slice none 0 0,.slice none 0 0]) ze57_GFt rfl (fun b10 w21 hb10 hs hr=>?_);have:=nLL hb1.lt hr;have:=nLL hb2.lt hr;have lo10:=nLT (Bel.size hB) hr;replace hB:=hB.tr0 hs;replace hb1:=hb1.tr0 hs;replace hb2:=hb2.tr0 hs;refine waI rfl ?_;refine zk hb10 rfl rfl B6 rfl zK (fun w22 hq hs=>?_);replace hB:=hB.tr1 hs lo10;replace hb1:=hb1.tr1 hs om;replace hb2:=hb2.tr1 hs om;replace hb10:=hq;refine zn5 ?_;refine wl (zW U25 rfl rfl (hb1.sub (n:=2) (xs:=[_,_]) rfl) Ly) (zn1 ?_);refine zV fn33 (lexr_any AT AF Gk Sk Bk ct cf cgk csk mk l fs (xs[q]'hlq) _ (hTy.mono hB) hS.vt hS.le (hF.mono hB) hfo (hGk.mono hB) (hSk.mono hB) (hTk.mono hB) hszq) rfl (fun e' w23 hr=>?_);obtain⟨rfl,hs⟩:=hr;replace hs:=sB hs;replace hB:=hB.tr0 hs;replace hb1:=hb1.tr0 hs;replace hb2:=hb2.tr0 hs;refine⟨_,rfl,?_⟩;refine zn9 ?_;refine zw rfl (fun c91=>?_) (fun c91=>?_)
  ·have hly:=lnF (l:=l) (fs:=fs) hlq;refine zn4 ?_;refine wl (yz (v0:= .int _ _) (v1:= .int _ _) (fun v0 v1=>#[v0,v1]) rfl rfl kR) ?_;refine zk hb2 rfl rfl zq rfl zK (fun w24 hq hs=>?_);replace hB:=hB.tr1 hs lo2;replace hb2:=hq;refine zn8 ?_;refine x5 (.inl rfl) rfl (zy U37 rfl rfl hb2.range0 zq) ?_;exact⟨qQ (Fk h0 hf3 h38 hRz (hL'.trans (qV om hly c91)) c91),hB⟩
  have hly0:=(lnF (l:=l) (fs:=fs) hlq).trans (Decidable.not_not.1 c91);refine zn7 ?_;refine xv (xs.length - (q + 1)) om agA ?_;exact⟨q + 1,by omega,rfl,rfl,hB,hb1,hb2,hL'.trans (yx hlq hly0)⟩
 have hLz:qy (YJ l fs xs) 0 xs.length=(0,0):=hL'.trans (yK om);refine zn9 ?_;refine wl (zW U25 rfl rfl (hb1.sub (n:=2) (xs:=[_,_]) rfl) Ly) (zn1 ?_);refine wl (zW U30 rfl rfl (hb1.sub (n:=1) (xs:=[_]) rfl) EW) ?_;refine zV fn14 (DJ AT AF AS ct cf cst l fs st _ (hTy.mono hB) hS.vt hS.le (hF.mono hB) (hG.mono hB) hfo) rfl (fun e' w25 hr=>?_);obtain⟨rfl,hs⟩:=hr;replace hs:=sB hs;replace hB:=hB.tr0 hs;replace hb1:=hb1.tr0 hs;replace hb2:=hb2.tr0 hs;refine⟨_,rfl,?_⟩;refine xV (cs:=#[.int .i64 0,.int .i64 0]) zY rfl (fun _=>rfl) (fun _=>rfl) zq rfl zK (fun b12 w27 hb12 hs hr=>?_);replace hB:=hB.tr0 hs;replace hb2:=hb2.tr0 hs;refine zn9 ?_;refine zw rfl (fun c103=>?_) (fun c103=>?_)
 ·refine zn4 ?_;refine wl (yz (v0:= .int _ _) (v1:= .int _ _) (fun v0 v1=>#[v0,v1]) rfl rfl kR) ?_;refine zk hb2 rfl rfl zq rfl zK (fun w28 hq hs=>?_);replace hB:=hB.tr1 hs lo2;replace hb2:=hq;refine zn4 ?_;refine x5 (.inl rfl) rfl (zy U37 rfl rfl hb2.range0 zq) ?_;exact⟨qQ (SY h0 hf3 h38 hRz hLz c103),hB⟩
 refine zn4 ?_;refine wl (uw (vs:=#[]) (cs:=#[.int .i64 0,.int .i64 0]) (by simp) kR) ?_;refine zk hb2 rfl rfl zq rfl zK (fun w29 hq hs=>?_);replace hB:=hB.tr1 hs lo2;replace hb2:=hq;refine zn3 ?_;refine x5 (.inl rfl) rfl (zy U37 rfl rfl hb2.range0 zq) ?_;exact⟨qQ (gr_ok h0 hf3 h38 hRz hLz (Decidable.not_not.1 c103)),hB⟩
end Go.Proofs.YtdkfnakncaggoaaGreatDoor
namespace Go.Proofs.YtdkfnakncaggoaaGreatDoor
open Go.RowKit
theorem Rj:gramB smallT smallF smallRs smallXs smallS=true:=by decide +kernel
theorem small_ok:x8 smallT smallF smallR smallX smallS=(0,0):=gram_ok Rj
end Go.Proofs.YtdkfnakncaggoaaGreatDoor
namespace Go.Proofs.YtdkfnakncaggoaaGreatDoor
open Go.RowKit
inductive Dt where
  | mk (rule lex:Int) (kids:List Dt)
def Dt.rule:Dt→Int | .mk r _ _=>r
def Dt.lex:Dt→Int | .mk _ x _=>x
def Dt.kids:Dt→List Dt | .mk _ _ k=>k
theorem Dt.eta (t:Dt):t= .mk t.rule t.lex t.kids:=by cases t;rfl
mutual
inductive TreAt (w:World):Nat→Nat→Dt→Prop
  | mk {b o:Nat} {r l:Int} {ks:List Dt} {A:Option Addr} {c:Nat} (hb:b < w.heap.size) (h:w.rangeAt b o [.int .i64 r,.int .i64 l,.slice A (List.length ks) c]) (hs:TresIn w A ks):TreAt w b o (.mk r l ks)
inductive TresIn (w:World):Option Addr→List Dt→Prop
  | nil {A:Option Addr}:TresIn w A []
  | more {b o:Nat} {ks:List Dt} (hl:ks.length≤yJ) (hb:b < w.heap.size) (h:∀ k (hk:k < ks.length),TreAt w b (o + k * 3) ks[k]):TresIn w (some ⟨b,o,none⟩) ks
end
theorem TreAt.both {w w':World} (hw:Bel w w'):(∀ {b o:Nat} {s:Dt},TreAt w b o s→TreAt w' b o s)∧∀ {A:Option Addr} {l:List Dt},TresIn w A l→TresIn w' A l:=by
  have h1:∀ {b o:Nat} {s:Dt} (h:TreAt w b o s),TreAt w' b o s:=fun h=>
    TreAt.rec (motive_1:=fun b o s _=>TreAt w' b o s) (motive_2:=fun A l _=>TresIn w' A l)
      (fun hb h _ ih=> .mk (nLL hb hw.size) (hw.range hb h) ih) .nil (fun hl hb _ ih=> .more hl (nLL hb hw.size) ih) h
  have h2:∀ {A:Option Addr} {l:List Dt} (h:TresIn w A l),TresIn w' A l:=fun h=>
    TresIn.rec (motive_1:=fun b o s _=>TreAt w' b o s) (motive_2:=fun A l _=>TresIn w' A l)
      (fun hb h _ ih=> .mk (nLL hb hw.size) (hw.range hb h) ih) .nil (fun hl hb _ ih=> .more hl (nLL hb hw.size) ih) h
  exact⟨h1,h2⟩
theorem TresIn.mono {w w':World} {A:Option Addr} {l:List Dt} (h:TresIn w A l) (hw:Bel w w'):TresIn w' A l:=(TreAt.both hw).2 h
theorem TresIn.le {w:World} {A:Option Addr} {l:List Dt} (h:TresIn w A l):l.length≤yJ:=by
  cases h with
  | nil=>exact Nat.zero_le _
  | more hl=>exact hl
theorem TresIn.at_ {w:World} {A:Option Addr} {l:List Dt} (h:TresIn w A l) {k:Nat} (hk:k < l.length):∃ b o A' c,A=some ⟨b,o,none⟩∧b < w.heap.size∧w.rangeAt b (o + k * 3) [Value.int .i64 (l[k]).rule,.int .i64 (l[k]).lex,.slice A' (l[k]).kids.length c]∧TresIn w A' (l[k]).kids:=by
  cases h with
  | nil=>simp at hk
  | @more b o _ _ hb h=>
    have hx:=h k hk
    generalize l[k]=s at hx
    cases hx with
    | mk _ hr hs=>exact⟨b,o,_,_,rfl,hb,hr,hs⟩
def kdN (rs:List Rl) (t:Dt):Int:=if 0≤t.rule then ((rs[t.rule.toNat]?).map (·.kids)).getD 0 else 0
def trC (rs:List Rl) (nx:Nat) (t:Dt):Int:=
  if t.rule < -1∨(rs.length:Int)≤t.rule∨(t.rule= -1∧(t.lex < 0∨(nx:Int)≤t.lex)) then 3 else if 0≤t.rule∧¬t.lex=0 then 5 else if ¬(t.kids.length:Int)=kdN rs t then 9 else 0
def chN (rs:List Rl) (t:Dt) (c:Nat):Nat:=if kdN rs t=1 then c + 1 else 0
def lfN (t:Dt) (l:Nat):Nat:=if t.rule < 0 then l + 1 else l
mutual
def tw (rs:List Rl) (nx:Nat):Dt→Nat→Nat→Nat→Nat→Nat×Nat×Fl
  | .mk r x ks,d,c,n,l=>if 200 < n + 1∨48 < d then (n + 1,l,(1,(n:Int))) else if trC rs nx (.mk r x ks)=0 then (if 3 < chN rs (.mk r x ks) c then (n + 1,l,(14,(n:Int))) else tws rs nx ks (d + 1) (chN rs (.mk r x ks) c) (n + 1) (lfN (.mk r x ks) l)) else (n + 1,l,(trC rs nx (.mk r x ks),(n:Int)))
def tws (rs:List Rl) (nx:Nat):List Dt→Nat→Nat→Nat→Nat→Nat×Nat×Fl
  | [],_,_,n,l=>(n,l,(0,0))
  | x :: r,d,c,n,l=>if (tw rs nx x d c n l).2.2.1=0 then tws rs nx r d c (tw rs nx x d c n l).1 (tw rs nx x d c n l).2.1 else tw rs nx x d c n l
end
section
variable {rs:List Rl} {nx:Nat} {t:Dt} {d c n l:Nat}
theorem Wk (t:Dt) (d c n l:Nat):tw rs nx t d c n l=if 200 < n + 1∨48 < d then (n + 1,l,(1,(n:Int))) else if trC rs nx t=0 then (if 3 < chN rs t c then (n + 1,l,(14,(n:Int))) else tws rs nx t.kids (d + 1) (chN rs t c) (n + 1) (lfN t l)) else (n + 1,l,(trC rs nx t,(n:Int))):=by
  cases t;rw [tw];rfl
theorem EJ (h:200 < n + 1∨48 < d):tw rs nx t d c n l=(n + 1,l,(1,(n:Int))):=by rw [Wk,if_pos h]
theorem X5 {k:Int} (h:¬(200 < n + 1∨48 < d)) (hc:trC rs nx t=k) (h0:k≠0):tw rs nx t d c n l=(n + 1,l,(k,(n:Int))):=by rw [Wk,if_neg h,if_neg (by rw [hc];exact h0),hc]
theorem Vy (h:¬(200 < n + 1∨48 < d)) (hc:trC rs nx t=0) (h3:3 < chN rs t c):tw rs nx t d c n l=(n + 1,l,(14,(n:Int))):=by rw [Wk,if_neg h,if_pos hc,if_pos h3]
theorem CK (h:¬(200 < n + 1∨48 < d)) (hc:trC rs nx t=0) (h3:¬3 < chN rs t c):tw rs nx t d c n l=tws rs nx t.kids (d + 1) (chN rs t c) (n + 1) (lfN t l):=by rw [Wk,if_neg h,if_pos hc,if_neg h3]
theorem trC_3 (h:t.rule < -1∨(rs.length:Int)≤t.rule∨(t.rule= -1∧(t.lex < 0∨(nx:Int)≤t.lex))):trC rs nx t=3:=if_pos h
theorem trC_5 (h:¬(t.rule < -1∨(rs.length:Int)≤t.rule∨(t.rule= -1∧(t.lex < 0∨(nx:Int)≤t.lex)))) (h2:0≤t.rule∧¬t.lex=0):trC rs nx t=5:=by unfold trC;rw [if_neg h,if_pos h2]
theorem trC_9 (h:¬(t.rule < -1∨(rs.length:Int)≤t.rule∨(t.rule= -1∧(t.lex < 0∨(nx:Int)≤t.lex)))) (h2:¬(0≤t.rule∧¬t.lex=0)) (h3:¬(t.kids.length:Int)=kdN rs t):trC rs nx t=9:=by unfold trC;rw [if_neg h,if_neg h2,if_pos h3]
theorem trC_0 (h:¬(t.rule < -1∨(rs.length:Int)≤t.rule∨(t.rule= -1∧(t.lex < 0∨(nx:Int)≤t.lex)))) (h2:¬(0≤t.rule∧¬t.lex=0)) (h3:¬¬(t.kids.length:Int)=kdN rs t):trC rs nx t=0:=by unfold trC;rw [if_neg h,if_neg h2,if_neg h3]
theorem Fq {i:Nat} (hi:i < rs.length) (h:t.rule=(i:Int)):kdN rs t=(rs[i]).kids:=by
  unfold kdN;rw [if_pos om,h];simp [hi]
theorem DX (h:t.rule < 0):kdN rs t=0:=by unfold kdN;rw [if_neg om]
theorem lfN_lf (h:t.rule < 0):lfN t l=l + 1:=if_pos h
theorem lfN_rl (h:¬t.rule < 0):lfN t l=l:=if_neg h
theorem tw_ts:∀ (k:Nat) (t:Dt),SizeOf.sizeOf t < k→∀ d c n l,l≤n→(tw rs nx t d c n l).2.2.1=0→(tw rs nx t d c n l).2.2=(0,0)∧(tw rs nx t d c n l).1≤200∧(tw rs nx t d c n l).2.1≤(tw rs nx t d c n l).1:=by
  intro k
  induction k with
  | zero=>intro t h;omega
  | succ k ih=>
    intro t ht d c n l hl h0;by_cases h1:200 < n + 1∨48 < d
    · rw [EJ h1] at h0;cases h0
    by_cases h2:trC rs nx t=0
    · by_cases h3:3 < chN rs t c
      · rw [Vy h1 h2 h3] at h0;cases h0
      · rw [CK h1 h2 h3] at h0 ⊢
        have key:∀ (ks:List Dt),(∀ x ∈ ks,SizeOf.sizeOf x < k)→∀ d c n l,l≤n→n≤200→(tws rs nx ks d c n l).2.2.1=0→(tws rs nx ks d c n l).2.2=(0,0)∧(tws rs nx ks d c n l).1≤200∧(tws rs nx ks d c n l).2.1≤(tws rs nx ks d c n l).1:=by
          intro ks
          induction ks with
          | nil=>intro _ d c n l h1 h2 _;rw [tws];exact⟨rfl,h2,h1⟩
          | cons x r ihr=>
            intro hx d c n l h1 h2 h3;rw [tws] at h3 ⊢;by_cases h4:(tw rs nx x d c n l).2.2.1=0
            · rw [if_pos h4] at h3 ⊢
              obtain⟨_,e2,e3⟩:=ih x (hx x (List.mem_cons_self ..)) d c n l h1 h4;exact ihr (fun y hy=>hx y (List.mem_cons_of_mem _ hy)) d c _ _ e3 e2 h3
            · rw [if_neg h4] at h3;exact absurd h3 h4
        have hlf:lfN t l≤n + 1:=by unfold lfN;split <;> omega
        refine key t.kids (fun x hx=>?_) _ _ _ _ hlf om h0;have:=List.sizeOf_lt_of_mem hx;cases t with
        | mk r x ks=>simp only [Dt.mk.sizeOf_spec,Dt.kids] at ht this;omega
    · rw [X5 h1 rfl h2] at h0;exact absurd h0 h2
theorem tw_z (hl:l≤n) (h:(tw rs nx t d c n l).2.2.1=0):(tw rs nx t d c n l).2.2=(0,0)∧(tw rs nx t d c n l).1≤200∧(tw rs nx t d c n l).2.1≤(tw rs nx t d c n l).1:=tw_ts (SizeOf.sizeOf t + 1) t (Nat.lt_succ_self _) d c n l hl h
end
def xq (rs:List Rl) (nx:Nat) (t:Dt):Fl:=if (tw rs nx t 1 0 0 0).2.2.1=0 then (if 12 < (tw rs nx t 1 0 0 0).2.1 then (2,-2) else (0,0)) else (tw rs nx t 1 0 0 0).2.2
theorem R8 {rs:List Rl} {nx:Nat} {t:Dt} (h:¬(tw rs nx t 1 0 0 0).2.2.1=0):xq rs nx t=(tw rs nx t 1 0 0 0).2.2:=if_neg h
theorem EK {rs:List Rl} {nx:Nat} {t:Dt} (h:(tw rs nx t 1 0 0 0).2.2.1=0) (h2:12 < (tw rs nx t 1 0 0 0).2.1):xq rs nx t=(2,-2):=by unfold xq;rw [if_pos h,if_pos h2]
theorem tf_ok {rs:List Rl} {nx:Nat} {t:Dt} (h:(tw rs nx t 1 0 0 0).2.2.1=0) (h2:¬12 < (tw rs nx t 1 0 0 0).2.1):xq rs nx t=(0,0):=by unfold xq;rw [if_pos h,if_neg h2]
end Go.Proofs.YtdkfnakncaggoaaGreatDoor
namespace Go.Proofs.YtdkfnakncaggoaaGreatDoor
open Go.RowKit
mutual
def ndT:Dt→Nat
  | .mk _ _ ks=>JJ ks + 1
def JJ:List Dt→Nat
  | []=>0
  | x :: r=>ndT x + JJ r
end
def hdT (r x:Int):Int:=if r < 0 then 1000 + x else r
mutual
def cdT:Dt→List Int
  | .mk r x ks=>hdT r x :: Qw ks
def Qw:List Dt→List Int
  | []=>[]
  | t :: r=>cdT t ++ Qw r
end
def rlWt (rs:List Rl) (r:Int):Int:=((rs[r.toNat]?).map (·.wt)).getD 0
def lxWt (xs:List Lx) (x:Int):Int:=((xs[x.toNat]?).map (·.wt)).getD 0
mutual
def wtT (rs:List Rl) (xs:List Lx):Dt→Int
  | .mk r x ks=>if r < 0 then lxWt xs x else rlWt rs r + X4 rs xs ks
def X4 (rs:List Rl) (xs:List Lx):List Dt→Int
  | []=>0
  | t :: r=>wtT rs xs t + X4 rs xs r
end
mutual
def eqT:Dt→Dt→Bool
  | .mk r x ks,.mk r' x' ks'=>decide (r=r') && decide (x=x') && X1 ks ks'
def X1:List Dt→List Dt→Bool
  | [],[]=>true
  | t :: r,t' :: r'=>eqT t t' && X1 r r'
  | [],_ :: _=>false
  | _ :: _,[]=>false
end
theorem OY (t:Dt):ndT t=JJ t.kids + 1:=by cases t;rw [ndT];rfl
theorem N5 (t:Dt):cdT t=hdT t.rule t.lex :: Qw t.kids:=by cases t;rw [cdT];rfl
theorem TQ {rs:List Rl} {xs:List Lx} {t:Dt} (h:t.rule < 0):wtT rs xs t=lxWt xs t.lex:=by cases t;rw [wtT];exact if_pos h
theorem TZ {rs:List Rl} {xs:List Lx} {t:Dt} (h:¬t.rule < 0):wtT rs xs t=rlWt rs t.rule + X4 rs xs t.kids:=by cases t;rw [wtT];exact if_neg h
theorem C4 (t u:Dt):eqT t u=(decide (t.rule=u.rule) && decide (t.lex=u.lex) && X1 t.kids u.kids):=by cases t;cases u;rw [eqT];rfl
inductive OkT (rs:List Rl) (nx:Nat):Dt→Prop
  | mk {t:Dt} (h:trC rs nx t=0) (hk:∀ x ∈ t.kids,OkT rs nx x):OkT rs nx t
section
variable {rs:List Rl} {xs:List Lx} {nx:Nat}
theorem OkT.at_ {t:Dt} (h:OkT rs nx t):trC rs nx t=0∧∀ x ∈ t.kids,OkT rs nx x:=by cases h with | mk h hk=>exact⟨h,hk⟩
theorem tw_okT:∀ (k:Nat) (t:Dt),SizeOf.sizeOf t < k→∀ d c n l,(tw rs nx t d c n l).2.2.1=0→OkT rs nx t∧(tw rs nx t d c n l).1=n + ndT t:=by
  intro k
  induction k with
  | zero=>intro t h;omega
  | succ k ih=>
    intro t ht d c n l h0;by_cases h1:200 < n + 1∨48 < d
    · rw [EJ h1] at h0;cases h0
    by_cases h2:trC rs nx t=0
    · by_cases h3:3 < chN rs t c
      · rw [Vy h1 h2 h3] at h0;cases h0
      · rw [CK h1 h2 h3] at h0 ⊢
        have key:∀ (ks:List Dt),(∀ x ∈ ks,SizeOf.sizeOf x < k)→∀ d c n l,(tws rs nx ks d c n l).2.2.1=0→(∀ x ∈ ks,OkT rs nx x)∧(tws rs nx ks d c n l).1=n + JJ ks:=by
          intro ks
          induction ks with
          | nil=>intro _ d c n l _;rw [tws,JJ];exact⟨(fun x hx=>nomatch hx),rfl⟩
          | cons x r ihr=>
            intro hx d c n l h3;rw [tws] at h3 ⊢;by_cases h4:(tw rs nx x d c n l).2.2.1=0
            · rw [if_pos h4] at h3 ⊢
              obtain⟨e1,e2⟩:=ih x (hx x (List.mem_cons_self ..)) d c n l h4;obtain⟨e3,e4⟩:=ihr (fun y hy=>hx y (List.mem_cons_of_mem _ hy)) d c _ _ h3;refine⟨fun y hy=>?_,?_⟩
              · rcases List.mem_cons.1 hy with rfl | hy
                · exact e1
                · exact e3 y hy
              · rw [e4,e2,JJ];omega
            · rw [if_neg h4] at h3;exact absurd h3 h4
        obtain⟨e1,e2⟩:=key t.kids (fun x hx=>by
          have:=List.sizeOf_lt_of_mem hx;cases t with
          | mk r x ks=>simp only [Dt.mk.sizeOf_spec,Dt.kids] at ht this;omega) _ _ _ _ h0
        exact⟨.mk h2 e1,by rw [e2,OY];omega⟩
    · rw [X5 h1 rfl h2] at h0;exact absurd h0 h2
theorem VZ {t:Dt} (h:(xq rs nx t).1=0):OkT rs nx t∧ndT t≤200∧(tw rs nx t 1 0 0 0).2.1≤12:=by
  by_cases h0:(tw rs nx t 1 0 0 0).2.2.1=0
  · by_cases h1:12 < (tw rs nx t 1 0 0 0).2.1
    · rw [EK h0 h1] at h;cases h
    · obtain⟨e1,e2⟩:=tw_okT (SizeOf.sizeOf t + 1) t (Nat.lt_succ_self _) 1 0 0 0 h0
      obtain⟨_,e3,_⟩:=tw_z (Nat.le_refl _) h0;exact⟨e1,by omega,by omega⟩
  · rw [R8 h0] at h;exact absurd h h0
theorem Z5 {t:Dt} (h:trC rs nx t=0) (hr:t.rule < 0):t.rule= -1∧0≤t.lex∧t.lex < nx∧t.kids= []:=by
  unfold trC at h
  split at h
  · cases h
  · rename_i h1
    split at h
    · cases h
    · split at h
      · cases h
      · rename_i h3
        have h4:=Classical.not_not.1 h3;rw [DX hr] at h4;have h5:t.kids= []:=List.length_eq_zero_iff.1 om;have h6:t.rule= -1:=by omega
        refine⟨h6,?_,?_,h5⟩ <;> (refine Classical.byContradiction (fun e=>h1 (.inr (.inr ⟨h6,?_⟩)))) <;> omega
theorem Yx {t:Dt} (h:trC rs nx t=0) (hr:¬t.rule < 0):t.rule < rs.length∧t.lex=0∧(t.kids.length:Int)=kdN rs t:=by
  unfold trC at h
  split at h
  · cases h
  · rename_i h1
    split at h
    · cases h
    · rename_i h2
      split at h
      · cases h
      · rename_i h3
        refine⟨?_,?_,Classical.not_not.1 h3⟩
        · omega
        · exact Classical.byContradiction (fun e=>h2 ⟨by omega,e⟩)
theorem kdN_rule {t u:Dt} (h:t.rule=u.rule):kdN rs t=kdN rs u:=by unfold kdN;rw [h]
theorem cd_inj (hrs:rs.length≤40):∀ (k:Nat) (t u:Dt),SizeOf.sizeOf t < k→OkT rs nx t→OkT rs nx u→∀ p q,cdT t ++ p=cdT u ++ q→t=u∧p=q:=by
  intro k
  induction k with
  | zero=>intro t u h;omega
  | succ k ih=>
    intro t u ht hot hou p q he;rw [N5,N5,List.cons_append,List.cons_append] at he
    injection he with h1 h2
    obtain⟨ht1,ht2⟩:=hot.at_;obtain⟨hu1,hu2⟩:=hou.at_;have key:∀ (ks ls:List Dt),(∀ x ∈ ks,SizeOf.sizeOf x < k)→(∀ x ∈ ks,OkT rs nx x)→(∀ x ∈ ls,OkT rs nx x)→ks.length=ls.length→∀ p q,Qw ks ++ p=Qw ls ++ q→ks=ls∧p=q:=by
      intro ks
      induction ks with
      | nil=>
        intro ls _ _ _ hl p q he;cases ls with
        | nil=>rw [Qw] at he;exact⟨rfl,he⟩
        | cons _ _=>simp at hl
      | cons x r ihr=>
        intro ls hsz hok1 hok2 hl p q he;cases ls with
        | nil=>simp at hl
        | cons y s=>
          rw [Qw,Qw,List.append_assoc,List.append_assoc] at he;obtain⟨e1,e2⟩:=ih x y (hsz x (List.mem_cons_self ..)) (hok1 x (List.mem_cons_self ..)) (hok2 y (List.mem_cons_self ..)) _ _ he;obtain⟨e3,e4⟩:=ihr s (fun z hz=>hsz z (List.mem_cons_of_mem _ hz)) (fun z hz=>hok1 z (List.mem_cons_of_mem _ hz)) (fun z hz=>hok2 z (List.mem_cons_of_mem _ hz)) (by simpa using hl) p q e2;rw [e1,e3];exact⟨rfl,e4⟩
    have hsz:∀ x ∈ t.kids,SizeOf.sizeOf x < k:=fun x hx=>by
      have:=List.sizeOf_lt_of_mem hx;cases t with
      | mk r x ks=>simp only [Dt.mk.sizeOf_spec,Dt.kids] at ht this;omega
    unfold hdT at h1;by_cases a:t.rule < 0
    · obtain⟨r1,r2,_,r3⟩:=Z5 ht1 a
      by_cases b:u.rule < 0
      · obtain⟨q1,q2,_,q3⟩:=Z5 hu1 b
        rw [if_pos a,if_pos b] at h1;rw [r3,q3] at h2;rw [t.eta,u.eta,r1,q1,r3,q3,show t.lex=u.lex by omega];exact⟨rfl,h2⟩
      · obtain⟨q1,_,_⟩:=Yx hu1 b
        rw [if_pos a,if_neg b] at h1;omega
    · obtain⟨r1,r2,r3⟩:=Yx ht1 a
      by_cases b:u.rule < 0
      · obtain⟨q1,q2,_,_⟩:=Z5 hu1 b
        rw [if_neg a,if_pos b] at h1;omega
      · obtain⟨q1,q2,q3⟩:=Yx hu1 b
        rw [if_neg a,if_neg b] at h1;have hl:t.kids.length=u.kids.length:=by rw [kdN_rule h1] at r3;omega
        obtain⟨e1,e2⟩:=key t.kids u.kids hsz ht2 hu2 hl p q h2;rw [t.eta,u.eta,h1,r2,q2,e1];exact⟨rfl,e2⟩
theorem code_inj (hrs:rs.length≤40) {t u:Dt} (ht:OkT rs nx t) (hu:OkT rs nx u) (h:cdT t=cdT u):t=u:=
  (cd_inj hrs (SizeOf.sizeOf t + 1) t u (Nat.lt_succ_self _) ht hu [] [] (by rw [List.append_nil,List.append_nil,h])).1
end
section wt
variable {rs:List Rl} {xs:List Lx}
theorem O6 {i:Nat} (hi:i < rs.length) {r:Int} (h:r=(i:Int)):rlWt rs r=(rs[i]).wt:=by
  unfold rlWt;rw [h];simp [hi]
theorem Dv {i:Nat} (hi:i < xs.length) {r:Int} (h:r=(i:Int)):lxWt xs r=(xs[i]).wt:=by
  unfold lxWt;rw [h];simp [hi]
theorem Cy (hwr:∀ r ∈ rs,0≤r.wt∧r.wt≤1000000) (hwx:∀ x ∈ xs,0≤x.wt∧x.wt≤1000000):∀ (k:Nat) (t:Dt),SizeOf.sizeOf t < k→OkT rs xs.length t→0≤wtT rs xs t∧wtT rs xs t≤1000000 * (ndT t:Int):=by
  intro k
  induction k with
  | zero=>intro t h;omega
  | succ k ih=>
    intro t ht hok;obtain⟨h1,h2⟩:=hok.at_;have key:∀ (ks:List Dt),(∀ x ∈ ks,SizeOf.sizeOf x < k)→(∀ x ∈ ks,OkT rs xs.length x)→0≤X4 rs xs ks∧X4 rs xs ks≤1000000 * (JJ ks:Int):=by
      intro ks
      induction ks with
      | nil=>intro _ _;rw [X4,JJ];exact⟨Int.le_refl _,Int.le_refl _⟩
      | cons x r ihr=>
        intro hsz hk;obtain⟨a1,a2⟩:=ih x (hsz x (List.mem_cons_self ..)) (hk x (List.mem_cons_self ..));obtain⟨b1,b2⟩:=ihr (fun y hy=>hsz y (List.mem_cons_of_mem _ hy)) (fun y hy=>hk y (List.mem_cons_of_mem _ hy));rw [X4,JJ];refine⟨by omega,?_⟩;rw [Int.natCast_add,Int.mul_add];omega
    have hn:=OY t;by_cases hr:t.rule < 0
    · obtain⟨_,q1,q2,_⟩:=Z5 h1 hr
      obtain⟨i,hi⟩:=Int.eq_ofNat_of_zero_le q1;have hil:i < xs.length:=by omega
      rw [TQ hr,Dv hil hi];obtain⟨a1,a2⟩:=hwx _ (List.getElem_mem hil);refine⟨a1,?_⟩;rw [hn,Int.natCast_add,Int.mul_add];omega
    · obtain⟨q1,_,_⟩:=Yx h1 hr
      obtain⟨i,hi⟩:=Int.eq_ofNat_of_zero_le (Int.not_lt.1 hr);have hil:i < rs.length:=by omega
      rw [TZ hr,O6 hil hi];obtain⟨a1,a2⟩:=hwr _ (List.getElem_mem hil)
      obtain⟨b1,b2⟩:=key t.kids (fun x hx=>by
        have:=List.sizeOf_lt_of_mem hx;cases t with
        | mk r x ks=>simp only [Dt.mk.sizeOf_spec,Dt.kids] at ht this;omega) h2
      refine⟨by omega,?_⟩;rw [hn,Int.natCast_add,Int.mul_add];omega
theorem Vj {ks:List Dt} {j:Nat} (hj:j < ks.length):X4 rs xs (ks.drop j)=wtT rs xs ks[j] + X4 rs xs (ks.drop (j + 1)):=by
  rw [List.drop_eq_getElem_cons hj,X4]
theorem Tw (hwr:∀ r ∈ rs,0≤r.wt∧r.wt≤1000000) (hwx:∀ x ∈ xs,0≤x.wt∧x.wt≤1000000):∀ (ks:List Dt),(∀ x ∈ ks,OkT rs xs.length x)→0≤X4 rs xs ks
  | [],_=>by rw [X4];exact Int.le_refl _
  | x :: r,h=>by
    rw [X4]
    have a:=(Cy hwr hwx (SizeOf.sizeOf x + 1) x (Nat.lt_succ_self _) (h x (List.mem_cons_self ..))).1
    have b:=Tw hwr hwx r (fun y hy=>h y (List.mem_cons_of_mem _ hy))
    omega
theorem H8 {t x:Dt} (h:x ∈ t.kids):ndT x < ndT t:=by
  have key:∀ (ks:List Dt),x ∈ ks→ndT x≤JJ ks:=by
    intro ks
    induction ks with
    | nil=>intro h;cases h
    | cons y r ih=>
      intro h;rw [JJ];rcases List.mem_cons.1 h with rfl | h
      · omega
      · have:=ih h;omega
  have:=key _ h;rw [OY t];omega
end wt
def uW (a b:Int):Int:=if a < b then -1 else if b < a then 1 else 0
def kv:List Int→List Int→Int
  | [],[]=>0
  | [],_ :: _=>-1
  | _ :: _,[]=>1
  | a :: l,b :: r=>if uW a b=0 then kv l r else uW a b
theorem gy (a b:Int):uW b a= - uW a b:=by
  unfold uW;by_cases h1:a < b
  · rw [if_neg om,if_pos h1,if_pos h1];rfl
  · by_cases h2:b < a
    · rw [if_pos h2,if_neg h1,if_pos h2]
    · rw [if_neg h2,if_neg h1,if_neg h1,if_neg h2];rfl
theorem cmpZ_zero {a b:Int}:uW a b=0 ↔ a=b:=by
  unfold uW;by_cases h1:a < b
  · rw [if_pos h1];omega
  · by_cases h2:b < a
    · rw [if_neg h1,if_pos h2];omega
    · rw [if_neg h1,if_neg h2];omega
theorem Ex:∀ (l r:List Int),kv r l= - kv l r
  | [],[]=>rfl
  | [],_ :: _=>rfl
  | _ :: _,[]=>rfl
  | a :: l,b :: r=>by
    rw [kv,kv]
    by_cases h:uW a b=0
    · rw [if_pos h,if_pos (by rw [gy,h];rfl),Ex l r]
    · rw [if_neg h,if_neg (by rw [gy];omega),gy]
theorem Eq:∀ (l r:List Int),kv l r=0 ↔ l=r
  | [],[]=>⟨fun _=>rfl,fun _=>rfl⟩
  | [],_ :: _=>⟨fun h=>by simp [kv] at h,(fun h=>nomatch h)⟩
  | _ :: _,[]=>⟨fun h=>by simp [kv] at h,(fun h=>nomatch h)⟩
  | a :: l,b :: r=>by
    rw [kv]
    by_cases h:uW a b=0
    · rw [if_pos h,Eq l r,cmpZ_zero.1 h]
      exact⟨fun e=>by rw [e],fun e=>by injection e⟩
    · rw [if_neg h]
      exact⟨fun e=>absurd e h,fun e=>by injection e with e1 _;exact absurd (cmpZ_zero.2 e1) h⟩
def vW (rs:List Rl) (xs:List Lx) (t u:Dt):Int:=if uW (wtT rs xs t) (wtT rs xs u)=0 then kv (cdT t) (cdT u) else uW (wtT rs xs t) (wtT rs xs u)
section
variable {rs:List Rl} {xs:List Lx} {nx:Nat}
theorem ord_swap (t u:Dt):vW rs xs u t= - vW rs xs t u:=by
  unfold vW;by_cases h:uW (wtT rs xs t) (wtT rs xs u)=0
  · rw [if_pos h,if_pos (by rw [gy,h];rfl),Ex (cdT t)]
  · rw [if_neg h,if_neg (by rw [gy];omega),gy]
theorem ord_zero (hrs:rs.length≤40) {t u:Dt} (ht:OkT rs nx t) (hu:OkT rs nx u):vW rs xs t u=0 ↔ t=u:=by
  unfold vW;by_cases h:uW (wtT rs xs t) (wtT rs xs u)=0
  · rw [if_pos h,Eq]
    exact⟨code_inj hrs ht hu,fun e=>by rw [e]⟩
  · rw [if_neg h]
    exact⟨fun e=>absurd e h,fun e=>absurd (cmpZ_zero.2 (by rw [e])) h⟩
theorem eqT_iff:∀ (k:Nat) (t u:Dt),SizeOf.sizeOf t < k→(eqT t u=true ↔ t=u):=by
  intro k
  induction k with
  | zero=>intro t u h;omega
  | succ k ih=>
    intro t u ht;have key:∀ (ks ls:List Dt),(∀ x ∈ ks,SizeOf.sizeOf x < k)→(X1 ks ls=true ↔ ks=ls):=by
      intro ks
      induction ks with
      | nil=>
        intro ls _;cases ls with
        | nil=>rw [X1];exact⟨fun _=>rfl,fun _=>rfl⟩
        | cons _ _=>rw [X1];exact⟨(fun h=>nomatch h),(fun h=>nomatch h)⟩
      | cons x r ihr=>
        intro ls hsz;cases ls with
        | nil=>rw [X1];exact⟨(fun h=>nomatch h),(fun h=>nomatch h)⟩
        | cons y s=>
          rw [X1,Bool.and_eq_true,ih x y (hsz x (List.mem_cons_self ..)),ihr s (fun z hz=>hsz z (List.mem_cons_of_mem _ hz))];exact⟨fun h=>by rw [h.1,h.2],fun h=>by injection h with a b;exact⟨a,b⟩⟩
    rw [C4,Bool.and_eq_true,Bool.and_eq_true,decide_eq_true_eq,decide_eq_true_eq,key t.kids u.kids (fun x hx=>by
      have:=List.sizeOf_lt_of_mem hx;cases t with
      | mk r x ks=>simp only [Dt.mk.sizeOf_spec,Dt.kids] at ht this;omega)]
    exact⟨fun h=>by rw [t.eta,u.eta,h.1.1,h.1.2,h.2],fun h=>by rw [h];exact⟨⟨rfl,rfl⟩,rfl⟩⟩
theorem eqT_dec (t u:Dt):eqT t u=true ↔ t=u:=eqT_iff (SizeOf.sizeOf t + 1) t u (Nat.lt_succ_self _)
end
end Go.Proofs.YtdkfnakncaggoaaGreatDoor
namespace Go.Proofs.YtdkfnakncaggoaaGreatDoor
open Go.RowKit
def oX:List Int→Int
  | []=>0
  | a :: r=>if a=0 then oX r else a
theorem or_any (A:Option Addr) (c:Nat) (zs:List Int) (w:World) (hA:IntsIn w A zs):Calls Tryz.prog 53 #[.slice A zs.length c] w fun e w'=>e= .returned (.int .i64 (oX zs))∧Bel w w':=by
 have hzl:=hA.1;unfold yJ at hzl;refine enter Tryz.func53 Tryz.ntmps53 rfl (Nat.le_of_ble_eq_true rfl) ?_;have hB:Bel w w:=Below.refl _ _;refine zn19 ?_;refine q8 [2,5,8,9,10,11,12,13,14,15,16] (fun m g w'=>∃ k:Nat,k≤zs.length∧m=zs.length - k∧g 8= .int .i64 k∧Bel w w'∧oX zs=oX (zs.drop k)) (zs.length) ?_ (fun m g3 w1 hI=>?_)
 ·exact⟨0,Nat.zero_le _,rfl,rfl,hB,rfl⟩
 obtain⟨k,hk,hm,h8,hB,hR⟩:=hI;refine zJ 8 (.int .i64 k) h8 nu (zn6 ?_);refine zw rfl (fun c9=>?_) (fun c9=>?_)
 ·have hlt:k < zs.length:=by omega
  obtain⟨zb,zo,rfl,hzb,hzc⟩:=hA.2 (by rintro rfl;simp at hlt);rw [List.drop_eq_getElem_cons hlt,oX] at hR;refine zn7 ?_;refine wl (qk (v:= .int _ _) U3 rfl rfl (hB.cell hzb (hzc k hlt))) (yq ?_);refine zw rfl (fun c14=>?_) (fun c14=>?_)
  ·rw [if_neg c14] at hR;refine jq ?_;exact⟨by rw [hR];rfl,hB⟩
  rw [if_pos (Classical.not_not.1 c14)] at hR;refine zn7 ?_;refine xv (zs.length - (k + 1)) om agA ?_;exact⟨k + 1,by omega,rfl,rfl,hB,hR⟩
 have hke:k=zs.length:=by omega
 rw [hke,List.drop_length,oX] at hR;refine jq ?_;exact⟨by rw [hR];rfl,hB⟩
theorem BJ (A B:Option Addr) (c d:Nat) (xs ys:List Int) (w:World) (hA:IntsIn w A xs) (hY:IntsIn w B ys):Calls Tryz.prog 36 #[.slice A xs.length c,.slice B ys.length d] w fun e w'=>e= .returned (.int .i64 (kv xs ys))∧Bel w w':=by
 have hxl:=hA.1;have hyl:=hY.1;unfold yJ at hxl hyl;refine enter Tryz.func36 Tryz.ntmps36 rfl (Nat.le_of_ble_eq_true rfl) ?_;have hB:Bel w w:=Below.refl _ _;refine oY ?_;refine q8 [4,5,6,7,8,11,12,13,14,15,16,17,18,19,20,21,22,23,24,25,26,27,28,29,30] (fun m g w'=>∃ k:Nat,k≤xs.length∧k≤ys.length∧m=xs.length - k∧g 11= .int .i64 k∧Bel w w'∧kv xs ys=kv (xs.drop k) (ys.drop k)) (xs.length) ?_ (fun m g2 w1 hI=>?_)
 ·exact⟨0,Nat.zero_le _,Nat.zero_le _,rfl,rfl,hB,rfl⟩
 obtain⟨k,hk,hky,hm,h11,hB,hR⟩:=hI;refine zJ 11 (.int .i64 k) h11 nu (zn6 ?_);refine zw rfl (fun c12=>?_) (fun c12=>?_)
 ·have hlt:k < xs.length:=by omega
  obtain⟨xb,xo,rfl,hxb,hxc⟩:=hA.2 (by rintro rfl;simp at hlt);rw [List.drop_eq_getElem_cons hlt] at hR;refine zn8 ?_;refine wl (qk (v:= .int _ _) U3 rfl rfl (hB.cell hxb (hxc k hlt))) (jq ?_);refine zw rfl (fun c19=>?_) (fun c19=>?_)
  ·have hye:ys.drop k= []:=List.drop_eq_nil_of_le om;rw [hye,kv] at hR;refine jq ?_;exact⟨by rw [hR];rfl,hB⟩
  have hlt2:k < ys.length:=by omega
  obtain⟨yb,yo,rfl,hyb,hyc⟩:=hY.2 (by rintro rfl;simp at hlt2);rw [List.drop_eq_getElem_cons hlt2,kv] at hR;refine zn7 ?_;refine wl (qk (v:= .int _ _) U3 rfl rfl (hB.cell hyb (hyc k hlt2))) (zn7 ?_);refine zV fn54 (Y0 _ _ _) rfl (fun e' w2 hr=>?_);obtain⟨rfl,hs⟩:=hr;replace hs:=sB hs;replace hB:=hB.tr0 hs;refine⟨_,rfl,?_⟩;refine zn9 ?_;refine zw rfl (fun c28=>?_) (fun c28=>?_)
  ·rw [if_neg (show ¬uW _ _=0 from c28)] at hR;refine jq ?_;exact⟨by rw [hR];rfl,hB⟩
  rw [if_pos (show uW _ _=0 from Classical.not_not.1 c28)] at hR;refine zn7 ?_;refine xv (xs.length - (k + 1)) om agA ?_;exact⟨k + 1,by omega,by omega,rfl,rfl,hB,hR⟩
 have hke:k=xs.length:=by omega
 rw [hke,List.drop_length] at hR;refine Zk ?_;refine zw rfl (fun c35=>?_) (fun c35=>?_)
 ·have hye:0 < (ys.drop k).length:=by rw [List.length_drop];omega
  have hRe:kv xs ys= -1:=by
    rw [hke] at hye;rw [hR];cases e:ys.drop xs.length with
    | nil=>rw [e] at hye;simp at hye
    | cons a r=>rfl
  refine zn8 ?_;exact⟨by rw [hRe];rfl,hB⟩
 have hye:ys.drop xs.length= []:=List.drop_eq_nil_of_le om;have hRe:kv xs ys=0:=by rw [hR,hye];rfl
 refine zn9 ?_;exact⟨by rw [hRe];rfl,hB⟩
end Go.Proofs.YtdkfnakncaggoaaGreatDoor
namespace Go.Proofs.YtdkfnakncaggoaaGreatDoor
open Go.RowKit
theorem XY {f:Nat→Int}:∀ (m i:Nat),(qy f i m).1=0→∀ k,i≤k→k < i + m→f k=0
  | 0,i,_,k,h1,h2=>by omega
  | m + 1,i,h,k,h1,h2=>by
    by_cases e:f i=0
    · rw [qy,if_neg (fun h=>h e)] at h
      by_cases ek:k=i
      · rw [ek];exact e
      · exact XY m (i + 1) h k om om
    · rw [qy,if_pos e] at h
      exact absurd h e
theorem E9 {f:Nat→Int}:∀ (m i:Nat),(qy f i m).1=0→qy f i m=(0,0)
  | 0,i,_=>by rw [qy]
  | m + 1,i,h=>by
    by_cases e:f i=0
    · rw [qy,if_neg (fun h=>h e)] at h ⊢;exact E9 m (i + 1) h
    · rw [qy,if_pos e] at h;exact absurd h e
theorem ord_or (rs:List Rl) (xs:List Lx) (t u:Dt):oX [uW (wtT rs xs t) (wtT rs xs u),kv (cdT t) (cdT u)]=vW rs xs t u:=by
  unfold vW;rw [oX,oX,oX];by_cases h:uW (wtT rs xs t) (wtT rs xs u)=0
  · rw [if_pos h,if_pos h]
    by_cases h2:kv (cdT t) (cdT u)=0
    · rw [if_pos h2,h2]
    · rw [if_neg h2]
  · rw [if_neg h,if_neg h]
theorem ord_lt {rs:List Rl} {xs:List Lx} {t u:Dt} (h:wtT rs xs t < wtT rs xs u):vW rs xs t u= -1:=by
  have e:uW (wtT rs xs t) (wtT rs xs u)= -1:=if_pos h;unfold vW;rw [e];rfl
theorem ord_gt {rs:List Rl} {xs:List Lx} {t u:Dt} (h:wtT rs xs u < wtT rs xs t):vW rs xs t u=1:=by
  have e:uW (wtT rs xs t) (wtT rs xs u)=1:=by unfold uW;rw [if_neg om,if_pos h]
  unfold vW;rw [e];rfl
theorem ord_eq {rs:List Rl} {xs:List Lx} {t u:Dt} (h:¬wtT rs xs t < wtT rs xs u) (h2:¬wtT rs xs u < wtT rs xs t):vW rs xs t u=kv (cdT t) (cdT u):=by
  have e:uW (wtT rs xs t) (wtT rs xs u)=0:=by unfold uW;rw [if_neg h,if_neg h2]
  unfold vW;rw [if_pos e]
theorem T9:∀ (l r:List Int),-1≤kv l r∧kv l r≤1
  | [],[]=>by rw [kv];omega
  | [],_ :: _=>by rw [kv];omega
  | _ :: _,[]=>by rw [kv];omega
  | a :: l,b :: r=>by
    rw [kv]
    split
    · exact T9 l r
    · unfold uW;split
      · omega
      · split <;> omega
theorem ord_rng (rs:List Rl) (xs:List Lx) (t u:Dt):-1≤vW rs xs t u∧vW rs xs t u≤1:=by
  have:=T9 (cdT t) (cdT u);unfold vW;split
  · exact this
  · unfold uW;split
    · omega
    · split <;> omega
theorem IV {l:List Ty} {fs:List Ft} {rs:List Rl} {xs:List Lx} {st:List Nd} (h:(x8 l fs rs xs st).1=0):rs.length≤40∧xs.length≤100∧(∀ r ∈ rs,0≤r.wt∧r.wt≤1000000)∧(∀ x ∈ xs,0≤x.wt∧x.wt≤1000000)∧∀ r ∈ rs,1≤r.kids:=by
  have h1:(qY l fs).1=0:=by
    refine Classical.byContradiction (fun e=>?_);rw [DW e] at h;exact e h
  have h2:¬fs.length≤3:=fun e=>by rw [Fv h1 e] at h;cases h
  have h3:¬(40 < rs.length∨100 < xs.length):=fun e=>by rw [DV h1 h2 e] at h;cases h
  have h4:(qy (kq l fs rs) 0 rs.length).1=0:=by
    refine Classical.byContradiction (fun e=>?_);rw [Qx (c:=(qy (kq l fs rs) 0 rs.length).1) (i:=(qy (kq l fs rs) 0 rs.length).2) h1 h2 h3 rfl e] at h;exact e h
  have h40:qy (kq l fs rs) 0 rs.length=(0,0):=E9 _ _ h4;have h5:(qy (YJ l fs xs) 0 xs.length).1=0:=by
    refine Classical.byContradiction (fun e=>?_);rw [Fk (c:=(qy (YJ l fs xs) 0 xs.length).1) (i:=(qy (YJ l fs xs) 0 xs.length).2) h1 h2 h3 h40 rfl e] at h;exact e h
  have key:∀ r ∈ rs,¬XJ r:=by
    intro r hr;obtain⟨i,hi,rfl⟩:=List.getElem_of_mem hr;have q5:=XY _ _ h4 i (Nat.zero_le _) om;have q6:y6 (rs[i]).name=true:=by
      cases e:y6 (rs[i]).name with
      | true=>rfl
      | false=>rw [rn10 hi e] at q5;cases q5
    have q7:j9 ((rs.take i).map (·.name)) (rs[i]).name=false:=by
      cases e:j9 ((rs.take i).map (·.name)) (rs[i]).name with
      | false=>rfl
      | true=>rw [rn7 hi q6 e] at q5;cases q5
    rw [rnF hi q6 q7] at q5;intro e;rw [RK e] at q5;cases q5
  refine⟨by omega,by omega,fun r hr=>?_,fun x hx=>?_,fun r hr=>?_⟩
  · have:=key r hr;unfold XJ at this;omega
  · obtain⟨i,hi,rfl⟩:=List.getElem_of_mem hx
    have q5:=XY _ _ h5 i (Nat.zero_le _) om;rw [lnF hi] at q5;have q6:jz (xs[i]).word=true:=by
      cases e:jz (xs[i]).word with
      | true=>rfl
      | false=>rw [Dk e] at q5;cases q5
    have:¬JV xs[i]:=fun e=>by rw [F6 q6 e] at q5;cases q5
    unfold JV at this;omega
  · have:=key r hr;unfold XJ at this;omega
def C1 (f:Fl):Fl:=(f.1,if f.2 < 0 then -3 else f.2)
def oK (a b:Fl) (o:Int):Int×Fl:=if ¬a.1=0 then (0,a) else if ¬b.1=0 then (0,C1 b) else (o,(0,0))
theorem cmpF_a {a b:Fl} {o:Int} (h:¬a.1=0):oK a b o=(0,a):=if_pos h
theorem FV {a b:Fl} {o:Int} (h:a.1=0) (h2:¬b.1=0):oK a b o=(0,C1 b):=by unfold oK;rw [if_neg (fun e=>e h),if_pos h2]
theorem FK {a b:Fl} {o:Int} (h:a.1=0) (h2:b.1=0):oK a b o=(o,(0,0)):=by unfold oK;rw [if_neg (fun e=>e h),if_neg (fun e=>e h2)]
def eF (a b:Fl):Fl:=if a.1=0 then C1 b else a
theorem cmpF_e {a b:Fl} {o:Int} (h:¬(eF a b).1=0):oK a b o=(0,eF a b):=by
  unfold eF at h ⊢;by_cases h1:a.1=0
  · rw [if_pos h1] at h ⊢
    exact FV h1 h
  · rw [if_neg h1];exact cmpF_a h1
theorem eF_0 {a b:Fl} (h:(eF a b).1=0):a.1=0∧b.1=0:=by
  unfold eF at h;by_cases h1:a.1=0
  · rw [if_pos h1] at h;exact⟨h1,h⟩
  · rw [if_neg h1] at h;exact absurd h h1
theorem dv_ok {g t:Fl} (h:(if g.1=0 then t else g).1=0):g.1=0∧t.1=0:=by
  by_cases h1:g.1=0
  · rw [if_pos h1] at h;exact⟨h1,h⟩
  · rw [if_neg h1] at h;exact absurd h h1
theorem r_negI {P:Program} {n:Nat} {f:Fr} {w:World} {dst:Option Tmp} {ty t:TypeId} {pos:String} {af:Array Edge} {gd:Option (Nat×Bool)} {x:Operand} {a:Int} (hx:ev n f x= .int .i64 a) (h:-9223372036854775808≤0 - a∧0 - a≤9223372036854775807):
    RV P n f w ⟨dst,.unOp .neg t x,ty,pos,af,gd⟩ (.int .i64 (-a)) w:=by
  have h2:IntKind.i64.wrap (0 - a)= -a:=by rw [IntWalk.i64_in _ h];omega
  simp only [RV,execOp,hx,Op.unary,Op.intArith,h2];rfl
end Go.Proofs.YtdkfnakncaggoaaGreatDoor
namespace Go.Proofs.YtdkfnakncaggoaaGreatDoor
open Go.RowKit
theorem fn55:zQ Tryz.prog 55=true:=by kernel_rfl
theorem Bz:(Tryz.prog.info? 32).map (·.size)=some 5:=by kernel_rfl
theorem X7:(Tryz.prog.info? 35).map (·.size)=some 3:=by kernel_rfl
theorem ze35_ZSu:(Tryz.prog.info? 35).map (·.zero)=some (some (.agg #[.int .i64 0,.int .i64 0,.slice none 0 0])):=by kernel_rfl
set_option maxHeartbeats 2000000 in
theorem sum_step {AT AF AR AX AS:Option Addr} {ct cf cr cx cst:Nat} {l:List Ty} {fs:List Ft} {rs:List Rl} {xs:List Lx} {st:List Nd} (hwr:∀ r ∈ rs,0≤r.wt∧r.wt≤1000000) (hwx:∀ x ∈ xs,0≤x.wt∧x.wt≤1000000) {t:Dt} {A:Option Addr} {c:Nat} {w:World} (IH:∀ x ∈ t.kids,∀ (A2:Option Addr) (c2:Nat) (w2:World),RulesIn w2 AR rs→LexesIn w2 AX xs→TresIn w2 A2 x.kids→OkT rs xs.length x→ndT x≤200→Calls Tryz.prog 55 #[.agg #[.slice AT l.length ct,.slice AF fs.length cf,.slice AR rs.length cr,.slice AX xs.length cx,.slice AS st.length cst],.agg #[.int .i64 (x).rule,.int .i64 (x).lex,.slice A2 (x).kids.length c2]] w2 fun e w'=>e= .returned (.int .i64 (wtT rs xs x))∧Bel w2 w') (hRu:RulesIn w AR rs) (hLx:LexesIn w AX xs) (hT:TresIn w A t.kids) (hok:OkT rs xs.length t) (hnd:ndT t≤200):Calls Tryz.prog 55 #[.agg #[.slice AT l.length ct,.slice AF fs.length cf,.slice AR rs.length cr,.slice AX xs.length cx,.slice AS st.length cst],.agg #[.int .i64 (t).rule,.int .i64 (t).lex,.slice A (t).kids.length c]] w fun e w'=>e= .returned (.int .i64 (wtT rs xs t))∧Bel w w':=by
 have hmx:=hT.le;unfold yJ at hmx;obtain⟨hk1,hk2⟩:=hok.at_;have hrx:=hRu.1;have hxx:=hLx.1;unfold yJ at hrx hxx;obtain⟨hw0,hw1⟩:=Cy hwr hwx (SizeOf.sizeOf t + 1) t (Nat.lt_succ_self _) hok;refine enter Tryz.func55 Tryz.ntmps55 rfl (Nat.le_of_ble_eq_true rfl) ?_;have hB:Bel w w:=Below.refl _ _;refine zn2 ?_;refine qW (v:= .agg #[_,_,_,_,_]) (cs:=#[_,_,_,_,_]) rfl rfl (fun b2 w1 hb2 hs hr=>?_);replace hB:=hB.tr0 hs;refine qW (v:= .agg #[_,_,_]) (cs:=#[_,_,_]) rfl rfl (fun b3 w2 hb3 hs hr=>?_);replace hB:=hB.tr0 hs;replace hb2:=hb2.tr0 hs;refine vx ?_;refine zw rfl (fun c10=>?_) (fun c10=>?_)
 ·obtain⟨_,q1,q2,_⟩:=Z5 hk1 c10;obtain⟨xi,hxi⟩:=Int.eq_ofNat_of_zero_le q1;have hxil:xi < xs.length:=by omega
  obtain⟨xb,xo,Gk,cgk,Sk,csk,Bk,mk,rfl,hxb,_,hxr,_,_,_⟩:=hLx.at_ hB hxil;refine zn5 ?_;refine wl (qk (v:= .int .i64 ((xi:Nat):Int)) U3 rfl rfl (by rw [← hxi];exact hb3.cell rfl)) (zn2 ?_);refine wl (qk (v:= .int _ _) U3 rfl rfl (hxr 2 _ rfl)) (zn6 ?_);exact⟨by rw [TQ c10,Dv hxil hxi];rfl,hB⟩
 obtain⟨q1,_,_⟩:=Yx hk1 c10;obtain⟨ri,hri⟩:=Int.eq_ofNat_of_zero_le (Int.not_lt.1 c10);have hril:ri < rs.length:=by omega
 obtain⟨rb,ro,Gk,cgk,Sk,csk,Bk,mk,rfl,hrb,hrr,_,_,_⟩:=hRu.at_ hB hril;have hwt:=TZ (rs:=rs) (xs:=xs) c10;rw [O6 hril hri] at hwt;obtain⟨a1,a2⟩:=hwr _ (List.getElem_mem hril);refine zn7 ?_;refine wl (qk (v:= .int .i64 ((ri:Nat):Int)) U3 rfl rfl (by rw [← hri];exact hb3.cell rfl)) (zn2 ?_);refine wl (qk (v:= .int _ _) U3 rfl rfl (hrr 3 _ rfl)) (jq ?_);refine q8 [5,7,28,29,30,31,32,33,34,35,36,37] (fun m g w'=>∃ (j:Nat) (acc:Int),j≤t.kids.length∧m=t.kids.length - j∧g 28= .int .i64 j∧g 5= .int .i64 acc∧0≤acc∧wtT rs xs t=acc + X4 rs xs (t.kids.drop j)∧Bel w w'∧Blk w' b2 32 #[.slice AT l.length ct,.slice AF fs.length cf,.slice (some ⟨rb,ro,none⟩) rs.length cr,.slice AX xs.length cx,.slice AS st.length cst]∧Blk w' b3 35 #[.int .i64 t.rule,.int .i64 t.lex,.slice A t.kids.length c]) (t.kids.length) ?_ (fun m g5 w3 hI=>?_)
 ·exact⟨0,_,Nat.zero_le _,rfl,rfl,rfl,a1,hwt,hB,hb2,hb3⟩
 obtain⟨j,acc,hj,hm,h28,h5,hacc,hR,hB,hb2,hb3⟩:=hI;refine zJ 28 (.int .i64 j) h28 nu (zJ 5 (.int .i64 acc) h5 nu (zn6 ?_));refine zw rfl (fun c29=>?_) (fun c29=>?_)
 ·have hjl:j < t.kids.length:=by omega
  obtain⟨sb,so,A',c',rfl,hsb,hsr,hs2⟩:=hT.at_ hjl;have hmem:=List.getElem_mem hjl;have hnk:=H8 hmem;have hd0:=Tw hwr hwx (t.kids.drop (j + 1)) (fun y hy=>hk2 y (List.mem_of_mem_drop hy));have hd1:=Vj (rs:=rs) (xs:=xs) hjl;have hd2:=(Cy hwr hwx (SizeOf.sizeOf (t.kids[j]'hjl) + 1) _ (Nat.lt_succ_self _) (hk2 _ hmem)).1;refine zn8 ?_;refine xV (cs:=#[.int .i64 0,.int .i64 0,.slice none 0 0]) ze35_ZSu rfl (fun _=>rfl) (fun _=>rfl) X7 rfl zK (fun b7 w5 hb7 hs hr=>?_);replace hB:=hB.tr0 hs;replace hb2:=hb2.tr0 hs;replace hb3:=hb3.tr0 hs;refine zn6 ?_;refine zV fn55 (IH _ hmem A' c' _ (hRu.mono hB) (hLx.mono hB) (hs2.mono hB) (hk2 _ hmem) om) rfl (fun e' w6 hr=>?_);obtain⟨rfl,hs⟩:=hr;replace hs:=sB hs;replace hB:=hB.tr0 hs;replace hb2:=hb2.tr0 hs;replace hb3:=hb3.tr0 hs;refine⟨_,rfl,?_⟩;refine zn9 ?_;refine xv (t.kids.length - (j + 1)) om agA ?_;exact⟨j + 1,_,by omega,rfl,rfl,rfl,by omega,by rw [hR,Vj hjl];omega,hB,hb2,hb3⟩
 have hje:j=t.kids.length:=by omega
 rw [hje,List.drop_length,X4] at hR;refine jq ?_;exact⟨by rw [hR,Int.add_zero];rfl,hB⟩
theorem sum_anyK {AT AF AR AX AS:Option Addr} {ct cf cr cx cst:Nat} {l:List Ty} {fs:List Ft} {rs:List Rl} {xs:List Lx} {st:List Nd} (hwr:∀ r ∈ rs,0≤r.wt∧r.wt≤1000000) (hwx:∀ x ∈ xs,0≤x.wt∧x.wt≤1000000):∀ (k:Nat) (t:Dt),SizeOf.sizeOf t < k→∀ (A:Option Addr) (c:Nat) (w:World),RulesIn w AR rs→LexesIn w AX xs→TresIn w A t.kids→OkT rs xs.length t→ndT t≤200→Calls Tryz.prog 55 #[.agg #[.slice AT l.length ct,.slice AF fs.length cf,.slice AR rs.length cr,.slice AX xs.length cx,.slice AS st.length cst],.agg #[.int .i64 (t).rule,.int .i64 (t).lex,.slice A (t).kids.length c]] w fun e w'=>e= .returned (.int .i64 (wtT rs xs t))∧Bel w w':=by
  intro k
  induction k with
  | zero=>intro t h;omega
  | succ k ih=>
    intro t h A c w hRu hLx hT hok hnd;refine sum_step hwr hwx (fun x hx A2 c2 w2 h1 h2 h3 h4 h5=>ih x ?_ A2 c2 w2 h1 h2 h3 h4 h5) hRu hLx hT hok hnd;have:=List.sizeOf_lt_of_mem hx;cases t with
    | mk r x ks=>simp only [Dt.mk.sizeOf_spec,Dt.kids] at h this;omega
theorem WV {AT AF AR AX AS:Option Addr} {ct cf cr cx cst:Nat} {l:List Ty} {fs:List Ft} {rs:List Rl} {xs:List Lx} {st:List Nd} (hwr:∀ r ∈ rs,0≤r.wt∧r.wt≤1000000) (hwx:∀ x ∈ xs,0≤x.wt∧x.wt≤1000000)  (t:Dt) (A:Option Addr) (c:Nat) (w:World):RulesIn w AR rs→LexesIn w AX xs→TresIn w A t.kids→OkT rs xs.length t→ndT t≤200→Calls Tryz.prog 55 #[.agg #[.slice AT l.length ct,.slice AF fs.length cf,.slice AR rs.length cr,.slice AX xs.length cx,.slice AS st.length cst],.agg #[.int .i64 (t).rule,.int .i64 (t).lex,.slice A (t).kids.length c]] w fun e w'=>e= .returned (.int .i64 (wtT rs xs t))∧Bel w w':=sum_anyK hwr hwx (SizeOf.sizeOf t + 1) t (Nat.lt_succ_self _) A c w
end Go.Proofs.YtdkfnakncaggoaaGreatDoor
