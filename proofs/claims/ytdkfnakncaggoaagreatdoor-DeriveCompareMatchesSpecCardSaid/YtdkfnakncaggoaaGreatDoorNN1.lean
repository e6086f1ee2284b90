/- What these functions of the program compute, at every world: glosswright/grammar.Validate. What these functions of the program compute, at every world: glosswright/glosswrightref3.runeLength, glosswright/glosswrightref3.Word. What these functions of the program compute, at every world: glosswright/glosswrightref1.Name. -/
import Derived.Test.YtdkfnakncaggoaaGreatDoorU
import Derived.Test.YtdkfnakncaggoaaGreatDoorName
import Derived.Test.YtdkfnakncaggoaaGreatDoorGEn
import Derived.Test.YtdkfnakncaggoaaGreatDoorWRc
import Derived.Test.YtdkfnakncaggoaaGreatDoorNTo
namespace Go.Proofs.YtdkfnakncaggoaaGreatDoor
open Go.RowKit
theorem FQ:zQ Tryz.prog 40=true:=by kernel_rfl
theorem fn41_GVd:zQ Tryz.prog 41=true:=by kernel_rfl
theorem fn61:zQ Tryz.prog 61=true:=by kernel_rfl
theorem fn63:zQ Tryz.prog 63=true:=by kernel_rfl
theorem fn64:zQ Tryz.prog 64=true:=by kernel_rfl
theorem sz57:(Tryz.prog.info? 57).map (·.size)=some 9:=by kernel_rfl
theorem sz60:(Tryz.prog.info? 60).map (·.size)=some 10:=by kernel_rfl
theorem ze25:(Tryz.prog.info? 25).map (·.zero)=some (some (.agg #[.slice none 0 0,.slice none 0 0])):=by kernel_rfl
theorem ze57:(Tryz.prog.info? 57).map (·.zero)=some (some (.agg #[.string ⟨#[]⟩,.slice none 0 0,.int .i64 0,.int .i64 0,.string ⟨#[]⟩,.int .i64 0,.string ⟨#[]⟩,.slice none 0 0,.slice none 0 0])):=by kernel_rfl
theorem ze60:(Tryz.prog.info? 60).map (·.zero)=some (some (.agg #[.string ⟨#[]⟩,.slice none 0 0,.int .i64 0,.int .i64 0,.int .i64 0,.string ⟨#[]⟩,.int .i64 0,.string ⟨#[]⟩,.slice none 0 0,.slice none 0 0])):=by kernel_rfl
theorem ze94_GVd:(Tryz.prog.info? 94).map (·.zero)=some (some (.agg #[.slice none 0 0,.slice none 0 0])):=by kernel_rfl
set_option maxHeartbeats 2000000 in
theorem SW (AT AF AR AX AS:Option Addr) (ct cf cr cx cst:Nat) (l:List Ty) (fs:List Ft) (rs:List Rl) (xs:List Lx) (st:List Nd) (w:World) (hTab:TabIn w) (hU:U8In w) (hTy:TypesIn w AT l) (hF:FeatsIn w AF fs) (hRu:RulesIn w AR rs) (hLx:LexesIn w AX xs) (hG:NodesIn w AS st):Calls Tryz.prog 39 #[.agg #[.slice AT l.length ct,.slice AF fs.length cf,.slice AR rs.length cr,.slice AX xs.length cx,.slice AS st.length cst]] w fun e w'=>e= .returned (flV (x8 l fs rs xs st))∧Bel w w':=by
 refine enter Tryz.func39 Tryz.ntmps39 rfl (Nat.le_of_ble_eq_true rfl) ?_;have hB:Bel w w:=Below.refl _ _;refine zn2 ?_;refine qW (v:= .agg #[_,_,_,_,_]) (cs:=#[_,_,_,_,_]) rfl rfl (fun b1 w1 hb1 hs hr=>?_);replace hB:=hB.tr0 hs;refine qZ (cs:=#[.int .i64 0,.int .i64 0]) zY rfl (fun b2 w2 hb2 hs hr=>?_);have lo2:=nLT (Bel.size hB) hr;replace hB:=hB.tr0 hs;replace hb1:=hb1.tr0 hs;refine zn5 ?_;refine wl (zW U25 rfl rfl (hb1.sub (n:=2) (xs:=[_,_]) rfl) Ly) ?_;refine xV (cs:=#[.slice none 0 0,.slice none 0 0]) ze25 rfl (fun _=>rfl) (fun _=>rfl) Ly rfl zK (fun b3 w4 hb3 hs hr=>?_);replace hB:=hB.tr0 hs;replace hb1:=hb1.tr0 hs;replace hb2:=hb2.tr0 hs;refine zn6 ?_;refine zV fn61 (Ey AT AF ct cf l fs _ (hTab.mono hB) (hTy.mono hB) (hF.mono hB)) rfl (fun e' w5 hr=>?_);obtain⟨rfl,hs⟩:=hr;replace hs:=sB hs;replace hB:=hB.tr0 hs;replace hb1:=hb1.tr0 hs;replace hb2:=hb2.tr0 hs;replace hb3:=hb3.tr0 hs;refine⟨_,rfl,?_⟩;refine xV (cs:=#[.int .i64 0,.int .i64 0]) zY rfl (fun _=>rfl) (fun _=>rfl) zq rfl zK (fun b4 w7 hb4 hs hr=>?_);replace hB:=hB.tr0 hs;replace hb1:=hb1.tr0 hs;replace hb2:=hb2.tr0 hs;replace hb3:=hb3.tr0 hs;refine zn9 ?_;refine zw rfl (fun c22=>?_) (fun c22=>?_)
 ·refine zn3 ?_;refine zk hb2 rfl rfl zq rfl zK (fun w8 hq hs=>?_);replace hB:=hB.tr1 hs lo2;replace hb2:=hq;refine zn4 ?_;refine x5 (.inl rfl) rfl (zy U37 rfl rfl hb2.range0 zq) ?_;exact⟨qQ (DW c22),hB⟩
 have h0:=Decidable.not_not.1 c22;have hS:=BZ h0;have hfo:=fok_of h0;have h40:=Ez h0;refine vx ?_;refine zw rfl (fun c27=>?_) (fun c27=>?_)
 ·refine zn2 ?_;refine zV FQ (kj _ _ _) rfl (fun e' w9 hr=>?_);obtain⟨rfl,hs⟩:=hr;replace hs:=sB hs;replace hB:=hB.tr0 hs;replace hb2:=hb2.tr0 hs;refine⟨_,rfl,?_⟩;refine zk hb2 rfl rfl zq rfl zK (fun w10 hq hs=>?_);replace hB:=hB.tr1 hs lo2;replace hb2:=hq;refine zn4 ?_;refine x5 (.inl rfl) rfl (zy U37 rfl rfl hb2.range0 zq) ?_;exact⟨qQ (Fv h0 om),hB⟩
 have hf3:¬fs.length≤3:=by omega
 refine zn4 ?_;refine x7 [29,30,31,32,33,34,35,36,37,38] 38 (.bool (decide (40 < rs.length∨100 < xs.length))) nu ?_ (fun gq=>?_)
 ·refine zn6 ?_;refine zj 33 rfl (fun g33=>?_) (fun g33=>?_)
  ·refine zn5 ?_;refine zZ (e_R ⟨rfl,agA,?_⟩);exact clA
  refine zn9 ?_;refine zZ (e_R ⟨rfl,agA,?_⟩);exact clA
 refine e_S ?_;refine zw rfl (fun h38=>?_) (fun h38=>?_)
 ·refine zn2 ?_;refine zV FQ (kj _ _ _) rfl (fun e' w11 hr=>?_);obtain⟨rfl,hs⟩:=hr;replace hs:=sB hs;replace hB:=hB.tr0 hs;replace hb2:=hb2.tr0 hs;refine⟨_,rfl,?_⟩;refine zk hb2 rfl rfl zq rfl zK (fun w12 hq hs=>?_);replace hB:=hB.tr1 hs lo2;replace hb2:=hq;refine zn4 ?_;refine x5 (.inl rfl) rfl (zy U37 rfl rfl hb2.range0 zq) ?_;exact⟨qQ (DV h0 hf3 h38),hB⟩
 refine zn6 ?_;refine zV fn41_GVd (Mq AT ct l _ (hTy.mono hB) hS.vt hS.le) rfl (fun e' w13 hr=>?_);obtain⟨bu,bd,rfl,hTI,hs⟩:=hr;replace hs:=sB hs;replace hB:=hB.tr0 hs;replace hb1:=hb1.tr0 hs;replace hb2:=hb2.tr0 hs;replace hb3:=hb3.tr0 hs;replace hb4:=hb4.tr0 hs;obtain⟨wT,hwT⟩:∃ x,x=w13:=⟨_,rfl⟩
 have hBT:Bel wT w13:=by rw [hwT];exact Below.refl _ _
 rw [← hwT] at hTI;refine⟨_,rfl,?_⟩;refine xV (cs:=#[.slice none 0 0,.slice none 0 0]) ze94_GVd rfl (fun _=>rfl) (fun _=>rfl) Kx rfl zK (fun b5 w15 hb5 hs hr=>?_);replace hB:=hB.tr0 hs;replace hb1:=hb1.tr0 hs;replace hb2:=hb2.tr0 hs;replace hb3:=hb3.tr0 hs;replace hb4:=hb4.tr0 hs;replace hBT:=hBT.tr0 hs;refine zn4 ?_;refine wl_mm (fun b43 w16 hb43 hs hr=>?_);have:=nLL hb1.lt hr;have:=nLL hb2.lt hr;have:=nLL hb3.lt hr;have:=nLL hb5.lt hr;have lo43:=nLT (Bel.size hB) hr;have lo_hBT_b43:=nLT (Bel.size hBT) hr;replace hB:=hB.tr0 hs;replace hb1:=hb1.tr0 hs;replace hb2:=hb2.tr0 hs;replace hb3:=hb3.tr0 hs;replace hBT:=hBT.tr0 hs;replace hb5:=hb5.tr0 hs;refine wl (u7 (v:= .map _) rfl) (yj ?_);refine q8 [7,8,9,10,11,47,48,49,50,51,52,53,54,55,56,57,58,59,60,61,62,63,64,65,66,67,68,69,70,71,72,73,74,75,76,77,78,79,80,81] (fun m g w'=>∃ (k:Nat) (mp:List (ByteArray×Value)),k≤rs.length∧m=rs.length - k∧g 47= .int .i64 k∧Bel w w'∧Bel wT w'∧Blk w' b1 32 #[.slice AT l.length ct,.slice AF fs.length cf,.slice AR rs.length cr,.slice AX xs.length cx,.slice AS st.length cst]∧Blk w' b2 37 #[.int .i64 0,.int .i64 0]∧Blk w' b3 25 #[.slice AT l.length ct,.slice AF fs.length cf]∧Blk w' b5 94 #[.slice (some ⟨bu,0,none⟩) l.length l.length,.slice (some ⟨bd,0,none⟩) l.length l.length]∧MapS w' b43 mp∧(∀ s,lkB mp s=j9 ((rs.take k).map (·.name)) s)∧qy (kq l fs rs) 0 rs.length=qy (kq l fs rs) k (rs.length - k)) (rs.length) ?_ (fun m g12 w17 hI=>?_)
 ·exact⟨0,[],Nat.zero_le _,rfl,rfl,hB,hBT,hb1,hb2,hb3,hb5,hb43,fun s=>rfl,rfl⟩
 obtain⟨k,mp,hk,hm,h47,hB,hBT,hb1,hb2,hb3,hb5,hb43,hmp,hR'⟩:=hI;refine zJ 47 (.int .i64 k) h47 nu (zn6 ?_);refine zw rfl (fun c48=>?_) (fun c48=>?_)
 ·have hlt:k < rs.length:=by omega
  obtain⟨tb,to,Gk,cgk,Sk,csk,Bk,mk,rfl,htb,htr,hGk,hSk,hTk⟩:=hRu.at_ hB hlt;refine zn8 ?_;refine wl (zW U60 rfl rfl htr sz60) ?_;refine qZ (cs:=#[.string ⟨#[]⟩,.slice none 0 0,.int .i64 0,.int .i64 0,.int .i64 0,.string ⟨#[]⟩,.int .i64 0,.string ⟨#[]⟩,.slice none 0 0,.slice none 0 0]) ze60 rfl (fun b8 w18 hb8 hs hr=>?_);have:=nLL hb1.lt hr;have:=nLL hb2.lt hr;have:=nLL hb3.lt hr;have:=nLL hb5.lt hr;have:=nLL hb43.lt hr;have lo8:=nLT (Bel.size hB) hr;have lo_hBT_b8:=nLT (Bel.size hBT) hr;replace hB:=hB.tr0 hs;replace hb1:=hb1.tr0 hs;replace hb2:=hb2.tr0 hs;replace hb3:=hb3.tr0 hs;replace hBT:=hBT.tr0 hs;replace hb5:=hb5.tr0 hs;replace hb43:=hb43.tr0 hs;refine waI rfl ?_;refine zk hb8 rfl rfl sz60 rfl zK (fun w19 hq hs=>?_);replace hB:=hB.tr1 hs lo8;replace hb1:=hb1.tr1 hs om;replace hb2:=hb2.tr1 hs om;replace hb3:=hb3.tr1 hs om;replace hBT:=hBT.tr1 hs lo_hBT_b8;replace hb5:=hb5.tr1 hs om;replace hb43:=hb43.tr1 hs om;replace hb8:=hq;refine zn7 ?_;refine zV T0 (JK _ _) rfl (fun e' w20 hr=>?_);obtain⟨rfl,rfl⟩:=hr;refine⟨_,rfl,?_⟩;refine zn3 ?_;refine j7 rfl (fun c55=>?_) (fun c55=>?_)
  ·have hty:=rn10 (l:=l) (fs:=fs) hlt (by simpa using c55);refine zn3 ?_;refine zV FQ (kj _ _ _) rfl (fun e' w21 hr=>?_);obtain⟨rfl,hs⟩:=hr;replace hs:=sB hs;replace hB:=hB.tr0 hs;replace hb2:=hb2.tr0 hs;refine⟨_,rfl,?_⟩;refine zk hb2 rfl rfl zq rfl zK (fun w22 hq hs=>?_);replace hB:=hB.tr1 hs lo2;replace hb2:=hq;refine zn9 ?_;refine x5 (.inl rfl) rfl (zy U37 rfl rfl hb2.range0 zq) ?_;exact⟨qQ (Qx h0 hf3 h38 (hR'.trans (qV om hty (show (10:Int)≠0 by decide))) (show (10:Int)≠0 by decide)),hB⟩
  have hnm:y6 (rs[k]'hlt).name=true:=by simpa using c55
  refine zn5 ?_;refine wl (x9 (v:= .map _) rfl) (zn2 ?_);refine wl (r_lkS hb43 Tj U9 jw rfl rfl) (wmT rfl (wl (jv (v:=_) rfl rfl) (wl (jv (v:= .bool _) rfl rfl) (wl (u7 (v:=_) rfl) (zn8 ?_)))));refine j7 rfl (fun c65=>?_) (fun c65=>?_)
  ·have hty:=rn7 (l:=l) (fs:=fs) hlt hnm ((hmp _).symm.trans c65);refine zn3 ?_;refine zV FQ (kj _ _ _) rfl (fun e' w23 hr=>?_);obtain⟨rfl,hs⟩:=hr;replace hs:=sB hs;replace hB:=hB.tr0 hs;replace hb2:=hb2.tr0 hs;refine⟨_,rfl,?_⟩;refine zk hb2 rfl rfl zq rfl zK (fun w24 hq hs=>?_);replace hB:=hB.tr1 hs lo2;replace hb2:=hq;refine zn9 ?_;refine x5 (.inl rfl) rfl (zy U37 rfl rfl hb2.range0 zq) ?_;exact⟨qQ (Qx h0 hf3 h38 (hR'.trans (qV om hty (show (7:Int)≠0 by decide))) (show (7:Int)≠0 by decide)),hB⟩
  have hsn:j9 ((rs.take k).map (·.name)) (rs[k]'hlt).name=false:=by rw [← hmp];exact c65
  have hmp':∀ s,lkB (Kw mp (rs[k]'hlt).name (.int .i64 k)) s=j9 ((rs.take (k + 1)).map (·.name)) s:=fun s=>by
    rw [kV _ _ _ c65,uz rs hlt,List.map_append,List.map_cons,List.map_nil,gv,← hmp];simp [lkB]
  refine zn4 ?_;refine wl (x9 (v:= .map _) rfl) (zn3 ?_);refine TX (v:= .int _ _) hb43 Tj U9 rfl rfl rfl (fun w25 hq hs=>?_);replace hB:=hB.tr1 hs lo43;replace hb1:=hb1.tr1 hs om;replace hb2:=hb2.tr1 hs om;replace hb3:=hb3.tr1 hs om;replace hBT:=hBT.tr1 hs lo_hBT_b43;replace hb5:=hb5.tr1 hs om;replace hb8:=hb8.tr1 hs om;replace hb43:=hq;refine zn7 ?_;refine zV fn63 (rule_any AT AF Gk Sk Bk ct cf cgk csk mk bu bd l fs (rs[k]'hlt) _ (hTI.mono hBT) hS.le (hF.mono hB) hfo h40 (hGk.mono hB) (hSk.mono hB) (hTk.mono hB)) rfl (fun e' w26 hr=>?_);obtain⟨rfl,hs⟩:=hr;replace hs:=sB hs;replace hB:=hB.tr0 hs;replace hb1:=hb1.tr0 hs;replace hb2:=hb2.tr0 hs;replace hb3:=hb3.tr0 hs;replace hBT:=hBT.tr0 hs;replace hb5:=hb5.tr0 hs;replace hb43:=hb43.tr0 hs;refine⟨_,rfl,?_⟩;refine zn9 ?_;refine zw rfl (fun c77=>?_) (fun c77=>?_)
  ·have hty:=rnF (l:=l) (fs:=fs) hlt hnm hsn;refine zn4 ?_;refine zV FQ (kj _ _ _) rfl (fun e' w27 hr=>?_);obtain⟨rfl,hs⟩:=hr;replace hs:=sB hs;replace hB:=hB.tr0 hs;replace hb2:=hb2.tr0 hs;refine⟨_,rfl,?_⟩;refine zk hb2 rfl rfl zq rfl zK (fun w28 hq hs=>?_);replace hB:=hB.tr1 hs lo2;replace hb2:=hq;refine zn8 ?_;refine x5 (.inl rfl) rfl (zy U37 rfl rfl hb2.range0 zq) ?_;exact⟨qQ (Qx h0 hf3 h38 (hR'.trans (qV om hty c77)) c77),hB⟩
  have hty0:=(rnF (l:=l) (fs:=fs) hlt hnm hsn).trans (Decidable.not_not.1 c77);refine zn7 ?_;refine xv (rs.length - (k + 1)) om agA ?_;exact⟨k + 1,Kw mp (rs[k]'hlt).name (.int .i64 k),by omega,rfl,rfl,hB,hBT,hb1,hb2,hb3,hb5,hb43,hmp',hR'.trans (yx hlt hty0)⟩
 have hRz:qy (kq l fs rs) 0 rs.length=(0,0):=hR'.trans (yK om);refine Zk ?_;refine q8 [12,13,14,85,86,87,88,89,90,91,92,93,94,95,96,97,98,99] (fun m g w'=>∃ q:Nat,q≤xs.length∧m=xs.length - q∧g 85= .int .i64 q∧Bel w w'∧Bel wT w'∧Blk w' b1 32 #[.slice AT l.length ct,.slice AF fs.length cf,.slice AR rs.length cr,.slice AX xs.length cx,.slice AS st.length cst]∧Blk w' b2 37 #[.int .i64 0,.int .i64 0]∧Blk w' b3 25 #[.slice AT l.length ct,.slice AF fs.length cf]∧Blk w' b5 94 #[.slice (some ⟨bu,0,none⟩) l.length l.length,.slice (some ⟨bd,0,none⟩) l.length l.length]∧qy (YJ l fs xs) 0 xs.length=qy (YJ l fs xs) q (xs.length - q)) (xs.length) ?_ (fun m g25 w29 hI=>?_)
 ·exact⟨0,Nat.zero_le _,rfl,rfl,hB,hBT,hb1,hb2,hb3,hb5,rfl⟩
 obtain⟨q,hq,hm,h85,hB,hBT,hb1,hb2,hb3,hb5,hL'⟩:=hI;refine zJ 85 (.int .i64 q) h85 nu (zn6 ?_);refine zw rfl (fun c86=>?_) (fun c86=>?_)
 ·have hlq:q < xs.length:=by omega
  obtain⟨ub,uo,Gk,cgk,Sk,csk,Bk,mk,rfl,hub,hszq,hur,hGk,hSk,hTk⟩:=hLx.at_ hB hlq;refine zn8 ?_;refine wl (zW U57 rfl rfl hur sz57) ?_;refine qZ (cs:=#[.string ⟨#[]⟩,.slice none 0 0,.int .i64 0,.int .i64 0,.string ⟨#[]⟩,.int .i64 0,.string ⟨#[]⟩,.slice none 0 0,.slice none 0 0]) ze57 rfl (fun b13 w30 hb13 hs hr=>?_);have:=nLL hb1.lt hr;have:=nLL hb2.lt hr;have:=nLL hb3.lt hr;have:=nLL hb5.lt hr;have lo13:=nLT (Bel.size hB) hr;have lo_hBT_b13:=nLT (Bel.size hBT) hr;replace hB:=hB.tr0 hs;replace hb1:=hb1.tr0 hs;replace hb2:=hb2.tr0 hs;replace hb3:=hb3.tr0 hs;replace hBT:=hBT.tr0 hs;replace hb5:=hb5.tr0 hs;refine waI rfl ?_;refine zk hb13 rfl rfl sz57 rfl zK (fun w31 hq hs=>?_);replace hB:=hB.tr1 hs lo13;replace hb1:=hb1.tr1 hs om;replace hb2:=hb2.tr1 hs om;replace hb3:=hb3.tr1 hs om;replace hBT:=hBT.tr1 hs lo_hBT_b13;replace hb5:=hb5.tr1 hs om;replace hb13:=hq;refine zn7 ?_;refine zV fn64 (entry_any AT AF Gk Sk Bk ct cf cgk csk mk bu bd l fs (xs[q]'hlq) _ (hU.mono hB) (hTI.mono hBT) hS.le (hF.mono hB) hfo (hGk.mono hB) (hSk.mono hB) (hTk.mono hB) hszq) rfl (fun e' w32 hr=>?_);obtain⟨rfl,hs⟩:=hr;replace hs:=sB hs;replace hB:=hB.tr0 hs;replace hb1:=hb1.tr0 hs;replace hb2:=hb2.tr0 hs;replace hb3:=hb3.tr0 hs;replace hBT:=hBT.tr0 hs;replace hb5:=hb5.tr0 hs;refine⟨_,rfl,?_⟩;refine zn9 ?_;refine zw rfl (fun c95=>?_) (fun c95=>?_)
  ·have hly:=lnF (l:=l) (fs:=fs) hlq;refine zn4 ?_;refine zV FQ (kj _ _ _) rfl (fun e' w33 hr=>?_);obtain⟨rfl,hs⟩:=hr;replace hs:=sB hs;replace hB:=hB.tr0 hs;replace hb2:=hb2.tr0 hs;refine⟨_,rfl,?_⟩;refine zk hb2 rfl rfl zq rfl zK (fun w34 hq hs=>?_);replace hB:=hB.tr1 hs lo2;replace hb2:=hq;refine zn8 ?_;refine x5 (.inl rfl) rfl (zy U37 rfl rfl hb2.range0 zq) ?_;exact⟨qQ (Fk h0 hf3 h38 hRz (hL'.trans (qV om hly c95)) c95),hB⟩
  have hly0:=(lnF (l:=l) (fs:=fs) hlq).trans (Decidable.not_not.1 c95);refine zn7 ?_;refine xv (xs.length - (q + 1)) om agA ?_;exact⟨q + 1,by omega,rfl,rfl,hB,hBT,hb1,hb2,hb3,hb5,hL'.trans (yx hlq hly0)⟩
 have hLz:qy (YJ l fs xs) 0 xs.length=(0,0):=hL'.trans (yK om);refine vx ?_;refine wl (zW U30 rfl rfl (hb1.sub (n:=1) (xs:=[_]) rfl) EW) ?_;refine zV fn42 (V3 AT AF AS ct cf cst bu bd l fs st _ (hTI.mono hBT) hS.le (hF.mono hB) (hG.mono hB) hfo) rfl (fun e' w35 hr=>?_);obtain⟨rfl,hs⟩:=hr;replace hs:=sB hs;replace hB:=hB.tr0 hs;replace hb1:=hb1.tr0 hs;replace hb2:=hb2.tr0 hs;replace hb3:=hb3.tr0 hs;replace hBT:=hBT.tr0 hs;replace hb5:=hb5.tr0 hs;refine⟨_,rfl,?_⟩;refine xV (cs:=#[.int .i64 0,.int .i64 0]) zY rfl (fun _=>rfl) (fun _=>rfl) zq rfl zK (fun b15 w37 hb15 hs hr=>?_);replace hB:=hB.tr0 hs;replace hb2:=hb2.tr0 hs;refine zn9 ?_;refine zw rfl (fun c107=>?_) (fun c107=>?_)
 ·refine zn4 ?_;refine zV FQ (kj _ _ _) rfl (fun e' w38 hr=>?_);obtain⟨rfl,hs⟩:=hr;replace hs:=sB hs;replace hB:=hB.tr0 hs;replace hb2:=hb2.tr0 hs;refine⟨_,rfl,?_⟩;refine zk hb2 rfl rfl zq rfl zK (fun w39 hq hs=>?_);replace hB:=hB.tr1 hs lo2;replace hb2:=hq;refine zn4 ?_;refine x5 (.inl rfl) rfl (zy U37 rfl rfl hb2.range0 zq) ?_;exact⟨qQ (SY h0 hf3 h38 hRz hLz c107),hB⟩
 refine zn4 ?_;refine wl (uw (vs:=#[]) (cs:=#[.int .i64 0,.int .i64 0]) (by simp) kR) ?_;refine zk hb2 rfl rfl zq rfl zK (fun w40 hq hs=>?_);replace hB:=hB.tr1 hs lo2;replace hb2:=hq;refine zn3 ?_;refine x5 (.inl rfl) rfl (zy U37 rfl rfl hb2.range0 zq) ?_;exact⟨qQ (gr_ok h0 hf3 h38 hRz hLz (Decidable.not_not.1 c107)),hB⟩
end Go.Proofs.YtdkfnakncaggoaaGreatDoor
namespace Go.Proofs.YtdkfnakncaggoaaGreatDoor
open Go.RowKit
theorem fn77:zQ Tryz.prog 77=true:=by kernel_rfl
set_option maxHeartbeats 2000000 in
theorem rl_any (x:ByteArray) (hx:0 < x.size) (w:World):Calls Tryz.prog 77 #[.string x] w fun e w'=>e= .returned (.int .i64 (Jk x))∧w=w':=by
 have hb0:=kz x 0;refine enter Tryz.func77 Tryz.ntmps77 rfl (Nat.le_of_ble_eq_true rfl) (zn8 ?_);refine wl (j8 (i:=0) U9 rfl rfl hx) (zn23 ?_);refine zw rfl (fun c10=>?_) (fun c10=>?_)
 ·refine zn9 ?_;exact⟨congrArg (fun z=>Ending.returned (.int .i64 z)) (rlen_low om).symm,rfl⟩
 have h128:128≤gb x 0:=by omega
 refine xX ?_;refine x7 [13,14,15,16,17,18,19] 13 (.bool (decide (194≤gb x 0∧gb x 0≤223))) nu ?_ (fun gq=>?_)
 ·refine zn4 ?_;refine zj 16 rfl (fun g16=>?_) (fun g16=>?_)
  ·refine zn6 ?_;refine zZ (e_R ⟨rfl,agA,?_⟩);exact clA
  refine zn4 ?_;refine zZ (e_R ⟨rfl,agA,?_⟩);exact clA
 refine e_S ?_;refine xK [2,4,5,6,20,21,22,23,24,25,26,27,28,29,30,31,32,33,34,35,36,37,38,39,40,41,42] (fun g w'=>∃ (nn:Nat) (vz lz:Int),g 4= .int .i64 (nn:Int)∧g 6= .int .i64 vz∧g 5= .int .i64 lz∧Hd (gb x 0) nn vz lz∧w=w') ?_ (fun gx1 w1 hI=>?_)
 ·refine zw rfl (fun c13=>?_) (fun c13=>?_)
  ·refine zn2 ?_;refine wl (MJ U5 U3 rfl om) (wl (jV rfl rfl rfl om) (zn4 ?_));refine e_R ⟨agA,?_⟩
   first
     | exact⟨2,_,_,rfl,rfl,rfl,.inl ⟨c13.1,c13.2,rfl,rfl,rfl⟩,rfl⟩
     | exact⟨3,_,_,rfl,rfl,rfl,.inr (.inl ⟨c23.1,c23.2,rfl,rfl,rfl⟩),rfl⟩
     | exact⟨4,_,_,rfl,rfl,rfl,.inr (.inr ⟨c33.1,c33.2,rfl,rfl,rfl⟩),rfl⟩
  refine xX ?_;refine x7 [23,24,25,26,27,28,29] 23 (.bool (decide (224≤gb x 0∧gb x 0≤239))) nu ?_ (fun gq=>?_)
  ·refine zn4 ?_;refine zj 26 rfl (fun g26=>?_) (fun g26=>?_)
   ·refine zn6 ?_;refine zZ (e_R ⟨rfl,agA,?_⟩);exact clA
   refine zn4 ?_;refine zZ (e_R ⟨rfl,agA,?_⟩);exact clA
  refine e_S ?_;refine zw rfl (fun c23=>?_) (fun c23=>?_)
  ·refine zn2 ?_;refine wl (MJ U5 U3 rfl om) (wl (jV rfl rfl rfl om) (zn4 ?_));refine e_R ⟨agA,?_⟩
   first
     | exact⟨2,_,_,rfl,rfl,rfl,.inl ⟨c13.1,c13.2,rfl,rfl,rfl⟩,rfl⟩
     | exact⟨3,_,_,rfl,rfl,rfl,.inr (.inl ⟨c23.1,c23.2,rfl,rfl,rfl⟩),rfl⟩
     | exact⟨4,_,_,rfl,rfl,rfl,.inr (.inr ⟨c33.1,c33.2,rfl,rfl,rfl⟩),rfl⟩
  refine xX ?_;refine x7 [33,34,35,36,37,38,39] 33 (.bool (decide (240≤gb x 0∧gb x 0≤244))) nu ?_ (fun gq=>?_)
  ·refine zn4 ?_;refine zj 36 rfl (fun g36=>?_) (fun g36=>?_)
   ·refine zn6 ?_;refine zZ (e_R ⟨rfl,agA,?_⟩);exact clA
   refine zn4 ?_;refine zZ (e_R ⟨rfl,agA,?_⟩);exact clA
  refine e_S ?_;refine zw rfl (fun c33=>?_) (fun c33=>?_)
  ·refine zn2 ?_;refine wl (MJ U5 U3 rfl om) (wl (jV rfl rfl rfl om) (zn4 ?_));refine e_R ⟨agA,?_⟩
   first
     | exact⟨2,_,_,rfl,rfl,rfl,.inl ⟨c13.1,c13.2,rfl,rfl,rfl⟩,rfl⟩
     | exact⟨3,_,_,rfl,rfl,rfl,.inr (.inl ⟨c23.1,c23.2,rfl,rfl,rfl⟩),rfl⟩
     | exact⟨4,_,_,rfl,rfl,rfl,.inr (.inr ⟨c33.1,c33.2,rfl,rfl,rfl⟩),rfl⟩
  refine zn6 ?_;refine e_RSr (zn3 ?_);exact⟨congrArg (fun z=>Ending.returned (.int .i64 z)) (rlen_no h128 om).symm,rfl⟩
 obtain⟨nn,vz,lz,h4,h6,h5,hd,rfl⟩:=hI;obtain⟨hd1,hd2⟩:=hd_rl hd;have hn:2≤nn∧nn≤4∧0≤vz∧vz≤31:=by
   rcases hd with ⟨q1,q2,q3,q4,q5⟩ | ⟨q1,q2,q3,q4,q5⟩ | ⟨q1,q2,q3,q4,q5⟩ <;> omega
 clear hd;refine jJ 4 (.int .i64 (nn:Int)) h4 nu (jJ 6 (.int .i64 vz) h6 nu (jJ 5 (.int .i64 lz) h5 nu (vx ?_)));refine zw rfl (fun c46=>?_) (fun c46=>?_)
 ·refine zn8 ?_;exact⟨congrArg (fun z=>Ending.returned (.int .i64 z)) (hd2 (.inl om)).symm,rfl⟩
 have hxs:nn≤x.size:=by omega
 refine zn9 ?_;refine q8 [2,6,7,47,48,49,50,51,52,53,54,55,56,57,58,59,60,61,62,63,64,65,66,67,68,69] (fun m g w'=>∃ k:Nat,k + 1≤nn∧m=nn - (k + 1)∧g 7= .int .i64 ((k + 1:Nat):Int)∧g 6= .int .i64 (vv x vz k)∧(∀ j,1≤j→j < k + 1→128≤gb x j∧gb x j≤191)∧0≤vv x vz k∧((k=0∧vv x vz k≤31)∨(k=1∧vv x vz k≤2047)∨(k=2∧vv x vz k≤131071)∨(k=3∧vv x vz k≤8388607))∧w=w') (nn - 1) ?_ (fun m g16 w2 hI=>?_)
 ·exact⟨0,by omega,rfl,rfl,rfl,fun j h1 h2=>by omega,hn.2.2.1,.inl ⟨rfl,hn.2.2.2⟩,rfl⟩
 obtain⟨k,hk,hm,h7,h6b,hall,hv0,hvb,rfl⟩:=hI;refine zJ 7 (.int .i64 ((k + 1:Nat):Int)) h7 nu (zJ 6 (.int .i64 (vv x vz k)) h6b nu (zn8 ?_));refine zw rfl (fun c49=>?_) (fun c49=>?_)
 ·have hk2:k + 1 < nn:=by omega
  refine zn6 ?_;refine x7 [52,53,54,55,56,57,58,59,60,61] 61 (.bool (decide ((¬(128≤gb x (k + 1)∧gb x (k + 1)≤191))))) nu ?_ (fun gq=>?_)
  ·refine zn3 ?_;refine wl (j8 (i:=(k + 1)) U9 rfl rfl om) (zn2 ?_);refine zj 56 rfl (fun g56=>?_) (fun g56=>?_)
   ·refine zn5 ?_;refine zZ (e_R ⟨rfl,agA,?_⟩);exact clA
   refine zn5 ?_;refine wl (j8 (i:=(k + 1)) U9 rfl rfl om) (zn3 ?_);refine zZ (e_R ⟨rfl,agA,?_⟩);exact clA
  refine e_S ?_;refine zw rfl (fun c61=>?_) (fun c61=>?_)
  ·refine jq ?_;exact⟨congrArg (fun z=>Ending.returned (.int .i64 z)) (hd2 (.inr (.inl ⟨k + 1,by omega,hk2,c61⟩))).symm,rfl⟩
  have hbt:128≤gb x (k + 1)∧gb x (k + 1)≤191:=Decidable.not_not.1 c61;refine zn4 ?_;refine wl (r_mul rfl rfl rfl (by clear hall hd1 hd2;omega)) (zn2 ?_);refine wl (j8 (i:=(k + 1)) U9 rfl rfl om) (wl (MJ U5 U3 rfl om) (wl (kK rfl rfl rfl (by clear hall hd1 hd2;omega)) (wl (jV rfl rfl rfl (by clear hall hd1 hd2;omega)) (zn9 ?_))));refine xv (nn - (k + 2)) om agA ?_;refine⟨k + 1,by omega,rfl,rfl,rfl,fun j h1 h2=>?_,?_,?_,rfl⟩
  · by_cases e:j=k + 1
    · rw [e];exact hbt
    · exact hall j h1 om
  · simp only [vv];omega
  · simp only [vv];clear hall hd1 hd2;omega
 have hkn:nn=k + 1:=by omega
 subst hkn;simp only [Nat.add_sub_cancel] at hd1 hd2;refine zn7 ?_
 try clear h6
 refine x7 [70,71,72,73,74,75,76,77,78,79,80,81,82,83,84] 84 (.bool (decide (vv x vz k < lz∨1114111 < vv x vz k∨(55296≤vv x vz k∧vv x vz k≤57343)))) nu ?_ (fun gq=>?_)
 ·refine zn5 ?_;refine zj 73 rfl (fun g73=>?_) (fun g73=>?_)
  ·refine vx ?_;refine zZ (e_R ⟨rfl,agA,?_⟩);exact clA
  refine zn6 ?_;refine zj 77 rfl (fun g77=>?_) (fun g77=>?_)
  ·refine zn7 ?_;refine zZ (e_R ⟨rfl,agA,?_⟩);exact clA
  refine zn6 ?_;refine zj 80 rfl (fun g80=>?_) (fun g80=>?_)
  ·refine zn7 ?_;refine zZ (e_R ⟨rfl,agA,?_⟩);exact clA
  refine zn5 ?_;refine zZ (e_R ⟨rfl,agA,?_⟩);exact clA
 refine e_S ?_;refine zw rfl (fun c84=>?_) (fun c84=>?_)
 ·refine zn8 ?_;exact⟨congrArg (fun z=>Ending.returned (.int .i64 z)) (hd2 (.inr (.inr ⟨c84,hall⟩))).symm,rfl⟩
 refine yq ?_;exact⟨congrArg (fun z=>Ending.returned (.int .i64 z)) (hd1 hxs hall c84).symm,rfl⟩
set_option maxHeartbeats 2000000 in
theorem L6 (s:ByteArray) (w:World) (hsz:s.size < 9223372036854775807):Calls Tryz.prog 60 #[.string s] w fun e w'=>e= .returned (.bool (jz s))∧Bel w w':=by
 refine enter Tryz.func60 Tryz.ntmps60 rfl (Nat.le_of_ble_eq_true rfl) ?_;have hB:Bel w w:=Below.refl _ _;refine oY ?_;refine W4 U9 rfl (fun b9 w1 hb9 hs hr=>?_);have lo9:=nLT (Bel.size hB) hr;replace hB:=hB.tr0 hs;refine zn3 ?_;refine q8 [2,3,5,10,11,12,13,14,15,16,17,18,19,20,21,22,23,24,25,26,27,28,29,30,31,32,33,34,35,36,37,38,39,40,41,42,43,44,45,46,47,48] (fun m g w'=>∃ p n:Nat,p≤s.size∧m=s.size - p∧n≤p∧g 3= .int .i64 n∧n + (ch s p).length=(ch s 0).length∧brd s 0=brd s p∧Bel w w'∧ItIn w' b9 s p) (s.size) ?_ (fun m g3 w2 hI=>?_)
 ·exact⟨0,0,Nat.zero_le _,rfl,Nat.le_refl _,rfl,Nat.zero_add _,rfl,hB,hb9⟩
 obtain⟨p,n,hp,hm,hnp,h3,hc,hbr,hB,hb9⟩:=hI;refine zJ 3 (.int .i64 n) h3 nu (zn2 ?_);rcases Nat.lt_or_ge (p) (s).size with hnlt | hnge
 ·refine W5 hb9 rfl hnlt (fun w3 hq hs=>?_);replace hB:=hB.tr1 hs lo9;replace hb9:=hq;have hwp:=Z3 hnlt;have hwl:=Ew hnlt;rw [K3 hnlt,List.length_cons] at hc;refine wl (jv (v:= .bool true) rfl rfl) (zn9 ?_);refine wl (jv (v:= .int _ _) rfl rfl) (vx ?_);refine x7 [15,16,17,18,19,20,21,22,23,24,25,26,27,28,29,30,31,32,33,34,35,36,37,38,39,40,41,42,43,44,45,46,47,48] 48 (.bool (decide ((Utf8.decode s p).1=32∨(Utf8.decode s p).1=9∨(Utf8.decode s p).1=10∨(Utf8.decode s p).1=40∨(Utf8.decode s p).1=41∨(Utf8.decode s p).1=91∨(Utf8.decode s p).1=93∨(Utf8.decode s p).1=44∨(Utf8.decode s p).1=59))) nu ?_ (fun gq=>?_)
  ·refine zn4 ?_;refine zj 17 rfl (fun g17=>?_) (fun g17=>?_)
   ·refine zn30 ?_;refine zn1 ?_;refine zZ (e_R ⟨rfl,agA,?_⟩);exact clA
   refine zn6 ?_;refine zj 21 rfl (fun g21=>?_) (fun g21=>?_)
   ·refine zn27 ?_;refine zZ (e_R ⟨rfl,agA,?_⟩);exact clA
   refine zn6 ?_;refine zj 25 rfl (fun g25=>?_) (fun g25=>?_)
   ·refine zn23 ?_;refine zZ (e_R ⟨rfl,agA,?_⟩);exact clA
   refine zn6 ?_;refine zj 29 rfl (fun g29=>?_) (fun g29=>?_)
   ·refine zn19 ?_;refine zZ (e_R ⟨rfl,agA,?_⟩);exact clA
   refine zn6 ?_;refine zj 33 rfl (fun g33=>?_) (fun g33=>?_)
   ·refine Zk ?_;refine zZ (e_R ⟨rfl,agA,?_⟩);exact clA
   refine zn6 ?_;refine zj 37 rfl (fun g37=>?_) (fun g37=>?_)
   ·refine vx ?_;refine zZ (e_R ⟨rfl,agA,?_⟩);exact clA
   refine zn6 ?_;refine zj 41 rfl (fun g41=>?_) (fun g41=>?_)
   ·refine zn7 ?_;refine zZ (e_R ⟨rfl,agA,?_⟩);exact clA
   refine zn6 ?_;refine zj 45 rfl (fun g45=>?_) (fun g45=>?_)
   ·refine zn3 ?_;refine zZ (e_R ⟨rfl,agA,?_⟩);exact clA
   refine zn5 ?_;refine zZ (e_R ⟨rfl,agA,?_⟩);exact clA
  refine e_S ?_;refine zw rfl (fun c48=>?_) (fun c48=>?_)
  ·refine vx ?_;exact⟨congrArg (fun b=>Ending.returned (.bool b)) (by unfold jz;rw [hbr,Q0 hnlt,(H1 _).2 c48];simp),hB⟩
  have hsn:spc (Utf8.decode s p).1=false:=by
    cases h:spc (Utf8.decode s p).1 with
    | false=>rfl
    | true=>exact absurd ((H1 _).1 h) c48
  refine uY (e_B (xv (s.size - (p + wdt s p)) om agA ?_));exact⟨p + wdt s p,n + 1,hwl,rfl,by omega,rfl,by omega,by rw [hbr,Q0 hnlt,hsn,Bool.false_or],hB,hb9⟩
 refine wl (r_ne hb9 rfl (Nat.not_lt.2 hnge)) ?_;rw [C5 (Nat.not_lt.2 hnge),List.length_nil,Nat.add_zero] at hc;rw [IW (Nat.not_lt.2 hnge)] at hbr;refine wl (jv (v:= .bool false) rfl rfl) (vx ?_);refine x7 [49,50,51,52,53,54] 54 (.bool (decide (n < 1∨30 < n))) nu ?_ (fun gq=>?_)
 ·refine zn4 ?_;refine zj 51 rfl (fun g51=>?_) (fun g51=>?_)
  ·refine zn3 ?_;refine zZ (e_R ⟨rfl,agA,?_⟩);exact clA
  refine zn5 ?_;refine zZ (e_R ⟨rfl,agA,?_⟩);exact clA
 refine e_S ?_;refine zw rfl (fun c54=>?_) (fun c54=>?_)
 ·refine zn8 ?_;exact⟨congrArg (fun b=>Ending.returned (.bool b)) (by unfold jz;rcases c54 with h | h <;> first | (rw [decide_eq_false (show ¬1≤(ch s 0).length by omega)];rfl) | (rw [decide_eq_false (show ¬(ch s 0).length≤30 by omega)];simp)),hB⟩
 refine zn9 ?_;refine q8 [2,6,7,55,56,57,58,59,60,61,62,63,64,65,66,67] (fun m g w'=>∃ q:Nat,q≤s.size∧s.size - q≤m∧g 6= .int .i64 q∧vq s 0=vq s q∧Bel w w') (s.size) ?_ (fun m g11 w4 hI=>?_)
 ·exact⟨0,Nat.zero_le _,Nat.le_refl _,rfl,rfl,hB⟩
 obtain⟨q,hq,hm2,h6,hv,hB⟩:=hI;obtain⟨mo,rfl⟩:∃ x,x=m:=⟨_,rfl⟩
 refine zJ 6 (.int .i64 q) h6 nu (zn9 ?_);refine zw rfl (fun c58=>?_) (fun c58=>?_)
 ·have hqs:q < s.size:=by omega
  have hwp2:=Z3 hqs;have hwl2:=Ew hqs;refine zn7 ?_;refine wl (ZK (l:=q) U9 rfl rfl om) ?_;refine zV fn77 (rl_any (sdr q s) (by rw [y5];omega) _) rfl (fun e' w5 hr=>?_);obtain⟨rfl,rfl⟩:=hr;have hrl0:=rlen_sdr q s;refine⟨_,rfl,?_⟩;refine yq ?_;refine zw rfl (fun c64=>?_) (fun c64=>?_)
  ·have hok:gK s q=false:=by
     cases h:gK s q with
     | false=>rfl
     | true=>rw [h,if_pos rfl] at hrl0;omega
   refine yj ?_;exact⟨congrArg (fun b=>Ending.returned (.bool b)) (by unfold jz;rw [hv,CQ hqs hok];simp),hB⟩
  have hok:gK s q=true:=by
    cases h:gK s q with
    | true=>rfl
    | false=>rw [h,if_neg dE] at hrl0;exact absurd hrl0 c64
  have hrl:Jk (sdr q s)=((wdt s q:Nat):Int):=by rw [hrl0,hok,if_pos rfl]
  refine zn5 ?_;refine wl (kK rfl rfl rfl (by rw [hrl];omega)) (zn3 ?_);refine xv (mo - 1) om agA ?_;exact⟨q + wdt s q,hwl2,by omega,by rw [hrl];rfl,by rw [hv,CX hqs hok],hB⟩
 rw [vq_end (p:=q) om] at hv;refine yj ?_;exact⟨congrArg (fun b=>Ending.returned (.bool b)) (by unfold jz;rw [hv,hbr,decide_eq_true (show 1≤(ch s 0).length by omega),decide_eq_true (show (ch s 0).length≤30 by omega)];rfl),hB⟩
end Go.Proofs.YtdkfnakncaggoaaGreatDoor
namespace Go.Proofs.YtdkfnakncaggoaaGreatDoor
open Go.RowKit
theorem inB_le (t:Tm) (b:Nat):inB t b≤b + 1:=by unfold inB;split <;> omega
def argN (k:Nat):Int:=if k=3 then 1 else if k=4 then 2 else 0
theorem arg_at {k:Nat} (h:k < 5):(#[.int .i64 0,.int .i64 0,.int .i64 0,.int .i64 1,.int .i64 2]:Array Value)[0 + k * 1]? =some (.int .i64 (argN k)):=by
  match k,h with
  | 0,_=>rfl
  | 1,_=>rfl
  | 2,_=>rfl
  | 3,_=>rfl
  | 4,_=>rfl
def zOk (k:Nat) (t:Tm):Prop:=((t.args.length:Nat):Int)=argN k∧(k=1∨t.name=⟨#[]⟩)∧(k=2∨t.index=0)∧(k=1∨k=3∨QV t.type)
instance (k:Nat) (t:Tm):Decidable (zOk k t):=by unfold zOk;infer_instance
def ndX (n d b:Nat) (t:Tm):Int:=if 200 < n + 1∨40 < d then 1 else ndC b t
theorem ndX_bad {n d b:Nat} {t:Tm} {r:List (Tm×Nat×Nat)} (h:ndX n d b t≠0):tst ((t,d,b) :: r) n=(n + 1,(ndX n d b t,(n:Int))):=by
  unfold ndX at h ⊢;by_cases e:200 < n + 1∨40 < d
  · rw [if_pos e];exact tst_out e
  · rw [if_neg e] at h ⊢;exact tst_bad e h
theorem ndX_go {n d b:Nat} {t:Tm} {r:List (Tm×Nat×Nat)} (h:ndX n d b t=0):tst ((t,d,b) :: r) n=tst (t.args.map (fun y=>(y,d + 1,inB t b)) ++ r) (n + 1)∧(d≤40∧n + 1≤200)∧ndC b t=0:=by
  unfold ndX at h;by_cases e:200 < n + 1∨40 < d
  · rw [if_pos e] at h;cases h
  · rw [if_neg e] at h;exact⟨tst_go e h,⟨by omega,by omega⟩,h⟩
theorem ndC_len {b:Nat} {t:Tm} (h:ndC b t=0):t.args.length≤2:=by
  unfold ndC at h
  repeat' split at h
  all_goals first | omega | (exfalso;revert h;decide)
section x
variable {n d b k:Nat} {t:Tm} (hb:¬(200 < n + 1∨40 < d)) (hk:t.kind=(k:Int)) (h1:1≤k) (h4:k≤4)
include hb
theorem ndX_4 (h:t.kind < 1∨4 < t.kind):ndX n d b t=4:=by
  unfold ndX ndC;rw [if_neg hb,if_neg om,if_neg om,if_neg om,if_neg om]
include hk h1 h4
theorem ndX_5 (h:¬zOk k t):ndX n d b t=5:=by
  unfold ndX ndC;rw [if_neg hb];unfold zOk argN at h
  match k,hk,h1,h4 with
  | 1,hk,_,_=>
    have hk:t.kind=1:=hk;rw [if_pos hk,if_neg (fun e=>h ⟨by simp [e.2],.inl rfl,.inr e.1,.inl rfl⟩)]
  | 2,hk,_,_=>
    have hk:t.kind=2:=hk;rw [if_neg (show ¬t.kind=1 by rw [hk];decide),if_pos hk,if_neg (fun e=>h ⟨by simp [e.2.2],.inr e.1,.inl rfl,.inr (.inr e.2.1)⟩)]
  | 3,hk,_,_=>
    have hk:t.kind=3:=hk;rw [if_neg (show ¬t.kind=1 by rw [hk];decide),if_neg (show ¬t.kind=2 by rw [hk];decide),if_pos hk,if_neg (fun e=>h ⟨by simp [e.2.2],.inr e.1,.inr e.2.1,.inr (.inl rfl)⟩)]
  | 4,hk,_,_=>
    have hk:t.kind=4:=hk;rw [if_neg (show ¬t.kind=1 by rw [hk];decide),if_neg (show ¬t.kind=2 by rw [hk];decide),if_neg (show ¬t.kind=3 by rw [hk];decide),if_pos hk,if_neg (fun e=>h ⟨by simp [e.2.2.2],.inr e.1,.inr e.2.1,.inr (.inr e.2.2.1)⟩)]
theorem ndX_z (h:zOk k t):ndX n d b t=if k=1 then (if y6 t.name=true then (if smF t.type=0 then 0 else 12) else 10) else if k=2 then (if t.index < 0∨(b:Int)≤t.index then 15 else 0) else if k=3 then (if smF t.type=0 then 0 else 12) else 0:=by
  unfold ndX ndC;rw [if_neg hb];unfold zOk argN at h;obtain⟨a1,a2,a3,a4⟩:=h
  match k,hk,h1,h4 with
  | 1,hk,_,_=>
    have hk:t.kind=1:=hk;have q1:=a3.resolve_left dE;have q2:t.args.length=0:=by simpa using a1
    rw [if_pos hk,if_pos ⟨q1,q2⟩];rfl
  | 2,hk,_,_=>
    have hk:t.kind=2:=hk;have q1:=a2.resolve_left dE;have q2:t.args.length=0:=by simpa using a1
    have q3:=(a4.resolve_left dE).resolve_left dE;rw [if_neg (show ¬t.kind=1 by rw [hk];decide),if_pos hk,if_pos ⟨q1,q3,q2⟩];rfl
  | 3,hk,_,_=>
    have hk:t.kind=3:=hk;have q1:=a2.resolve_left dE;have q0:=a3.resolve_left dE;have q2:t.args.length=1:=by simp at a1;omega
    rw [if_neg (show ¬t.kind=1 by rw [hk];decide),if_neg (show ¬t.kind=2 by rw [hk];decide),if_pos hk,if_pos ⟨q1,q0,q2⟩];rfl
  | 4,hk,_,_=>
    have hk:t.kind=4:=hk;have q1:=a2.resolve_left dE;have q0:=a3.resolve_left dE;have q2:t.args.length=2:=by simp at a1;omega
    have q3:=(a4.resolve_left dE).resolve_left dE;rw [if_neg (show ¬t.kind=1 by rw [hk];decide),if_neg (show ¬t.kind=2 by rw [hk];decide),if_neg (show ¬t.kind=3 by rw [hk];decide),if_pos hk,if_pos ⟨q1,q0,q3,q2⟩];rfl
end x
theorem name1_any (s:ByteArray) (w:World):Calls Tryz.prog 93 #[.string s] w fun e w'=>e= .returned (.bool (y6 s))∧w=w':=by
 obtain⟨c0,e0⟩:=Fj s;have hN:=Lib.hid (KV s c0 e0);refine enter Tryz.func93 Tryz.ntmps93 rfl (Nat.le_of_ble_eq_true rfl) (zn7 ?_);refine x7 [6,7,8,9,10,11,12,13] 13 (.bool (decide (s.size < 1∨30 < s.size))) nu ?_ (fun gq=>?_)
 ·refine zn5 ?_;refine zj 9 rfl (fun g9=>?_) (fun g9=>?_)
  ·refine zn4 ?_;refine zZ (e_R ⟨rfl,agA,?_⟩);exact clA
  refine zn7 ?_;refine zZ (e_R ⟨rfl,agA,?_⟩);exact clA
 refine e_S ?_;refine zw rfl (fun c13=>?_) (fun c13=>?_)
 ·refine zn8 ?_;exact⟨jK (by rw [hN.out];exact decide_eq_false (fun h=>by omega)),rfl⟩
 refine zn9 ?_;refine q8 [2,3,4,5,14,15,16,17,18,19,20,21,22,23,24,25,26,27,28,29,30,31,32,33,34,35,36,37,38,39,40,41,42,43,44,45,46,47,48,49,50,51,52,53,54,55,56,57,58,59,60,61] (fun m g w'=>∃ k:Nat,k≤s.size∧m=s.size - k∧g 3= .int .i64 k∧w=w'∧(0 < k→97≤c0∧c0≤122)∧(∀ j (hj:j < s.size),j < k→uJ (s[j]'hj)=true)) (s.size) ?_ (fun m g4 w1 hI=>?_)
 ·exact⟨0,Nat.zero_le _,rfl,rfl,rfl,fun h=>by omega,fun j hj h=>by omega⟩
 obtain⟨k,hk,hm,h3,rfl,hz,hall⟩:=hI;refine zJ 3 (.int .i64 k) h3 nu (zn9 ?_);refine zw rfl (fun c17=>?_) (fun c17=>?_)
 ·refine zn5 ?_;refine x7 [4,20,21,22,23,24,25,26,27,28,29] 4 (.bool (decide (97≤(s[k]'om).toNat∧(s[k]'om).toNat≤122))) nu ?_ (fun gq=>?_)
  ·refine zn3 ?_;refine wl (QX (i:=k) U9 rfl rfl om) (zn2 ?_);refine zj 24 rfl (fun g24=>?_) (fun g24=>?_)
   ·refine zn5 ?_;refine wl (QX (i:=k) U9 rfl rfl om) (zn4 ?_);refine zZ (e_R ⟨rfl,agA,?_⟩);exact clA
   refine zn6 ?_;refine zZ (e_R ⟨rfl,agA,?_⟩);exact clA
  refine e_S (xX ?_);refine x7 [5,30,31,32,33,34,35,36,37,38,39,40,41,42,43,44,45,46,47,48,49,50,51] 5 (.bool (decide ((48≤(s[k]'om).toNat∧(s[k]'om).toNat≤57)∨(s[k]'om).toNat=95∨(s[k]'om).toNat=45))) nu ?_ (fun gq=>?_)
  ·refine zn3 ?_;refine wl (QX (i:=k) U9 rfl rfl om) (zn2 ?_);refine zj 34 rfl (fun g34=>?_) (fun g34=>?_)
   ·refine zn5 ?_;refine wl (QX (i:=k) U9 rfl rfl om) (zn4 ?_);refine zj 40 rfl (fun g40=>?_) (fun g40=>?_)
    ·refine yj ?_;refine zZ (e_R ⟨rfl,agA,?_⟩);exact clA
    refine zn5 ?_;refine wl (QX (i:=k) U9 rfl rfl om) (zn4 ?_);refine zj 46 rfl (fun g46=>?_) (fun g46=>?_)
    ·refine zn6 ?_;refine zZ (e_R ⟨rfl,agA,?_⟩);exact clA
    refine zn5 ?_;refine wl (QX (i:=k) U9 rfl rfl om) (zn4 ?_);refine zZ (e_R ⟨rfl,agA,?_⟩);exact clA
   refine vx ?_;refine wl (QX (i:=k) U9 rfl rfl om) (zn4 ?_);refine zj 46 rfl (fun g46=>?_) (fun g46=>?_)
   ·refine zn6 ?_;refine zZ (e_R ⟨rfl,agA,?_⟩);exact clA
   refine zn5 ?_;refine wl (QX (i:=k) U9 rfl rfl om) (zn4 ?_);refine zZ (e_R ⟨rfl,agA,?_⟩);exact clA
  refine e_S (xX ?_);refine x7 [52,53,54,55,56,57,58,59,60,61] 61 (.bool (decide (¬(97≤(s[k]'om).toNat∧(s[k]'om).toNat≤122)∧(¬((48≤(s[k]'om).toNat∧(s[k]'om).toNat≤57)∨(s[k]'om).toNat=95∨(s[k]'om).toNat=45)∨k=0)))) nu ?_ (fun gq=>?_)
  ·refine zn4 ?_;refine zj 54 rfl (fun g54=>?_) (fun g54=>?_)
   ·refine zn6 ?_;refine zj 57 rfl (fun g57=>?_) (fun g57=>?_)
    ·refine zn5 ?_;refine zZ (e_R ⟨rfl,agA,?_⟩);exact clA
    refine zn7 ?_;refine zZ (e_R ⟨rfl,agA,?_⟩);exact clA
   refine zn7 ?_;refine zZ (e_R ⟨rfl,agA,?_⟩);exact clA
  refine e_S ?_;refine zw rfl (fun c61=>?_) (fun c61=>?_)
  ·have hno:¬((97≤c0∧c0≤122)∧∀ j (hj:j < s.size),uJ (s[j]'hj)=true):=fun h=>by
     have h1:=(oq _).1 (h.2 k om);have h2:k=0:=by omega
     subst h2;have:=e0 om;omega
   refine yj ?_;exact⟨jK (by rw [hN.out];exact decide_eq_false (fun h=>hno h.2)),rfl⟩
  have hz':97≤c0∧c0≤122:=by
    by_cases e:k=0
    · subst e;have:=e0 om;omega
    · exact hz om
  have hall':∀ j (hj:j < s.size),j < k + 1→uJ (s[j]'hj)=true:=fun j hj h=>by
    by_cases e:j=k
    · subst e;exact(oq _).2 om
    · exact hall j hj om
  refine zn8 ?_;refine xv (s.size - (k + 1)) om agA ?_;exact⟨k + 1,by omega,rfl,rfl,rfl,fun _=>hz',fun j hj h=>hall' j hj h⟩
 refine yj ?_;exact⟨jK (by rw [hN.out];exact decide_eq_true ⟨by omega,hz om,fun j hj=>hall j hj om⟩),rfl⟩
end Go.Proofs.YtdkfnakncaggoaaGreatDoor
