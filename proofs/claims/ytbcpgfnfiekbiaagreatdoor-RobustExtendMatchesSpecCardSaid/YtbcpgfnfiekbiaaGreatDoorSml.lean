/- What these functions of the program compute, at every world: glosswright/robust.fault, glosswright/robust.extend, glosswright/robust.Extend. What hierarchyOf lays. No program in sight. The grammars that the program makes as data: how a world holds them. No program in sight. -/
import Derived.Test.YtbcpgfnfiekbiaaGreatDoorU
import Derived.Test.YtbcpgfnfiekbiaaGreatDoorTrm
import Derived.Test.YtbcpgfnfiekbiaaGreatDoorGVd
import Derived.Test.YtbcpgfnfiekbiaaGreatDoorStk
import Derived.Test.YtbcpgfnfiekbiaaGreatDoorLxd
namespace Go.Proofs.YtbcpgfnfiekbiaaGreatDoor
open Go.RowKit
theorem DV {l:List Ty} {fs:List Ft} {rs:List Rl} {xs:List Lx} {st:List Nd} (h:(jv l fs rs xs st).1=0):jv l fs rs xs st=(0,0):=by
  unfold jv at h ⊢;by_cases h1:(qx l fs).1≠0
  · rw [if_pos h1] at h;exact absurd h h1
  rw [if_neg h1] at h ⊢;by_cases h2:fs.length≤3
  · rw [if_pos h2] at h;cases h
  rw [if_neg h2] at h ⊢;by_cases h3:40 < rs.length∨100 < xs.length
  · rw [if_pos h3] at h;cases h
  rw [if_neg h3] at h ⊢;by_cases h4:(zW (uw l fs rs) 0 rs.length).1≠0
  · rw [if_pos h4] at h;exact absurd h h4
  rw [if_neg h4] at h ⊢;by_cases h5:(zW (gJ l fs xs) 0 xs.length).1≠0
  · rw [if_pos h5] at h;exact absurd h h5
  rw [if_neg h5] at h ⊢;by_cases h6:(xy l fs st).1≠0
  · rw [if_pos h6] at h;exact absurd h h6
  rw [if_neg h6]
theorem fn28:zZ Tryz.prog 28=true:=by kernel_rfl
theorem fn52:zZ Tryz.prog 52=true:=by kernel_rfl
theorem fn53:zZ Tryz.prog 53=true:=by kernel_rfl
theorem fn57:zZ Tryz.prog 57=true:=by kernel_rfl
theorem fn58:zZ Tryz.prog 58=true:=by kernel_rfl
theorem ze9_EXt:(Tryz.prog.info? 9).map (·.zero)=some (some (.string ⟨#[]⟩)):=by kernel_rfl
theorem ZW (c i:Int) (w:World):Calls Tryz.prog 53 #[.int .i64 c,.int .i64 i] w fun e w'=>e= .returned (.agg #[.int .i64 c,.int .i64 i])∧Bel w w':=by
 refine enT Tryz.func53 Tryz.ntmps53 rfl rfl fun hB=>?_;refine zn2 ?_;refine zY (cs:=#[.int .i64 0,.int .i64 0]) qk rfl (fun b4 w1 hb4 s1 hr=>?_);have lo4:=nLT (Bel.size hB) hr;refine zn6 ?_;refine wl (yv (v0:= .int _ _) (v1:= .int _ _) (fun v0 v1=>#[v0,v1]) rfl rfl kR) ?_;refine zj hb4 rfl rfl z4 rfl zX (fun w2 hq s2=>?_);replace hb4:=hq;refine zn3 ?_;refine x8 (.inl rfl) rfl (zk U36 rfl rfl hb4.range0 z4) ?_;exact⟨rfl,hB.u⟩
set_option maxRecDepth 100000 in
set_option maxHeartbeats 8000000 in
theorem LY (AT AF AR AX AS:Option Addr) (ct cf cr cx cst:Nat) (l:List Ty) (fs:List Ft) (rs:List Rl) (xs:List Lx) (st:List Nd) (w:World) (AW AU:Option Addr) (cw cu:Nat) (ws:List ByteArray) (us:List Lx) (hTab:TabIn w) (hU8:U8In w) (hTy:TypesIn w AT l) (hF:FeatsIn w AF fs) (hRu:RulesIn w AR rs) (hLx:LexesIn w AX xs) (hG:NodesIn w AS st) (hW:StrsIn w AW ws) (hsw:∀ x ∈ ws,x.size < 9223372036854775807) (hU:LexesIn w AU us):Calls Tryz.prog 28 #[.agg #[.slice AT l.length ct,.slice AF fs.length cf,.slice AR rs.length cr,.slice AX xs.length cx,.slice AS st.length cst],.slice AW ws.length cw,.slice AU us.length cu] w fun e w'=>ExtQ w.heap.size (W3 l fs rs xs st ws us) l fs rs st w' e∧Bel w w':=by
 have hmw:=hW.1;unfold vQ at hmw;refine enT Tryz.func28 Tryz.ntmps28 rfl rfl fun hB=>?_;refine zn2 ?_;refine qK (v:= .agg #[_,_,_,_,_]) (cs:=#[_,_,_,_,_]) rfl rfl (fun b3 w1 hb3 t1 hr=>?_);refine zY (cs:=#[.slice none 0 0,.slice none 0 0,.slice none 0 0,.slice none 0 0,.slice none 0 0]) uK rfl (fun b6 w2 hb6 t2 hr=>?_);have:=nLL hb3.lt hr;have lo6:=nLT (Bel.size hB.u) hr;refine zY (cs:=#[.int .i64 0,.int .i64 0]) qk rfl (fun b7 w3 hb7 t3 hr=>?_);have:=nLL hb3.u.lt hr;have:=nLL hb6.lt hr;have lo7:=nLT (Bel.size hB.u) hr;refine zn6 ?_;refine zJ fn52 (FX AT AF AR AX AS ct cf cr cx cst l fs rs xs st _ (hTab.mono hB.u) (hU8.mono hB.u) (hTy.mono hB.u) (hF.mono hB.u) (hRu.mono hB.u) (hLx.mono hB.u) (hG.mono hB.u)) rfl (fun e' w4 hr=>?_);obtain⟨rfl,t4⟩:=hr;replace t4:=sB t4;refine⟨_,rfl,?_⟩;refine xW (cs:=#[.int .i64 0,.int .i64 0]) qk rfl (fun _=>rfl) (fun _=>rfl) z4 rfl zX (fun b8 w6 hb8 t5 hr=>?_);have:=nLL hb6.u.lt hr;have:=nLL hb7.u.lt hr;refine zn9 ?_;refine zy rfl (fun c24=>?_) (fun c24=>?_)
 ·refine xv ?_;refine kZ [b6,b7] [0,1,2,3] rfl (fun w7 t6=>?_);refine zn2 ?_;refine h1 rfl ?_;refine zj hb6.u rfl rfl x5 rfl zX (fun w8 hq t7=>?_);have hsH2:=t7;replace hb6:=hq;refine zw (e_H (X':=[b7]) (Same.weak hsH2 (by simp)) (by simp) (h1 rfl ?_));refine zj hb7.u rfl rfl z4 rfl zX (fun w9 hq t8=>?_);have hsH3:=t8;replace hb7:=hq;refine zw (e_H (X':=[]) (Same.weak hsH3 (by simp)) (by simp) (zn4 ?_));refine gy (.inl rfl) rfl (zk U32 rfl rfl hb6.u.range0 x5) (zk U36 rfl rfl hb7.range0 z4) ?_;exact⟨Xz (ev_bad rfl c24) c24,hB.u⟩
 have hP:=Ow (Decidable.not_not.1 c24);have hgr0:jv l fs rs xs st=(0,0):=DV (Decidable.not_not.1 c24);rw [hgr0] at hb8;have hS:=YQ hP.hier;have hfo:=OZ hP.hier;have hV:=hv_of hP.hier;have hxn:=hP.xn;refine zn4 ?_;replace hB:=hB.tr0 (t1.trans (t2.trans (t3.trans (t4.trans t5))));replace hb6:=hb6.tr0 (t3.trans (t4.trans t5));replace hb7:=hb7.tr0 (t4.trans t5);refine x6 (rg [] 27 8) 34 (.bool (decide (ws.length=0∨12 < ws.length))) nu ?_ (fun gq=>?_)
 ·refine zn5 ?_;refine zx 30 rfl (fun g30=>?_) (fun g30=>?_)
  ·refine zn4 ?_;refine zw (e_R ⟨rfl,agA,?_⟩);exact clA
  refine zn7 ?_;refine zw (e_R ⟨rfl,agA,?_⟩);exact clA
 refine e_S ?_;refine zy rfl (fun hw0=>?_) (fun hw0=>?_)
 ·refine xv ?_;refine kX [] [2,3] [0,1,2,3] rfl (fun w10 t9=>?_);refine zn1 ?_;refine hcl (fun v wv=>v= .agg #[.int .i64 9,.int .i64 (-2)]) rfl fn53 (ZW 9 (-2) w10) rfl (fun e' w2 hr=>?_) (fun v36 w11 t10 d36=>?_)
  ·obtain⟨rfl,t11⟩:=hr;exact⟨_,rfl,sB t11,rfl⟩
  have e36:=d36;subst e36;refine h1 rfl ?_;refine zj hb6.u rfl rfl x5 rfl zX (fun w12 hq t12=>?_);have hsH2:=t12;replace hb6:=hq;refine zw (Q5 [3] (h1 rfl ?_));refine zj hb7.u rfl rfl z4 rfl zX (fun w13 hq t13=>?_);have hsH3:=t13;replace hb7:=hq;refine zw (Q5 [] (zn4 ?_));refine gy (.inl rfl) rfl (zk U32 rfl rfl hb6.u.range0 x5) (zk U36 rfl rfl hb7.range0 z4) ?_;replace hB:=((hB.tr0 (t9.trans t10)).tr1 t12 lo6).tr1 t13 lo7;exact⟨Xz ((N7 hgr0).trans (Y3 (ef_len hw0) (show (9:Int)≠0 from dE))) (show (9:Int)≠0 from dE),hB⟩
 refine yx ?_;refine zK (rg [9,10] 39 12) (fun m g w'=>∃ j:Nat,j≤ws.length∧m=ws.length - j∧g 39= .int .i64 j∧Bel w w'∧Blk w' b3 32 #[.slice AT l.length ct,.slice AF fs.length cf,.slice AR rs.length cr,.slice AX xs.length cx,.slice AS st.length cst]∧Blk w' b6 32 #[.slice none 0 0,.slice none 0 0,.slice none 0 0,.slice none 0 0,.slice none 0 0]∧Blk w' b7 36 #[.int .i64 0,.int .i64 0]∧Blk w' b8 36 #[.int .i64 0,.int .i64 0]∧zW (wdN ws) 0 ws.length=zW (wdN ws) j (ws.length - j)) (ws.length) ?_ (fun m g7 w14 hI=>?_)
 ·exact⟨0,Nat.zero_le _,rfl,rfl,hB,hb3.u,hb6,hb7,hb8,rfl⟩
 obtain⟨j,hj,hm,h39,hB,hb3,hb6,hb7,hb8,hF'⟩:=hI;refine zQ 39 _ h39 nu (zn6 ?_);refine zy rfl (fun c40=>?_) (fun c40=>?_)
 ·have hjw:j < ws.length:=by omega
  obtain⟨wb,wo,hwe,hwb,hwc⟩:=hW.at_ hjw;refine zn7 ?_;refine wl (xw (i:=j) U33 Xv (show ev _ _ _=_ from Q8 _ _ hwe) rfl om rfl) (wl (qZ (v:= .string _) U9 rfl rfl (hB.cell hwb hwc)) (zn7 ?_));refine zJ fn54 (word_p _ _ (hU8.mono hB) (hsw _ (List.getElem_mem hjw))) rfl (fun e' w15 hr=>?_);obtain⟨rfl,t14⟩:=hr;replace t14:=sB t14;refine⟨_,rfl,?_⟩;refine zn3 ?_;refine vw rfl (fun c46=>?_) (fun c46=>?_)
  ·have hwd:yX ws[j]=false:=by simpa using c46
   refine xv ?_;refine kX [] [3,4] [0,1,2,3,4] rfl (fun w16 t15=>?_);refine zn2 ?_;refine hcl (fun v wv=>v= .agg #[.int .i64 10,.int .i64 ((j:Nat):Int)]) rfl fn53 (ZW 10 ((j:Nat):Int) w16) rfl (fun e' w2 hr=>?_) (fun v49 w17 t16 d49=>?_)
   ·obtain⟨rfl,t17⟩:=hr;exact⟨_,rfl,sB t17,rfl⟩
   have e49:=d49;subst e49;refine h1 rfl ?_;refine zj hb6.u rfl rfl x5 rfl zX (fun w18 hq t18=>?_);have hsH3:=t18;replace hb6:=hq;refine zw (Q5 [4] (h1 rfl ?_));refine zj hb7.u rfl rfl z4 rfl zX (fun w19 hq t19=>?_);have hsH4:=t19;replace hb7:=hq;refine zw (Q5 [] (zn8 ?_));refine gy (.inl rfl) rfl (zk U32 rfl rfl hb6.u.range0 x5) (zk U36 rfl rfl hb7.range0 z4) ?_;replace hB:=((hB.tr0 (t14.trans (t15.trans t16))).tr1 t18 lo6).tr1 t19 lo7;exact⟨Xz ((N7 hgr0).trans (Y3 (ef_word hw0 (hF'.trans (qw om (wd_bad hjw hwd) dE)) dE) (show (10:Int)≠0 from dE))) (show (10:Int)≠0 from dE),hB⟩
  have hwd:yX ws[j]=true:=by simpa using c46
  refine zn7 ?_;refine qV (ws.length - (j + 1)) om agA ?_;exact⟨j + 1,by omega,rfl,rfl,hB.u,hb3.u,hb6.u,hb7.u,hb8.u,hF'.trans (xV hjw (T4 hjw hwd))⟩
 have hWz:zW (wdN ws) 0 ws.length=(0,0):=hF'.trans (yq om);refine kJ ?_;refine zy rfl (fun c53=>?_) (fun c53=>?_)
 ·refine xv ?_;refine kX [] [2,3] [0,1,2,3] rfl (fun w20 t20=>?_);refine zn1 ?_;refine hcl (fun v wv=>v= .agg #[.int .i64 2,.int .i64 (-3)]) rfl fn53 (ZW 2 (-3) w20) rfl (fun e' w2 hr=>?_) (fun v55 w21 t21 d55=>?_)
  ·obtain⟨rfl,t22⟩:=hr;exact⟨_,rfl,sB t22,rfl⟩
  have e55:=d55;subst e55;refine h1 rfl ?_;refine zj hb6.u rfl rfl x5 rfl zX (fun w22 hq t23=>?_);have hsH2:=t23;replace hb6:=hq;refine zw (Q5 [3] (h1 rfl ?_));refine zj hb7.u rfl rfl z4 rfl zX (fun w23 hq t24=>?_);have hsH3:=t24;replace hb7:=hq;refine zw (Q5 [] (zn4 ?_));refine gy (.inl rfl) rfl (zk U32 rfl rfl hb6.u.range0 x5) (zk U36 rfl rfl hb7.range0 z4) ?_;replace hB:=((hB.tr0 (t20.trans t21)).tr1 t23 lo6).tr1 t24 lo7;exact⟨Xz ((N7 hgr0).trans (Y3 (ef_many hw0 hWz om) (show (2:Int)≠0 from dE))) (show (2:Int)≠0 from dE),hB⟩
 refine zn7 ?_;refine zJ FW (Jx AT ct l _ (hTy.mono hB) hS.vt hS.le) rfl (fun e' w24 hr=>?_);obtain⟨bu,bd,rfl,hTI,t25⟩:=hr;replace t25:=sB t25;obtain⟨wT,hwT⟩:∃ x,x=w24:=⟨_,rfl⟩
 have hBT:Bel wT w24:=by rw [hwT];exact Below.refl _ _
 rw [← hwT] at hTI;refine⟨_,rfl,?_⟩;refine xW (cs:=#[.slice none 0 0,.slice none 0 0]) SJ rfl (fun _=>rfl) (fun _=>rfl) D1 rfl zX (fun b11 w26 hb11 t26 hr=>?_);refine yx ?_;refine zK (rg [12,13,14] 62 17) (fun m g w'=>∃ q:Nat,q≤us.length∧m=us.length - q∧g 62= .int .i64 q∧Bel w w'∧Blk w' b3 32 #[.slice AT l.length ct,.slice AF fs.length cf,.slice AR rs.length cr,.slice AX xs.length cx,.slice AS st.length cst]∧Blk w' b6 32 #[.slice none 0 0,.slice none 0 0,.slice none 0 0,.slice none 0 0,.slice none 0 0]∧Blk w' b7 36 #[.int .i64 0,.int .i64 0]∧Blk w' b8 36 #[.int .i64 0,.int .i64 0]∧Bel wT w'∧Blk w' b11 89 #[.slice (some ⟨bu,0,none⟩) l.length l.length,.slice (some ⟨bd,0,none⟩) l.length l.length]∧zW (gJ l fs us) 0 us.length=zW (gJ l fs us) q (us.length - q)) (us.length) ?_ (fun m g16 w27 hI=>?_)
 ·exact⟨0,Nat.zero_le _,rfl,rfl,hB.u,hb3.u,hb6.u,hb7.u,hb8.u,hBT.u,hb11,rfl⟩
 obtain⟨q,hq,hm,h62,hB,hb3,hb6,hb7,hb8,hBT,hb11,hL'⟩:=hI;refine zQ 62 _ h62 nu (zn6 ?_);refine zy rfl (fun c63=>?_) (fun c63=>?_)
 ·have hlq:q < us.length:=by omega
  obtain⟨ub,uo,Gk,cgk,Sk,csk,Bk,mk,hue,hub,hszq,hur,hGk,hSk,hTk⟩:=hU.at_ (Below.refl _ _:Bel w w) hlq;refine zn7 ?_;refine wl (xw (i:=q) U27 y9 (show ev _ _ _=_ from Q8 _ _ hue) rfl om rfl) (zn1 ?_);refine zY (cs:=#[.string ⟨#[]⟩,.slice none 0 0,.int .i64 0,.int .i64 0,.string ⟨#[]⟩,.int .i64 0,.string ⟨#[]⟩,.slice none 0 0,.slice none 0 0]) kK rfl (fun b13 w28 hb13 t27 hr=>?_);have:=nLL hb3.lt hr;have:=nLL hb6.lt hr;have:=nLL hb7.lt hr;have:=nLL hb8.lt hr;have:=nLL hb11.lt hr;have lo13:=nLT (Bel.size hB) hr;have lo_hBT_b13:=nLT (Bel.size hBT) hr;refine waI rfl ?_;refine zj hb13 rfl rfl y9 rfl zX (fun w29 hq t28=>?_);replace hb13:=hq;refine zn5 ?_;refine wl (zV U25 rfl rfl (hb3.u.sub (n:=2) (xs:=[_,_]) rfl) IY) (zn2 ?_);refine zJ fn56 (C5 AT AF Gk Sk Bk ct cf cgk csk mk bu bd l fs (us[q]'hlq) _ (hU8.mono hB.u) (hTI.mono hBT.u) hS.le (hF.mono hB.u) hfo (hGk.mono hB.u) (hSk.mono hB.u) (hTk.mono hB.u) hszq) rfl (fun e' w30 hr=>?_);obtain⟨rfl,t29⟩:=hr;replace t29:=sB t29;refine⟨_,rfl,?_⟩;refine zn9 ?_;refine zy rfl (fun c73=>?_) (fun c73=>?_)
  ·have hly:=lnF (l:=l) (fs:=fs) hlq;refine xv ?_;refine kX [] [4,5] [0,1,2,3,4,5] rfl (fun w31 t30=>?_);refine zn3 ?_;refine hcl (fun v wv=>v= .agg #[.int .i64 (Y0 l fs us[q]),.int .i64 ((q:Nat):Int)]) rfl fn53 (ZW (Y0 l fs us[q]) ((q:Nat):Int) w31) rfl (fun e' w2 hr=>?_) (fun v77 w32 t31 d77=>?_)
   ·obtain⟨rfl,t32⟩:=hr;exact⟨_,rfl,sB t32,rfl⟩
   have e77:=d77;subst e77;refine h1 rfl ?_;refine zj hb6.u rfl rfl x5 rfl zX (fun w33 hq t33=>?_);have hsH4:=t33;replace hb6:=hq;refine zw (Q5 [5] (h1 rfl ?_));refine zj hb7.u rfl rfl z4 rfl zX (fun w34 hq t34=>?_);have hsH5:=t34;replace hb7:=hq;refine zw (Q5 [] (zn8 ?_));refine gy (.inl rfl) rfl (zk U32 rfl rfl hb6.u.range0 x5) (zk U36 rfl rfl hb7.range0 z4) ?_;replace hB:=((((hB.tr0 t27).tr1 t28 lo13).tr0 (t29.trans (t30.trans t31))).tr1 t33 lo6).tr1 t34 lo7;exact⟨Xz ((N7 hgr0).trans (Y3 (OV hw0 hWz om (hL'.trans (qw om hly c73))) (show (Y0 l fs us[q]:Int)≠0 from c73))) (show (Y0 l fs us[q]:Int)≠0 from c73),hB⟩
  have hly0:=(lnF (l:=l) (fs:=fs) hlq).trans (Decidable.not_not.1 c73);refine zn7 ?_;refine qV (us.length - (q + 1)) om agA ?_;exact⟨q + 1,by omega,rfl,rfl,hB.u,hb3.u,hb6.u,hb7.u,hb8.u,hBT.u,hb11.u,hL'.trans (xV hlq hly0)⟩
 have hLz:zW (gJ l fs us) 0 us.length=(0,0):=hL'.trans (yq om);have hEF:Vj l fs ws us=(0,0):=OV hw0 hWz om hLz;have hUP:=Ex hP.hier (congrArg Prod.fst hLz);refine zn8 ?_;obtain⟨L0,hL0⟩:∃ z,z=w27.heap.size:=⟨_,rfl⟩
 have lL0:w.heap.size≤L0:=by rw [hL0];exact Bel.size hB
 have l3:b3 < L0:=by rw [hL0];exact hb3.lt
 have l6:b6 < L0:=by rw [hL0];exact hb6.lt
 have l7:b7 < L0:=by rw [hL0];exact hb7.lt
 have l8:b8 < L0:=by rw [hL0];exact hb8.lt
 refine zJ fn57 (copy_any AT AF AR AX AS ct cf cr cx cst l fs rs xs st _ hP (by have:=hV.few;omega) (by have:=hV.le;omega) (fun i hi=>by have:=(hV.par hi).1;have:=hV.le;omega) (hTy.mono hB) (hF.mono hB) (hRu.mono hB) (hLx.mono hB) (hG.mono hB)) rfl (fun e' w35 hr=>?_);obtain⟨⟨At,ca,Af,cb,Ar,cc,A3,c3,Ag,cg,vs,rfl,hz5L,ho3,hH⟩,t35⟩:=hr;replace t35:=sB t35;rw [← hL0] at ho3 hH hz5L;clear hL0;obtain⟨n3,hn3⟩:∃ z,z=w35.heap.size:=⟨_,rfl⟩
 rw [← hn3] at hH hz5L;clear hn3;refine⟨_,rfl,?_⟩;refine zY (cs:=#[.slice none 0 0,.slice none 0 0,.slice none 0 0,.slice none 0 0,.slice none 0 0]) uK rfl (fun b15 w36 hb15 t36 hr=>?_);have:=nLL hb3.u.lt hr;have:=nLL hb6.u.lt hr;have:=nLL hb7.u.lt hr;have:=nLL hb8.u.lt hr;have or_ho3_b15:=fun g hg=>nLL (ho3.lt g hg).2 hr
 have or_hH_b15:=(nLT hH.le hr)
 have lo15:=nLT (Bel.size hB.u) hr;refine zj hb15 rfl rfl x5 rfl zX (fun w37 hq t37=>?_);replace ho3:=ho3.tr0 t36;replace ho3:=ho3.tr1 t37 (neL or_ho3_b15);replace hH:=hH.tr0 t36;replace hH:=hH.tr t37 (fun g hg=> .inr (.inr (by rw [List.mem_singleton.1 hg];exact or_hH_b15)));replace hb15:=hq;refine zn4 ?_
 replace hH:=hH.hole (Y:=b15 :: aL A3) (fun y hy=>by
   rcases List.mem_cons.1 hy with h | h
   · exact .inr (.inr (by rw [h];exact or_hH_b15))
   · exact .inl h)
 have lB15:=nLT hz5L or_hH_b15;replace or_ho3_b15:∀ g ∈ aL A3,g≠b15:=fun g hg=>Nat.ne_of_lt (or_ho3_b15 g hg)
 rw [← List.length_map (f:=ow l fs)] at ho3;replace hb15:Blk w37 b15 32 #[.slice At l.length ca,.slice Af fs.length cb,.slice Ar rs.length cc,.slice A3 (xs.map (ow l fs)).length c3,.slice Ag (yk l fs st).length cg]:=by rw [List.length_map];exact hb15
 have hcur:(xs.map (ow l fs)).length≤100:=by rw [List.length_map];exact hxn
 refine zn7 ?_;refine zK (rg [17,19] 83 32) (fun m g w'=>∃ (j:Nat) (cur:List Lx) (A3:Option Addr) (c3 n3:Nat) (vs:List Value),j≤ws.length∧m=ws.length - j∧g 83= .int .i64 j∧Bel w w'∧Blk w' b3 32 #[.slice AT l.length ct,.slice AF fs.length cf,.slice AR rs.length cr,.slice AX xs.length cx,.slice AS st.length cst]∧Blk w' b6 32 #[.slice none 0 0,.slice none 0 0,.slice none 0 0,.slice none 0 0,.slice none 0 0]∧Blk w' b7 36 #[.int .i64 0,.int .i64 0]∧Blk w' b8 36 #[.int .i64 0,.int .i64 0]∧Blk w' b15 32 #[.slice At l.length ca,.slice Af fs.length cb,.slice Ar rs.length cc,.slice A3 cur.length c3,.slice Ag (yk l fs st).length cg]∧Own w' L0 46 9 A3 cur.length c3 vs∧Hv L0 (b15 :: aL A3) n3 w' (fun w2=>((TypesIn w2 At l∧FeatsIn w2 Af fs)∧RulesIn w2 Ar (rs.map (gZ l fs))∧NodesIn w2 Ag (yk l fs st))∧RowD lxD 9 w2 (cur) vs)∧(∀ g ∈ aL A3,g≠b15)∧cur.length≤100∧Y2 l fs us (ws.drop j) cur=Y2 l fs us ws (xs.map (ow l fs))) (ws.length) ?_ (fun m g24 w38 hI=>?_)
 ·exact⟨0,_,A3,c3,n3,vs,Nat.zero_le _,rfl,rfl,hB.u,hb3.u,hb6.u,hb7.u,hb8.u,hb15,ho3,hH,or_ho3_b15,hcur,rfl⟩
 obtain⟨j,cur,A3,c3,n3,vs,hj,hm,h83,hB,hb3,hb6,hb7,hb8,hb15,ho3,hH,or_ho3_b15,hcur,hX⟩:=hI;refine zQ 83 _ h83 nu (zn6 ?_);refine zy rfl (fun c84=>?_) (fun c84=>?_)
 ·have hjw:j < ws.length:=by omega
  obtain⟨wb,wo,hwe,hwb,hwc⟩:=hW.at_ hjw;refine zn6 ?_;refine wl (xw (i:=j) U33 Xv (show ev _ _ _=_ from Q8 _ _ hwe) rfl om rfl) (wl (qZ (v:= .string _) U9 rfl rfl (hB.cell hwb hwc)) ?_);refine zY (cs:=#[.string ⟨#[]⟩]) ze9_EXt rfl (fun b17 w39 hb17 t38 hr=>?_);have:=nLL hb3.lt hr;have:=nLL hb6.lt hr;have:=nLL hb7.lt hr;have:=nLL hb8.lt hr;have:=nLL hb15.lt hr;have or_ho3_b17:=fun g hg=>nLL (ho3.lt g hg).2 hr
  have or_hH_b17:=(nLT hH.le hr)
  have lo17:=nLT (Bel.size hB) hr;refine x9 (v:= .string _) hb17 rfl rfl Xv (by first | decide | simp) rfl rfl (fun w40 hq t39=>?_);replace ho3:=ho3.tr0 t38;replace ho3:=ho3.tr1 t39 (neL or_ho3_b17);replace hH:=hH.tr0 t38;replace hH:=hH.tr t39 (fun g hg=> .inr (.inr (by rw [List.mem_singleton.1 hg];exact or_hH_b17)));replace hb17:=hq;refine zn7 ?_;refine wl (r_mf rfl) ?_;refine zJ fn58 (cfx_any A3 c3 b17 cur ws[j] _ (Dw ho3 (Nat.le_refl _) (hH.imp (fun _ h=>h.2))).now hb17) rfl (fun e' w41 hr=>?_);obtain⟨rfl,t40⟩:=hr;replace t40:=sB t40;refine⟨_,rfl,?_⟩;refine zw (e_S ?_);replace ho3:=ho3.tr0 t40;replace hH:=hH.tr0 t40;refine vw rfl (fun c90=>?_) (fun c90=>?_)
  ·have hkn:uZ cur ws[j]=true:=c90;have hX2:Y2 l fs us (ws.drop (j + 1)) cur=Y2 l fs us ws (xs.map (ow l fs)):=by
     have h:=Sy (l:=l) (fs:=fs) (us:=us) (cur:=cur) hjw (by rw [O9 hkn,List.append_nil];omega);rw [O9 hkn,List.append_nil] at h;exact h.symm.trans hX
   refine zn8 ?_;refine qV (ws.length - (j + 1)) om agA ?_;replace hB:=((hB.tr0 t38).tr1 t39 lo17).tr0 t40;replace hb3:=((hb3.tr0 t38).tr1 t39 om).tr0 t40;replace hb6:=((hb6.tr0 t38).tr1 t39 om).tr0 t40;replace hb7:=((hb7.tr0 t38).tr1 t39 om).tr0 t40;replace hb8:=((hb8.tr0 t38).tr1 t39 om).tr0 t40;replace hb15:=((hb15.tr0 t38).tr1 t39 om).tr0 t40
   first
    | exact⟨j + 1,cur,A3,c3,n3,vs,by omega,rfl,rfl,hB,hb3,hb6,hb7,hb8,hb15,ho3,hH,or_ho3_b15,hcur,hX2⟩
    | exact⟨j + 1,_,A3,c3,n3,vs,by omega,rfl,rfl,hB,hb3,hb6,hb7,hb8,hb15,ho3,hH,or_ho3_b15,by omega,(Sy hjw om).symm.trans hX⟩
  have hkn:uZ cur ws[j]=false:=c90;refine yx ?_;refine zK (rg [19] 93 15) (fun m g w'=>∃ (q:Nat) (A3:Option Addr) (c3 n3:Nat) (vs:List Value),q≤us.length∧m=us.length - q∧g 93= .int .i64 q∧Bel w w'∧Blk w' b3 32 #[.slice AT l.length ct,.slice AF fs.length cf,.slice AR rs.length cr,.slice AX xs.length cx,.slice AS st.length cst]∧Blk w' b6 32 #[.slice none 0 0,.slice none 0 0,.slice none 0 0,.slice none 0 0,.slice none 0 0]∧Blk w' b7 36 #[.int .i64 0,.int .i64 0]∧Blk w' b8 36 #[.int .i64 0,.int .i64 0]∧Blk w' b17 9 #[.string ws[j]]∧Blk w' b15 32 #[.slice At l.length ca,.slice Af fs.length cb,.slice Ar rs.length cc,.slice A3 (cur.length + q) c3,.slice Ag (yk l fs st).length cg]∧Own w' L0 46 9 A3 (cur.length + q) c3 vs∧Hv L0 (b15 :: aL A3) n3 w' (fun w2=>((TypesIn w2 At l∧FeatsIn w2 Af fs)∧RulesIn w2 Ar (rs.map (gZ l fs))∧NodesIn w2 Ag (yk l fs st))∧RowD lxD 9 w2 ((cur ++ nw l fs us cur (ws[j])).take (cur.length + q)) vs)∧(∀ g ∈ aL A3,g≠b15)∧(∀ g ∈ aL A3,g≠b17)) (us.length) ?_ (fun m g28 w42 hI=>?_)
  ·replace hB:=((hB.tr0 t38).tr1 t39 lo17).tr0 t40;replace hb3:=((hb3.tr0 t38).tr1 t39 om).tr0 t40;replace hb6:=((hb6.tr0 t38).tr1 t39 om).tr0 t40;replace hb7:=((hb7.tr0 t38).tr1 t39 om).tr0 t40;replace hb8:=((hb8.tr0 t38).tr1 t39 om).tr0 t40;replace hb15:=((hb15.tr0 t38).tr1 t39 om).tr0 t40;replace hb17:=hb17.tr0 t40;exact⟨0,A3,c3,n3,vs,Nat.zero_le _,rfl,rfl,hB,hb3,hb6,hb7,hb8,hb17,hb15,ho3,by rw [Nat.add_zero,List.take_left];exact hH,or_ho3_b15,fun g hg=>Nat.ne_of_lt (or_ho3_b17 g hg)⟩
  obtain⟨q,A3,c3,n3,vs,hq,hm28,h93,hB,hb3,hb6,hb7,hb8,hb17,hb15,ho3,hH,or_ho3_b15,or_ho3_b17⟩:=hI;refine zQ 93 _ h93 nu (zn6 ?_);refine zy rfl (fun c94=>?_) (fun c94=>?_)
  ·have hlq:q < us.length:=by omega
   obtain⟨ub,uo,Gk,cgk,Sk,csk,Bk,mk,hue,hub,hszq,hur,hGk,hSk,hTk⟩:=hU.at_ (Below.refl _ _:Bel w w) hlq;refine zn6 ?_;refine wl (xw (i:=q) U27 y9 (show ev _ _ _=_ from Q8 _ _ hue) rfl om rfl) (zn1 ?_);refine zY (cs:=#[.string ⟨#[]⟩,.slice none 0 0,.int .i64 0,.int .i64 0,.string ⟨#[]⟩,.int .i64 0,.string ⟨#[]⟩,.slice none 0 0,.slice none 0 0]) kK rfl (fun b19 w43 hb19 t41 hr=>?_);have:=nLL hb3.lt hr;have:=nLL hb6.lt hr;have:=nLL hb7.lt hr;have:=nLL hb8.lt hr;have:=nLL hb15.lt hr;have:=nLL hb17.lt hr;have or_ho3_b19:=fun g hg=>nLL (ho3.lt g hg).2 hr
   have or_hH_b19:=(nLT hH.le hr)
   have lo19:=nLT (Bel.size hB) hr;refine zj hb19 rfl rfl y9 rfl zX (fun w44 hq t42=>?_);replace ho3:=ho3.tr0 t41;replace ho3:=ho3.tr1 t42 (neL or_ho3_b19);replace hH:=hH.tr0 t41;replace hH:=hH.tr t42 (fun g hg=> .inr (.inr (by rw [List.mem_singleton.1 hg];exact or_hH_b19)));replace hb19:=hq;refine zn5 ?_;obtain⟨lz,hlz⟩:∃ z,z=w44.heap.size:=⟨_,rfl⟩
   have zo:∀ g ∈ aL A3,g < lz:=fun g hg=>by rw [hlz];exact(ho3.lt g hg).2
   replace hb15:=(hb15.tr0 t41).tr1 t42 om;have z15:b15 < lz:=by rw [hlz];exact hb15.lt
   have z19:b19 < lz:=by rw [hlz];exact hb19.lt
   have lLz:L0≤lz:=nLT lB15 (Nat.le_of_lt z15);refine zJ fn60 (OK l fs (us[q]) Gk Sk Bk cgk csk mk _ (hUP q hlq).1 (hUP q hlq).2 (hGk.mono hB.u) (hSk.mono hB.u) (hTk.mono hB.u)) rfl (fun e' w45 hr=>?_);obtain⟨⟨A5,c5,S8,s8,B8,c8,rfl,hz5⟩,t43⟩:=hr;replace t43:=sB t43;rw [← hlz] at hz5;clear hlz;obtain⟨n5,hn5⟩:∃ z,z=w45.heap.size:=⟨_,rfl⟩
   rw [← hn5] at hz5;clear hn5;refine⟨_,rfl,?_⟩;refine zj hb19.u rfl rfl y9 rfl zX (fun w46 hq t44=>?_);replace ho3:=ho3.tr0 t43;replace ho3:=ho3.tr1 t44 (neL or_ho3_b19);replace hH:=hH.tr0 t43;replace hH:=hH.tr t44 (fun g hg=> .inr (.inr (by rw [List.mem_singleton.1 hg];exact or_hH_b19)));replace hz5:=hz5.lo1 t44 z19;replace hb19:=hq;replace hb19:Blk w46 b19 46 #[.string (us[q]).word,.slice A5 (yk l fs (us[q]).gr).length c5,.int .i64 (us[q]).wt,.int .i64 ((us[q]).mean).kind,.string ((us[q]).mean).name,.int .i64 ((us[q]).mean).index,.string ((us[q]).mean).type.base,.slice S8 ((us[q]).mean).type.args.length s8,.slice B8 ((us[q]).mean).args.length c8]:=hb19;refine zn6 ?_;refine x9 (v:= .string _) hb19 rfl rfl Xv (by first | decide | simp) rfl rfl (fun w47 hq t45=>?_);replace ho3:=ho3.tr1 t45 (neL or_ho3_b19);replace hH:=hH.tr t45 (fun g hg=> .inr (.inr (by rw [List.mem_singleton.1 hg];exact or_hH_b19)));replace hz5:=hz5.lo1 t45 z19;replace hb19:=hq;replace hb19:Blk w47 b19 46 #[.string ws[j],.slice A5 (yk l fs (us[q]).gr).length c5,.int .i64 (us[q]).wt,.int .i64 ((us[q]).mean).kind,.string ((us[q]).mean).name,.int .i64 ((us[q]).mean).index,.string ((us[q]).mean).type.base,.slice S8 ((us[q]).mean).type.args.length s8,.slice B8 ((us[q]).mean).args.length c8]:=hb19;refine zn6 ?_;refine qv (cs:=#[_,_,_,_,_,_,_,_,_]) [(0,.agg _)] rfl U27 y9 kK dE dE kR rfl (fun b104 w48 hb104 t46 hr=>?_);have:=nLL hb3.u.lt hr;have:=nLL hb6.u.lt hr;have:=nLL hb7.u.lt hr;have:=nLL hb8.u.lt hr;have:=nLL hb15.u.lt hr;have:=nLL hb17.u.lt hr;replace hH:=hH.tr0 t46;have hnH:=hH.le;replace hz5:=hz5.tr0 t46;have hnz:=hz5.le;replace ho3:=ho3.tr0 t46;refine vW U27 Iq rfl dE ho3 hb104 rfl rfl rfl zX dE om om (nLT lB15 (Nat.le_of_lt hb15.u.lt)) (fun g105 cap105 w49 ho105 t47 hg=>?_);have ne_ho105_b3:g105≠b3:=neA ho3 hb3.u.lt hg
   have ne_ho105_b6:g105≠b6:=neA ho3 hb6.u.lt hg
   have ne_ho105_b7:g105≠b7:=neA ho3 hb7.u.lt hg
   have ne_ho105_b8:g105≠b8:=neA ho3 hb8.u.lt hg
   have ne_ho105_b15:g105≠b15:=neB hb15.u.lt hg (fun g hg=>by have:=or_ho3_b15 g hg;omega)
   have ne_ho105_b17:g105≠b17:=neB hb17.u.lt hg (fun g hg=>by have:=or_ho3_b17 g hg;omega)
   have ne_ho105_b19:g105≠b19:=neB hb19.u.lt hg (neL or_ho3_b19)
   replace hB:=hB.u.tr t47 (fun g hg=>nLT lL0 (ho3.lt g hg).1);replace hb3:=(((((hb3.tr0 t41).tr1 t42 om).tr0 t43).tr1 t44 om).tr1 t45 om).tr0 t46;replace hb3:=hb3.ta t47 ho3;replace hb6:=(((((hb6.tr0 t41).tr1 t42 om).tr0 t43).tr1 t44 om).tr1 t45 om).tr0 t46;replace hb6:=hb6.ta t47 ho3;replace hb7:=(((((hb7.tr0 t41).tr1 t42 om).tr0 t43).tr1 t44 om).tr1 t45 om).tr0 t46;replace hb7:=hb7.ta t47 ho3;replace hb8:=(((((hb8.tr0 t41).tr1 t42 om).tr0 t43).tr1 t44 om).tr1 t45 om).tr0 t46;replace hb8:=hb8.ta t47 ho3;replace hb15:=(((hb15.tr0 t43).tr1 t44 om).tr1 t45 om).tr0 t46;replace hb15:=hb15.tb t47 (fun g hg=>by have:=or_ho3_b15 g hg;omega);replace hb17:=(((((hb17.tr0 t41).tr1 t42 om).tr0 t43).tr1 t44 om).tr1 t45 om).tr0 t46;replace hb17:=hb17.tb t47 (fun g hg=>by have:=or_ho3_b17 g hg;omega);replace hH:=hH.tr t47 (fun g hg=> .inr (.inl (by simp [hg])));replace hz5:=hz5.tr t47 (fun g hg=> .inl (zo g hg));refine zn1 ?_;refine x9 (v:= .slice _ _ _) hb15 rfl rfl QW (by first | decide | simp) rfl rfl (fun w50 hq t48=>?_);replace hH:=hH.in1 t48 (by simp);replace hz5:=hz5.lo1 t48 z15;replace ho105:=ho105.tr1 t48 (neS ne_ho105_b15);replace hb15:=hq;have hY0:∀ n≤_,∀ y ∈ b15 :: aL (some (⟨g105,0,none⟩:Addr)),y ∈ b15 :: aL A3∨n≤y:=fun n hn y hy=>by
     rcases List.mem_cons.1 hy with h | hy
     · exact .inl (by simp [h])
     rcases hg with hg | hg
     · exact .inl (by rw [List.mem_singleton.1 hy];simp [hg])
     · exact .inr (by rw [List.mem_singleton.1 hy];exact nLT hn hg)
   have hY2:∀ y ∈ b15 :: aL (some (⟨g105,0,none⟩:Addr)),y < lz∨n5≤y:=fun y hy=>by
     rcases hY0 n5 hnz y hy with h | h
     · rcases List.mem_cons.1 h with h | h
       · exact .inl (by rw [h];exact z15)
       · exact .inl (zo y h)
     · exact .inr h
   have hH2:=(((hH.imp (fun _ h=>h.1)).hole (fun y hy=>(hY0 _ hnH y hy).imp id .inr)).up).andN (RowD.app (v:=lxC (unX l fs ws[j] us[q]) A5 S8 B8 c5 s8 c8) (nw_lt hkn hlq) (nw_at hkn hlq) (hH.imp (fun _ h=>h.2)) rfl (hz5.imp (fun _ h=>(⟨hsw _ (List.getElem_mem hjw),A5,S8,B8,c5,s8,c8,rfl,h.1,h.2.1,h.2.2⟩:lxD _ (unX l fs ws[j] us[q]) _))) lLz (hY0 _ hnH) hY2);refine zn7 ?_;refine qV (us.length - (q + 1)) om agA ?_;replace hB:=hB.tr1 t48 lo15;replace hb3:=hb3.tr1 t48 om;replace hb6:=hb6.tr1 t48 om;replace hb7:=hb7.tr1 t48 om;replace hb8:=hb8.tr1 t48 om;replace hb17:=hb17.tr1 t48 om;exact⟨q + 1,_,_,_,_,by omega,rfl,rfl,hB,hb3,hb6,hb7,hb8,hb17,hb15,ho105,hH2,(fun g hg=>by rw [List.mem_singleton.1 hg];exact ne_ho105_b15),(fun g hg=>by rw [List.mem_singleton.1 hg];exact ne_ho105_b17)⟩
  have hqe:q=us.length:=by omega
  refine zn6 ?_;have htn:q=(nw l fs us cur ws[j]).length:=by rw [DZ hkn,List.length_map];exact hqe
  subst htn;rw [← List.length_append] at ho3 hb15;rw [List.take_of_length_le (by rw [List.length_append];exact Nat.le_refl _)] at hH;refine zn7 ?_;refine zy rfl (fun c111=>?_) (fun c111=>?_)
  ·refine xv ?_;refine kX [] [2,3] [0,1,2,3] rfl (fun w51 t49=>?_);refine zn1 ?_;refine hcl (fun v wv=>v= .agg #[.int .i64 17,.int .i64 (-1)]) rfl fn53 (ZW 17 (-1) w51) rfl (fun e' w2 hr=>?_) (fun v113 w52 t50 d113=>?_)
   ·obtain⟨rfl,t51⟩:=hr;exact⟨_,rfl,sB t51,rfl⟩
   have e113:=d113;subst e113;refine h1 rfl ?_;refine zj hb6.u rfl rfl x5 rfl zX (fun w53 hq t52=>?_);have hsH2:=t52;replace hb6:=hq;refine zw (Q5 [3] (h1 rfl ?_));refine zj hb7.u rfl rfl z4 rfl zX (fun w54 hq t53=>?_);have hsH3:=t53;replace hb7:=hq;refine zw (Q5 [] (zn8 ?_));refine gy (.inl rfl) rfl (zk U32 rfl rfl hb6.u.range0 x5) (zk U36 rfl rfl hb7.range0 z4) ?_;exact⟨Xz ((N7 hgr0).trans (ea_no hEF (hX.symm.trans (ext_no hjw om)))) dE,hB.u⟩
  refine zn7 ?_;refine qV (ws.length - (j + 1)) om agA ?_
  first
   | exact⟨j + 1,cur,A3,c3,n3,vs,by omega,rfl,rfl,hB,hb3,hb6,hb7,hb8,hb15,ho3,hH,or_ho3_b15,hcur,hX2⟩
   | exact⟨j + 1,_,A3,c3,n3,vs,by omega,rfl,rfl,hB,hb3,hb6,hb7,hb8,hb15,ho3,hH,or_ho3_b15,by omega,(Sy hjw om).symm.trans hX⟩
 have hje:j=ws.length:=by omega
 refine zn6 ?_;rw [hje,List.drop_length] at hX;have hG1:=((hH.imp (fun _ h=>h.1)).nil.up).andN (Dw ho3 (Nat.le_refl _) (hH.imp (fun _ h=>h.2)));have hG2:=hG1.imp (Q:=Wz At Af Ar A3 Ag l fs (rs.map (gZ l fs)) cur (yk l fs st)) (fun _ h=>⟨h.1.1.1,h.1.1.2,h.1.2.1,h.2,h.1.2.2⟩);obtain⟨nG,hnG⟩:∃ z,z=w38.heap.size:=⟨_,rfl⟩
 rw [← hnG] at hG2;clear hnG;clear hG1;refine zn2 ?_;refine wl (uv (vs:=#[]) (cs:=#[.int .i64 0,.int .i64 0]) (by simp) kR) ?_;refine zj hb6 rfl rfl x5 rfl zX (fun w55 hq t54=>?_);replace hG2:=hG2.lo1 t54 l6;replace hb6:=hq;refine zj hb7.u rfl rfl z4 rfl zX (fun w56 hq t55=>?_);replace hG2:=hG2.lo1 t55 l7;replace hb7:=hq;refine zn3 ?_;refine gy (.inl rfl) rfl (zk U32 rfl rfl hb6.u.range0 x5) (zk U36 rfl rfl hb7.range0 z4) ?_;exact⟨extq_good ((N7 hgr0).trans (ea_ok hEF hX.symm)) (hG2.up.mono lL0 (Nat.le_refl _) (Nat.le_refl _)),hB.u⟩
set_option maxRecDepth 100000 in
set_option maxHeartbeats 2000000 in
theorem P7 (AT AF AR AX AS:Option Addr) (ct cf cr cx cst:Nat) (l:List Ty) (fs:List Ft) (rs:List Rl) (xs:List Lx) (st:List Nd) (w:World) (AW AU:Option Addr) (cw cu:Nat) (ws:List ByteArray) (us:List Lx) (hTab:TabIn w) (hU8:U8In w) (hTy:TypesIn w AT l) (hF:FeatsIn w AF fs) (hRu:RulesIn w AR rs) (hLx:LexesIn w AX xs) (hG:NodesIn w AS st) (hW:StrsIn w AW ws) (hsw:∀ x ∈ ws,x.size < 9223372036854775807) (hU:LexesIn w AU us):Calls Tryz.prog 6 #[.agg #[.slice AT l.length ct,.slice AF fs.length cf,.slice AR rs.length cr,.slice AX xs.length cx,.slice AS st.length cst],.slice AW ws.length cw,.slice AU us.length cu] w fun e w'=>G8 (W3 l fs rs xs st ws us) l fs rs st w' e∧Bel w w':=by
 refine enT Tryz.func6 Tryz.ntmps6 rfl rfl fun hB=>?_;refine zn2 ?_;refine qK (v:= .agg #[_,_,_,_,_]) (cs:=#[_,_,_,_,_]) rfl rfl (fun b3 w1 hb3 s1 hr=>?_);refine zY (cs:=#[.slice none 0 0,.slice none 0 0,.slice none 0 0,.slice none 0 0,.slice none 0 0]) uK rfl (fun b6 w2 hb6 s2 hr=>?_);have:=nLL hb3.lt hr;have lo6:=nLT (Bel.size hB.u) hr;refine zY (cs:=#[.int .i64 0,.int .i64 0]) qk rfl (fun b7 w3 hb7 s3 hr=>?_);have:=nLL hb3.u.lt hr;have:=nLL hb6.lt hr;have lo7:=nLT (Bel.size hB.u) hr;refine zn7 ?_;obtain⟨L0,hL0⟩:∃ z,z=w3.heap.size:=⟨_,rfl⟩
 replace hb6:=hb6.tr0 s3;have l6:b6 < L0:=by rw [hL0];exact hb6.lt
 have l7:b7 < L0:=by rw [hL0];exact hb7.lt
 refine zJ fn28 (LY AT AF AR AX AS ct cf cr cx cst l fs rs xs st _ AW AU cw cu ws us (hTab.mono hB.u) (hU8.mono hB.u) (hTy.mono hB.u) (hF.mono hB.u) (hRu.mono hB.u) (hLx.mono hB.u) (hG.mono hB.u) (hW.mono hB.u) hsw (hU.mono hB.u)) rfl (fun e' w4 hr=>?_);obtain⟨⟨T1,F1,R1,X1,G1,k1,k2,k3,k4,k5,n1,n2,n3,n4,n5,rfl,hEx⟩,s4⟩:=hr;replace s4:=sB s4;rw [← hL0] at hEx;clear hL0;obtain⟨wE,hwE⟩:∃ z,z=w4:=⟨_,rfl⟩
 have hBE:Bel wE w4:=by rw [hwE];exact Below.refl _ _
 rw [← hwE] at hEx;clear hwE;refine⟨_,rfl,?_⟩;refine wmT rfl (wl (jw (v:= .agg _) rfl rfl) (wl (jw (v:= .agg _) rfl rfl) ?_));refine zY (cs:=#[.slice none 0 0,.slice none 0 0,.slice none 0 0,.slice none 0 0,.slice none 0 0]) uK rfl (fun b8 w5 hb8 s5 hr=>?_);have:=nLL hb6.u.lt hr;have:=nLL hb7.u.lt hr;have lo8:=nLT (Bel.size hB.u) hr;have lo_hBE_b8:=nLT (Bel.size hBE) hr;refine zY (cs:=#[.int .i64 0,.int .i64 0]) qk rfl (fun b9 w6 hb9 s6 hr=>?_);have:=nLL hb6.u.lt hr;have:=nLL hb7.u.lt hr;have:=nLL hb8.lt hr;have lo9:=nLT (Bel.size hB.u) hr;have lo_hBE_b9:=nLT (Bel.size hBE.u) hr;refine zj hb8.u rfl rfl x5 rfl zX (fun w7 hq s7=>?_);replace hb8:=hq;refine zj hb9.u rfl rfl z4 rfl zX (fun w8 hq s8=>?_);replace hb9:=hq;refine yw ?_;refine zy rfl (fun c19=>?_) (fun c19=>?_)
 ·refine xv ?_;refine kZ [b6,b7] [0,1,2,3] rfl (fun w9 s9=>?_);refine hl rfl (fun _=>uv (vs:=#[]) (cs:=#[.slice none 0 0,.slice none 0 0,.slice none 0 0,.slice none 0 0,.slice none 0 0]) (by simp) kR) (zn1 ?_);refine h1 rfl ?_;refine zj hb6.u rfl rfl x5 rfl zX (fun w10 hq s10=>?_);have hsH2:=s10;replace hb6:=hq;refine zw (e_H (X':=[b7]) (Same.weak hsH2 (by simp)) (by simp) (h1 rfl ?_));refine zj hb7.u rfl rfl z4 rfl zX (fun w11 hq s11=>?_);have hsH3:=s11;replace hb7:=hq;refine zw (e_H (X':=[]) (Same.weak hsH3 (by simp)) (by simp) (zn4 ?_));refine gy (.inl rfl) rfl (zk U32 rfl rfl hb6.u.range0 x5) (zk U36 rfl rfl hb7.range0 z4) ?_;exact⟨ext_bad2 c19,hB.u⟩
 obtain⟨hi0,rfl,rfl,rfl,rfl,rfl,hH⟩:=hEx (Decidable.not_not.1 c19);refine zn3 ?_;replace hBE:=((hBE.tr0 (s5.trans s6)).tr1 s7 lo_hBE_b8).tr1 s8 lo_hBE_b9;replace hH:=hH.bel hBE;refine zn2 ?_;refine wl (uv (vs:=#[]) (cs:=#[.int .i64 0,.int .i64 0]) (by simp) kR) ?_;refine zj hb6.u rfl rfl x5 rfl zX (fun w12 hq s12=>?_);replace hH:=hH.lo1 s12 l6;replace hb6:=hq;refine zj hb7.u rfl rfl z4 rfl zX (fun w13 hq s13=>?_);replace hH:=hH.lo1 s13 l7;replace hb7:=hq;refine zn3 ?_;refine gy (.inl rfl) rfl (zk U32 rfl rfl hb6.u.range0 x5) (zk U36 rfl rfl hb7.range0 z4) ?_;exact⟨ext_good2 (Decidable.not_not.1 c19) hi0 (hH.up.mono (Nat.zero_le _) (Nat.le_refl _) (Nat.le_refl _)),hB.u⟩
end Go.Proofs.YtbcpgfnfiekbiaaGreatDoor
namespace Go.Proofs.YtbcpgfnfiekbiaaGreatDoor
open Go.RowKit
def StrsD (w:World) (A:Option Addr) (ss:List ByteArray):Prop:=
  ss≠[]→∃ b o,A=some ⟨b,o,none⟩∧b < w.heap.size∧∀ k (h:k < ss.length),w.cell? ⟨b,o + k * 1,none⟩=some (.string ss[k])
theorem StrsD.at_ {w w':World} {A:Option Addr} {ss:List ByteArray} (h:StrsD w A ss) (hb:Bel w w') {k:Nat} (hk:k < ss.length):
    ∃ b o,A=some ⟨b,o,none⟩∧w'.cell? ⟨b,o + k * 1,none⟩=some (.string ss[k]):=by
  obtain⟨b,o,e,hl,hc⟩:=h (by rintro rfl;simp at hk);exact⟨b,o,e,hb.cell hl (hc k hk)⟩
def MZ (ns:List ByteArray) (ps:List Int) (i:Nat):Ty:=⟨ns.getD i ⟨#[]⟩,if 0 < i then [ps.getD i 0] else []⟩
def Yz (ns:List ByteArray) (ps:List Int) (k:Nat):List Ty:=(List.range k).map (MZ ns ps)
theorem Ov (ns:List ByteArray) (ps:List Int) (k:Nat):Yz ns ps (k + 1)=Yz ns ps k ++ [MZ ns ps k]:=by
  unfold Yz;rw [List.range_succ,List.map_append];rfl
theorem Fv {ns:List ByteArray} {ps:List Int} {k:Nat} (hk:k < ns.length) (h:¬0 < k):MZ ns ps k=⟨ns[k],[]⟩:=by
  simp [MZ,h,List.getD,List.getElem?_eq_getElem hk]
theorem Lv {ns:List ByteArray} {ps:List Int} {k:Nat} (hk:k < ns.length) (hk2:k < ps.length) (h:0 < k):MZ ns ps k=⟨ns[k],[ps[k]]⟩:=by
  simp [MZ,h,List.getD,List.getElem?_eq_getElem hk,List.getElem?_eq_getElem hk2]
def TS2:List Nat:=110 :: 25 :: TS
inductive TyData (w:World):List Ty→List Value→Prop
  | nil:TyData w [] []
  | snoc {l:List Ty} {vs:List Value} {x:Ty} {A:Option Addr} {c:Nat} (h:TyData w l vs) (hp:IntsIn w A x.par):TyData w (l ++ [x]) (vs ++ [.string x.name,.slice A x.par.length c])
theorem TyData.len {w:World} {l:List Ty} {vs:List Value} (h:TyData w l vs):vs.length=l.length * 2:=by
  induction h with
  | nil=>rfl
  | snoc h hl ih=>simp only [List.length_append,List.length_cons,List.length_nil,ih];omega
theorem TyData.get {w:World} {l:List Ty} {vs:List Value} (h:TyData w l vs):∀ k (hk:k < l.length),∃ A c,vs[k * 2]? =some (.string (l[k]).name)∧vs[k * 2 + 1]? =some (.slice A (l[k]).par.length c)∧IntsIn w A (l[k]).par:=by
  induction h with
  | nil=>intro k hk;simp at hk
  | @snoc l cs t A c h hp ih=>
    intro k hk;have hlen:=h.len;by_cases e:k < l.length
    · obtain⟨A',c',h1,h2,h3⟩:=ih k e
      refine⟨A',c',?_,?_,?_⟩
      · rw [List.getElem?_append_left om,h1,List.getElem_append_left e]
      · rw [List.getElem?_append_left om,h2,List.getElem_append_left e]
      · rw [List.getElem_append_left e];exact h3
    · simp only [List.length_append,List.length_cons,List.length_nil] at hk
      have ek:k=l.length:=by omega
      subst ek;have eg:(l ++ [t])[l.length]'(by simp)=t:=by simp
      rw [eg];refine⟨A,c,?_,?_,hp⟩
      · rw [List.getElem?_append_right om,hlen];simp
      · rw [List.getElem?_append_right om,hlen];simp
theorem gof_types {w:World} {B:Nat} {A:Option Addr} {k cap:Nat} {cs:List Value} {l:List Ty} (ho:Own w B 110 2 A k cap cs) (ht:TyData w l cs):TypesIn w A l:=by
  have hlk:l.length=k:=by have h1:=ho.len;have h2:=ht.len;omega
  refine⟨by rw [hlk];exact ho.max,fun hn=>?_⟩
  obtain⟨g,e,hb,hg,hc⟩:=ho.cell (by
    intro h0;have:=ht.len;rw [h0] at this;cases l with
    | nil=>exact hn rfl
    | cons a r=>simp only [List.length_nil,List.length_cons] at this;omega)
  refine⟨g,0,e,hg,fun j hj=>?_⟩;obtain⟨A',c,h1,h2,h3⟩:=ht.get j hj;refine⟨A',c,?_,h3⟩;intro i v hi
  match i,hi with
  | 0,hi=>cases hi;have:=hc _ _ h1;simpa using this
  | 1,hi=>cases hi;have:=hc _ _ h2;simpa using this
  | _ + 2,hi=>cases hi
theorem hof_end {w:World} {B n:Nat} {A:Option Addr} {k cap:Nat} {cs:List Value} {l:List Ty} (ho:Own w B 110 2 A k cap cs) (ht:Fz [] n TS2 w (fun w=>TyData w l cs)):Fz [] w.heap.size TS w (fun w=>TypesIn w A l):=
  ((ho.fz (ts:=TS) (Mj dE dE dE)).and ((ht.up).sub dE)).imp (fun _ h=>gof_types h.1 h.2)
theorem Fk {w:World} {n k:Nat} {ns:List ByteArray} {ps:List Int} {cs:List Value} (h:Fz [] n TS2 w (fun w=>TyData w (Yz ns ps k) cs)) (hk:k < ns.length) (h0:¬0 < k):Fz [] w.heap.size TS2 w (fun w=>TyData w (Yz ns ps (k + 1)) (cs ++ [.string ns[k],.slice none 0 0])):=by
  rw [Ov,Fv hk h0];exact h.up.imp (fun _ h=> .snoc (x:=⟨ns[k],[]⟩) h ⟨Nat.zero_le _,fun h=>absurd rfl h⟩)
theorem hof_pos {w:World} {n k b:Nat} {ns:List ByteArray} {ps:List Int} {cs:List Value} (h:Fz [] n TS2 w (fun w=>TyData w (Yz ns ps k) cs)) (hk:k < ns.length) (hk2:k < ps.length) (h0:0 < k) (hb:Blk w b 3 #[.int .i64 ps[k]]):Fz [] w.heap.size TS2 w (fun w=>TyData w (Yz ns ps (k + 1)) (cs ++ [.string ns[k],.slice (some ⟨b,0,none⟩) 1 1])):=by
  rw [Ov,Lv hk hk2 h0]
  exact(h.and (Fz.blk (X:=[]) hb (by simp) (Mj dE dE dE _))).imp (fun _ h=> .snoc (x:=⟨ns[k],[ps[k]]⟩) h.1 ⟨by show 1≤vQ;decide,fun _=>⟨b,0,rfl,h.2.lt,fun j hj=>by
    have:j=0:=by simp at hj;omega
    subst this
    exact h.2.cell rfl⟩⟩)
end Go.Proofs.YtbcpgfnfiekbiaaGreatDoor
namespace Go.Proofs.YtbcpgfnfiekbiaaGreatDoor
open Go.RowKit
inductive RlCs (w:World):List Rl→List Value→Prop
  | nil:RlCs w [] []
  | cons {r:Rl} {G S B:Option Addr} {gn cg cs cb:Nat} {l:List Rl} {vs:List Value} (hn:gn=r.gr.length) (hG:NodesIn w G r.gr) (hS:SimsIn w S r.mean.type.args) (hT:TmsIn w B r.mean.args) (t:RlCs w l vs):RlCs w (r :: l) (.string r.name :: .slice G gn cg :: .int .i64 r.kids :: .int .i64 r.wt :: .int .i64 r.mean.kind :: .string r.mean.name :: .int .i64 r.mean.index :: .string r.mean.type.base :: .slice S r.mean.type.args.length cs :: .slice B r.mean.args.length cb :: vs)
def rlC (r:Rl) (G S B:Option Addr) (cg cs cb:Nat):List Value:=[.string r.name,.slice G r.gr.length cg,.int .i64 r.kids,.int .i64 r.wt,.int .i64 r.mean.kind,.string r.mean.name,.int .i64 r.mean.index,.string r.mean.type.base,.slice S r.mean.type.args.length cs,.slice B r.mean.args.length cb]
theorem RlCs.len {w:World} {l:List Rl} {vs:List Value} (h:RlCs w l vs):vs.length=l.length * 10:=by
  induction h with
  | nil=>rfl
  | cons _ _ _ _ _ ih=>simp only [List.length_cons,ih];omega
theorem RlCs.get {w:World} {l:List Rl} {vs:List Value} (h:RlCs w l vs):∀ k (hk:k < l.length),∃ G cg S cs B cb,(∀ j v,(rlC (l[k]) G S B cg cs cb)[j]? =some v→vs[k * 10 + j]? =some v)∧NodesIn w G (l[k]).gr∧SimsIn w S (l[k]).mean.type.args∧TmsIn w B (l[k]).mean.args:=by
  induction h with
  | nil=>intro k hk;simp at hk
  | @cons r G S B gn cg cs cb l vs hn hG hS hT t ih=>
    intro k hk
    match k,hk with
    | 0,_=>
      subst hn;refine⟨G,cg,S,cs,B,cb,fun j v hj=>?_,hG,hS,hT⟩
      match j,hj with
      | 0,hj=>exact hj
      | 1,hj=>exact hj
      | 2,hj=>exact hj
      | 3,hj=>exact hj
      | 4,hj=>exact hj
      | 5,hj=>exact hj
      | 6,hj=>exact hj
      | 7,hj=>exact hj
      | 8,hj=>exact hj
      | 9,hj=>exact hj
      | _ + 10,hj=>cases hj
    | k + 1,hk=>
      obtain⟨G',cg',S',cs',B',cb',h1,h2⟩:=ih k (by simpa using hk);refine⟨G',cg',S',cs',B',cb',fun j v hj=>?_,h2⟩;rw [show (k + 1) * 10 + j=k * 10 + j + 10 by omega];exact h1 j v hj
theorem RlCs.rules {w:World} {b t:Nat} {l:List Rl} {vs:List Value} (h:RlCs w l vs) (hb:Blk w b t vs.toArray) (hl:l.length≤vQ):RulesIn w (some ⟨b,0,none⟩) l:=
  ⟨hl,fun _=>⟨b,0,rfl,hb.lt,fun k hk=>by
    obtain⟨G,cg,S,cs,B,cb,h1,h2⟩:=h.get k hk
    exact⟨G,cg,S,cs,B,cb,Vv hb (fun j v hj=>by rw [List.getElem?_toArray,Nat.zero_add];exact h1 j v hj),h2⟩⟩⟩
theorem R0 {w:World} {b t:Nat} (xs:List ByteArray) (h:Blk w b t (xs.map Value.string).toArray):StrsD w (some ⟨b,0,none⟩) xs:=
  fun _=>⟨b,0,rfl,h.lt,fun k hk=>h.cell (by simp [hk])⟩
def RowV (w:World) (r:List Int) (v:Value):Prop:=∃ A c,v= .slice A r.length c∧IntsIn w A r∧0 < r.length∧r.length≤1000
inductive RowVs (w:World):List (List Int)→List Value→Prop
  | nil:RowVs w [] []
  | cons {r:List Int} {rs:List (List Int)} {v:Value} {vs:List Value} (h:RowV w r v) (t:RowVs w rs vs):RowVs w (r :: rs) (v :: vs)
theorem RowVs.pos {w:World} {rs:List (List Int)} {vs:List Value} (h:RowVs w rs vs):∀ r ∈ rs,0 < r.length∧r.length≤1000:=by
  induction h with
  | nil=>intro r hr;cases hr
  | cons h _ ih=>
    intro r hr;rcases List.mem_cons.1 hr with rfl | hr
    · obtain⟨_,_,_,_,h3,h4⟩:=h;exact⟨h3,h4⟩
    · exact ih r hr
theorem RowVs.get {w:World} {rs:List (List Int)} {vs:List Value} (h:RowVs w rs vs):∀ k (hk:k < rs.length),∃ A c,vs[k]? =some (.slice A (rs[k]).length c)∧IntsIn w A rs[k]:=by
  induction h with
  | nil=>intro k hk;simp at hk
  | cons h _ ih=>
    intro k hk
    match k,hk with
    | 0,_=>obtain⟨A,c,h1,h2,_⟩:=h;exact⟨A,c,by rw [h1];rfl,h2⟩
    | k + 1,hk=>exact ih k (by simpa using hk)
theorem qJ {w:World} {b t:Nat} {rs:List (List Int)} {vs:List Value} (h:Blk w b t vs.toArray) (hr:RowVs w rs vs) (hl:rs.length≤1000):RowsIn w (some ⟨b,0,none⟩) rs:=
  ⟨hl,hr.pos,fun _=>⟨b,0,rfl,h.lt,fun k hk=>by
    obtain⟨A,c,h1,h2⟩:=hr.get k hk
    exact⟨A,c,h.cell (by simpa using h1),h2⟩⟩⟩
def kidsAt:Nat→Int→List Rl→List Rl
  | _,_,[]=>[]
  | 0,z,r :: l=>⟨r.name,r.gr,z,r.wt,r.mean⟩ :: l
  | k + 1,z,r :: l=>r :: kidsAt k z l
theorem RlCs.kids {w:World} {l:List Rl} {vs:List Value} (h:RlCs w l vs) (z:Int):∀ k,k < l.length→RlCs w (kidsAt k z l) (vs.set (k * 10 + 2) (.int .i64 z)):=by
  induction h with
  | nil=>intro k hk;simp at hk
  | @cons r G S B gn cg cs cb l vs hn hG hS hT t ih=>
    intro k hk
    match k,hk with
    | 0,_=>exact .cons (r:=⟨r.name,r.gr,z,r.wt,r.mean⟩) hn hG hS hT t
    | k + 1,hk=>
      rw [show (k + 1) * 10 + 2=k * 10 + 2 + 10 by omega];exact .cons hn hG hS hT (ih k (by simpa using hk))
def GmD (T:List Ty) (F:List Ft) (R:List Rl) (L:List Lx) (S:List Nd) (w0 w:World) (v:Value):Prop:=
  ∃ At ct Bf cf br cells A cap AS cst n,v= .agg #[.slice At T.length ct,.slice Bf F.length cf,.slice (some ⟨br,0,none⟩) R.length R.length,.slice A L.length cap,.slice AS S.length cst]∧w0.heap.size≤br∧L.length≤cap∧Blk w br 54 cells∧Fz [] n [54] w (fun w=>TypesIn w At T∧FeatsIn w Bf F∧RlCs w R cells.toList∧LexesIn w A L∧NodesIn w AS S)
def IsP (xs:List Int) (w:World) (v:Value):Prop:=∃ b,v= .slice (some ⟨b,0,none⟩) xs.length xs.length∧IntsIn w (some ⟨b,0,none⟩) xs
def RsP (rs:List (List Int)) (w:World) (v:Value):Prop:=∃ b,v= .slice (some ⟨b,0,none⟩) rs.length rs.length∧RowsIn w (some ⟨b,0,none⟩) rs
def GrP (rs:List (List Int)) (w:World) (v:Value):Prop:=∃ G c n,v= .agg #[.slice G rs.length c]∧Fz [] n TS w (fun w=>NodesIn w G (rs.map Yq))
theorem IsP.tr0 {xs:List Int} {w w1:World} {v:Value} (h:IsP xs w v) (hs:Same [] w w1):IsP xs w1 v:=by
  obtain⟨b,e,h⟩:=h;exact⟨b,e,h.mono hs.bel⟩
theorem vV {P:Program} {n:Nat} {f:Fr} {w:World} (xs:List Int) {len d:Nat} {t e ty:TypeId} {pos:String} {af:Array Edge} {parts:Array (Nat×Operand)} (hv:parts.toList.map (fun p=>(p.1,ev n f p.2))=xs.zipIdx.map (fun x=>(x.2,Value.int .i64 x.1)))
    (hu:P.underlying t=some (.slice e)) (hs:(P.info? e).map (·.size)=some 1) (hz:(P.info? e).map (·.zero)=some (some (.int .i64 0))) (hn:len=xs.length:=by rfl) (hl:¬len * 1 > 2 ^ 24:=by decide) (hl0:len * 1≠0:=by decide)
    (hfill:Instr.fill (fun i=>some (i * 1,1)) ((Array.range (len * 1)).map ((Value.int .i64 0).cells[· % (Value.int .i64 0).cells.size]!)) (xs.zipIdx.map (fun x=>(x.2,Value.int .i64 x.1)))=some (flat (xs.zipIdx.map (fun x=>(x.2,Value.int .i64 x.1)))):=by kernel_rfl)
    (hcs:flat (xs.zipIdx.map (fun x=>(x.2,Value.int .i64 x.1)))=(xs.map (Value.int .i64)).toArray:=by kernel_rfl) (hm:xs.length≤vQ:=by decide):OS P n f w ⟨some d,.buildSlice t len parts,ty,pos,af,none⟩ (fun v w''=>Same [] w w''∧IsP xs w'' v∧Wq false w w'' v):=
  vK (fun _ _ K=>qv _ hv hu hs hz hl hl0 hfill hcs (fun b w1 hb hs hr=>K _ _ ⟨hs,⟨b,by rw [hn],qj xs hb hm⟩,xq⟩))
theorem RsP.tr0 {xs:List (List Int)} {w w1:World} {v:Value} (h:RsP xs w v) (hs:Same [] w w1):RsP xs w1 v:=by
  obtain⟨b,e,h⟩:=h;exact⟨b,e,h.mono hs.bel⟩
theorem GrP.tr0 {xs:List (List Int)} {w w1:World} {v:Value} (h:GrP xs w v) (hs:Same [] w w1):GrP xs w1 v:=by
  obtain⟨G,c,n,e,h⟩:=h;exact⟨G,c,n,e,h.tr0 hs⟩
section fz
variable {X:List Nat} {n:Nat} {w w':World} {P:World→Prop}
theorem Fz.add {bG base k cap:Nat} {A:Option Addr} {cs:Array Value} {xs:List Value} (h:Fz X n TS w P) (hS:Same (bG :: aL A) w w') (hb:Blk w bG 32 cs) (ho:Own w base 46 9 A k cap xs):Fz X n TS w' P:=
  h.trX hS (fun g hg=>by
    rcases List.mem_cons.1 hg with e | hg
    · exact .inr (.inr ⟨_,_,by rw [e];exact hb,.inl dE⟩)
    · obtain⟨cs,h⟩:=Q9 ho g hg
      exact .inr (.inr ⟨_,_,h,.inl dE⟩))
end fz
def zGr:Array Value:=#[.slice none 0 0,.slice none 0 0,.slice none 0 0,.slice none 0 0,.slice none 0 0]
def tyET:Ts:= .f (.b false) (.b true)
def tyEET:Ts:= .f (.b false) tyET
section st
structure SmC (T:List Ty) (F:List Ft) (R:List Rl) (b0 b1 b2 b3 b4 b5 b23 b93 base capt c12 c15:Nat) (At A12 A15:Option Addr) (cr:Array Value) (w wc:World):Prop where
  bel:Bel w wc
  bs:base≤wc.heap.size
  k0:Blk wc b0 32 zGr
  k1:Blk wc b1 41 #[.string ⟨#[101]⟩,.slice none 0 0]
  k2:Blk wc b2 41 #[.string ⟨#[116]⟩,.slice none 0 0]
  k3:Blk wc b3 41 #[.string tyET.sm.base,.slice A12 tyET.sm.args.length c12]
  k4:Blk wc b4 41 #[.string tyEET.sm.base,.slice A15 tyEET.sm.args.length c15]
  k93:Blk wc b93 54 cr
  dt:Fz [] base TS wc (fun w=>TypesIn w At T∧FeatsIn w (some ⟨b23,0,none⟩) F∧RlCs w R cr.toList)
  p12:Fz [] base TS wc (fun w=>SimsIn w A12 tyET.sm.args)
  p15:Fz [] base TS wc (fun w=>SimsIn w A15 tyEET.sm.args)
  lo5:w.heap.size≤b5
  lo93:w.heap.size≤b93
  o:b0 < b5∧b1 < b5∧b2 < b5∧b3 < b5∧b4 < b5∧b5 < b93
  l:b5 < base∧b93 < base
variable {T F R b0 b1 b2 b3 b4 b5 b23 b93 base capt c12 c15 At A12 A15 cr}
theorem SmC.tr {w wc w1:World} {Z:List Nat} (h:SmC T F R b0 b1 b2 b3 b4 b5 b23 b93 base capt c12 c15 At A12 A15 cr w wc) (hs:Same Z wc w1) (hz:∀ x ∈ Z,(x=b5∨base≤x)∧∃ t cs,Blk wc x t cs∧Sp TS t cs):SmC T F R b0 b1 b2 b3 b4 b5 b23 b93 base capt c12 c15 At A12 A15 cr w w1:=by
  obtain⟨o0,o1,o2,o3,o4,o9⟩:=h.o;obtain⟨l5,l9⟩:=h.l;have hf:∀ g ∈ Z,base≤g∨g ∈ []∨∃ t cs,Blk wc g t cs∧Sp TS t cs:=fun g hg=> .inr (.inr (hz g hg).2)
  have lo5:=h.lo5;have lo93:=h.lo93
  exact { h with
    bel:=h.bel.tr hs (fun x hx=>by rcases(hz x hx).1 with e | e <;> omega)
    bs:=nLT h.bs hs.size
    k0:=h.k0.tr hs (fun hx=>by rcases(hz _ hx).1 with e | e <;> omega)
    k1:=h.k1.tr hs (fun hx=>by rcases(hz _ hx).1 with e | e <;> omega)
    k2:=h.k2.tr hs (fun hx=>by rcases(hz _ hx).1 with e | e <;> omega)
    k3:=h.k3.tr hs (fun hx=>by rcases(hz _ hx).1 with e | e <;> omega)
    k4:=h.k4.tr hs (fun hx=>by rcases(hz _ hx).1 with e | e <;> omega)
    k93:=h.k93.tr hs (fun hx=>by rcases(hz _ hx).1 with e | e <;> omega)
    dt:=h.dt.trX hs hf
    p12:=h.p12.trX hs hf
    p15:=h.p15.trX hs hf }
theorem SmC.tr0 {w wc w1:World} (h:SmC T F R b0 b1 b2 b3 b4 b5 b23 b93 base capt c12 c15 At A12 A15 cr w wc) (hs:Same [] wc w1):SmC T F R b0 b1 b2 b3 b4 b5 b23 b93 base capt c12 c15 At A12 A15 cr w w1:=h.tr hs (by simp)
theorem SmC.add {w wc w1:World} {k cap:Nat} {A:Option Addr} {cs:Array Value} {xs:List Value} (h:SmC T F R b0 b1 b2 b3 b4 b5 b23 b93 base capt c12 c15 At A12 A15 cr w wc) (hS:Same (b5 :: aL A) wc w1) (hb:Blk wc b5 32 cs) (ho:Own wc base 46 9 A k cap xs):SmC T F R b0 b1 b2 b3 b4 b5 b23 b93 base capt c12 c15 At A12 A15 cr w w1:=
  h.tr hS (fun g hg=>by
    rcases List.mem_cons.1 hg with e | hg
    · exact⟨.inl e,_,_,by rw [e];exact hb,.inl dE⟩
    · obtain⟨cs,h⟩:=Q9 ho g hg
      exact⟨.inr (ho.lt g hg).1,_,_,h,.inl dE⟩)
variable (T F R b0 b1 b2 b3 b4 b5 b23 b93 base capt c12 c15 At A12 A15 cr)
def SmSt (k:Nat) (lx:List Lx) (w wc:World):Prop:=SmC T F R b0 b1 b2 b3 b4 b5 b23 b93 base capt c12 c15 At A12 A15 cr w wc∧∃ A cap xs nL,Blk wc b5 32 #[.slice At 15 capt,.slice (some ⟨b23,0,none⟩) 5 5,.slice (some ⟨b93,0,none⟩) 6 6,.slice A k cap,.slice none 0 0]∧Own wc base 46 9 A k cap xs∧Fz [] nL TS wc (fun w=>LxData w lx xs)
variable {T F R b0 b1 b2 b3 b4 b5 b23 b93 base capt c12 c15 At A12 A15 cr}
theorem SmSt.tr0 {k:Nat} {lx:List Lx} {w wc w1:World} (h:SmSt T F R b0 b1 b2 b3 b4 b5 b23 b93 base capt c12 c15 At A12 A15 cr k lx w wc) (hs:Same [] wc w1):SmSt T F R b0 b1 b2 b3 b4 b5 b23 b93 base capt c12 c15 At A12 A15 cr k lx w w1:=by
  obtain⟨hC,A,cap,xs,nL,hb5,ho,hL⟩:=h;exact⟨hC.tr0 hs,A,cap,xs,nL,hb5.tr0 hs,ho.tr0 hs,hL.tr0 hs⟩
end st
def starB (g:List Nd):Bool:=(List.range g.length).all (fun i=>decide (i=0) || (List.range i).any (fun j=>(Nx g (j:Int)).ln.any (fun x=>decide (x.2=(i:Int)))))
theorem unr_star {g:List Nd} (h:starB g=true):J3 g= -1:=by
  refine(E8 (.inl ⟨rfl,?_⟩)).symm;intro i
  induction i using Nat.strongRecOn with
  | ind i ih=>
    intro hi;have h1:=List.all_eq_true.1 h i (List.mem_range.2 hi);by_cases e:i=0
    · subst e;exact .zero
    · simp only [e,decide_false,Bool.false_or] at h1
      obtain⟨j,hj,h2⟩:=List.any_eq_true.1 h1;obtain⟨x,hx,h3⟩:=List.any_eq_true.1 h2;have hji:=List.mem_range.1 hj;have hjl:j < g.length:=by omega
      have hx2:x ∈ (g[j]).ln:=by
        have e2:Nx g (j:Int)=g[j]:=by simp [Nx,List.getD,hjl]
        rw [e2] at hx;exact hx
      have hr:=Rch.step (ih j hji hjl) hjl hx2;have e3:x.2=(i:Int):=by simpa using h3
      rw [e3] at hr;simpa using hr
def grB (T:List Ty) (F:List Ft) (g:List Nd):Bool:=decide ((vj T.length F.length g).1=0) && decide (tyF T F g=(0,0)) && starB g
theorem LZ {T:List Ty} {F:List Ft} {g:List Nd} (h:grB T F g=true):xy T F g=(0,0):=by
  simp only [grB,Bool.and_eq_true,decide_eq_true_eq] at h;exact Nv h.1.1 h.1.2 (by rw [unr_star h.2];decide)
def tvB (x:Tv):Bool:=decide ((twk x.tm 1 0 0).2.1=0) && (tyv [] x).isSome
theorem tvB_ok {x:Tv} (h:tvB x=true):tmF x.tm=(0,0):=by
  simp only [tvB,Bool.and_eq_true,decide_eq_true_eq] at h;obtain⟨τ,hτ⟩:=Option.isSome_iff_exists.1 h.2;unfold tmF;rw [if_pos h.1,if_pos ⟨x,τ,rfl,hτ⟩]
structure RlS where
  name:ByteArray
  rows:List (List Int)
  kids:Int
  wt:Int
  mean:Tv
def RlS.rl (r:RlS):Rl:=⟨r.name,r.rows.map Yq,r.kids,r.wt,r.mean.tm⟩
structure LxS where
  word:ByteArray
  rows:List (List Int)
  wt:Int
  mean:Tv
def LxS.lx (r:LxS):Lx:=⟨r.word,r.rows.map Yq,r.wt,r.mean.tm⟩
def RlP (r:RlS) (w:World) (v:Value):Prop:=∃ G c n S cs B cb m,v= .agg #[.string r.name,.slice G r.rows.length c,.int .i64 r.kids,.int .i64 r.wt,.int .i64 r.mean.tm.kind,.string r.mean.tm.name,.int .i64 r.mean.tm.index,.string r.mean.tm.type.base,.slice S r.mean.tm.type.args.length cs,.slice B r.mean.tm.args.length cb]∧Fz [] n TS w (fun w=>NodesIn w G (r.rows.map Yq))∧Fz [] m TS w (fun w=>SimsIn w S r.mean.tm.type.args∧TmsIn w B r.mean.tm.args)
theorem RlP.tr0 {r:RlS} {w w1:World} {v:Value} (h:RlP r w v) (hs:Same [] w w1):RlP r w1 v:=by
  obtain⟨G,c,n,S,cs,B,cb,m,e,h1,h2⟩:=h;exact⟨G,c,n,S,cs,B,cb,m,e,h1.tr0 hs,h2.tr0 hs⟩
theorem Fz.rcons {r:RlS} {G S B:Option Addr} {c cs cb n m k:Nat} {l:List Rl} {vs:List Value} {w:World} (hG:Fz [] n TS w (fun w=>NodesIn w G (r.rows.map Yq))) (hM:Fz [] m TS w (fun w=>SimsIn w S r.mean.tm.type.args∧TmsIn w B r.mean.tm.args)) (hR:Fz [] k TS w (fun w=>RlCs w l vs)):
    Fz [] w.heap.size TS w (fun w=>RlCs w (r.rl :: l) (.string r.name :: .slice G r.rows.length c :: .int .i64 r.kids :: .int .i64 r.wt :: .int .i64 r.mean.tm.kind :: .string r.mean.tm.name :: .int .i64 r.mean.tm.index :: .string r.mean.tm.type.base :: .slice S r.mean.tm.type.args.length cs :: .slice B r.mean.tm.args.length cb :: vs)):=
  (hG.and (hM.and hR)).imp (fun _ h=>RlCs.cons (r:=r.rl) (by simp [RlS.rl]) h.1 h.2.1.1 h.2.1.2 h.2.2)
def rlB (T:List Ty) (F:List Ft) (r:RlS):Bool:=xK r.name && !decide (I3 r.rl) && grB T F r.rl.gr && gk r.rl.gr r.kids && tvB r.mean
def lxB (T:List Ty) (F:List Ft) (r:LxS):Bool:=yX r.word && !decide (N1 r.lx) && grB T F r.lx.gr && tvB r.mean
def rlsB (T:List Ty) (F:List Ft) (R:List RlS):Bool:=(List.range R.length).all (fun i=>match R[i]? with
  | none=>false
  | some r=>rlB T F r && !jj ((R.take i).map (·.name)) r.name)
def gramB (T:List Ty) (F:List Ft) (R:List RlS) (X:List LxS) (S:List Nd):Bool:=decide ((qx T F).1=0) && decide (3 < F.length) && decide (R.length≤40) && decide (X.length≤100) && rlsB T F R && X.all (lxB T F) && grB T F S
theorem rlB_ok {T:List Ty} {F:List Ft} {r:RlS} (h:rlB T F r=true):xK r.rl.name=true∧X5 T F r.rl=0:=by
  simp only [rlB,Bool.and_eq_true,Bool.not_eq_true',decide_eq_false_iff_not] at h;refine⟨h.1.1.1.1,?_⟩;rw [rl_ok h.1.1.1.2 (by rw [LZ h.1.1.2]) h.1.2];exact congrArg (·.1) (tvB_ok h.2)
theorem lxB_ok {T:List Ty} {F:List Ft} {r:LxS} (h:lxB T F r=true):Y0 T F r.lx=0:=by
  simp only [lxB,Bool.and_eq_true,Bool.not_eq_true',decide_eq_false_iff_not] at h;rw [lx_ok h.1.1.1 h.1.1.2 (by rw [LZ h.1.2])];exact congrArg (·.1) (tvB_ok h.2)
theorem rlsB_ok {T:List Ty} {F:List Ft} {R:List RlS} (h:rlsB T F R=true) {i:Nat} (hi:i < R.length):uw T F (R.map RlS.rl) i=0:=by
  have h1:=List.all_eq_true.1 h i (List.mem_range.2 hi);simp only [List.getElem?_eq_getElem hi,Bool.and_eq_true,Bool.not_eq_true'] at h1;have hi2:i < (R.map RlS.rl).length:=by simpa using hi
  have e:(R.map RlS.rl)[i]'hi2=(R[i]).rl:=by simp
  have e2:(((R.map RlS.rl).take i).map (·.name))=(R.take i).map (·.name):=by rw [← List.map_take,List.map_map];rfl
  obtain⟨a,b⟩:=rlB_ok h1.1;rw [rnF hi2 (by rw [e];exact a) (by rw [e,e2];exact h1.2),e];exact b
theorem Ij {f:Nat→Int}:∀ (m i:Nat),(∀ k,i≤k→k < i + m→f k=0)→zW f i m=(0,0)
  | 0,_,_=>rfl
  | m + 1,i,h=>by
    rw [zW,if_neg (fun e=>e (h i (Nat.le_refl _) om))]
    exact Ij m (i + 1) (fun k h1 h2=>h k om om)
theorem N6 {f:Nat→Int} {n:Nat} (h:∀ i,i < n→f i=0):zW f 0 n=(0,0):=Ij n 0 (fun k _ h2=>h k om)
theorem gram_ok {T:List Ty} {F:List Ft} {R:List RlS} {X:List LxS} {S:List Nd} (h:gramB T F R X S=true):jv T F (R.map RlS.rl) (X.map LxS.lx) S=(0,0):=by
  simp only [gramB,Bool.and_eq_true,decide_eq_true_eq] at h;obtain⟨⟨⟨⟨⟨⟨h1,h2⟩,h3⟩,h4⟩,h5⟩,h6⟩,h7⟩:=h;refine gr_ok h1 om (by simp only [List.length_map];omega) (N6 (fun i hi=>rlsB_ok h5 (by simpa using hi))) (N6 (fun i hi=>?_)) (by rw [LZ h7]);have hi2:i < X.length:=by simpa using hi
  rw [lnF hi,show (X.map LxS.lx)[i]'hi=(X[i]).lx by simp];exact lxB_ok (List.all_eq_true.1 h6 _ (List.getElem_mem hi2))
end Go.Proofs.YtbcpgfnfiekbiaaGreatDoor
