/- What these functions of the program compute, at every world: glosswright/glosswrightref4.Extended. What these functions of the program compute, at every world: glosswright/robust.extend$1, slices.IndexFunc[[]glosswright/api.Lex,glosswright/api.Lex], slices.ContainsFunc[[]glosswright/api.Lex,glosswright/api.Lex]. The text of a valid hierarchy: its lines, and that they are read back as they were. No program in sight. What these functions of the program compute, at every world: glosswright/grammar.Validate. -/
import Derived.Test.YtbcpgfnfiekbiaaGreatDoorU
import Derived.Test.YtbcpgfnfiekbiaaGreatDoorTrm
import Derived.Test.YtbcpgfnfiekbiaaGreatDoorECr
import Derived.Test.YtbcpgfnfiekbiaaGreatDoorRws
import Derived.Test.YtbcpgfnfiekbiaaGreatDoorRng
import Derived.Test.YtbcpgfnfiekbiaaGreatDoorGRf
import Derived.Test.YtbcpgfnfiekbiaaGreatDoorStk
import Derived.Test.YtbcpgfnfiekbiaaGreatDoorHLaw
import Derived.Test.YtbcpgfnfiekbiaaGreatDoorNN1
namespace Go.Proofs.YtbcpgfnfiekbiaaGreatDoor
open Go.RowKit
theorem Kw.bel {w w2:World} (h:Kw w w2):Bel w { w2 with os:=w.os,tape:=w.tape,output:=w.output }:=⟨rfl,rfl,rfl,h.1,h.2⟩
theorem TypesIn.keep {w w2:World} {A:Option Addr} {l:List Ty} (hw:Kw w w2) (h:TypesIn w A l):TypesIn w2 A l:=by
  have h2:=h.mono hw.bel;exact h2
theorem FeatsIn.keep {w w2:World} {A:Option Addr} {l:List Ft} (hw:Kw w w2) (h:FeatsIn w A l):FeatsIn w2 A l:=by
  have h2:=h.mono hw.bel;exact h2
theorem fn32_ERx:zZ Tryz.prog 32=true:=by kernel_rfl
theorem fn35:zZ Tryz.prog 35=true:=by kernel_rfl
set_option maxRecDepth 100000 in
set_option maxHeartbeats 8000000 in
theorem Sw (AT AF AR AX AS:Option Addr) (ct cf cr cx cst:Nat) (l:List Ty) (fs:List Ft) (rs:List Rl) (xs:List Lx) (st:List Nd) (w:World) (AW AU:Option Addr) (cw cu:Nat) (ws:List ByteArray) (us:List Lx) (hP:GpS l fs rs xs st) (hTy:TypesIn w AT l) (hF:FeatsIn w AF fs) (hRu:RulesIn w AR rs) (hLx:LexesIn w AX xs) (hG:NodesIn w AS st) (hW:StrsIn w AW ws) (hsw:∀ x ∈ ws,x.size < 9223372036854775807) (hU:LexesIn w AU us):Calls Tryz.prog 8 #[.agg #[.slice AT l.length ct,.slice AF fs.length cf,.slice AR rs.length cr,.slice AX xs.length cx,.slice AS st.length cst],.slice AW ws.length cw,.slice AU us.length cu] w fun e w'=>G8 (OJ l fs xs ws us) l fs rs st w' e∧Bel w w':=by
 have hS:=YQ hP.hier;have hfo:=OZ hP.hier;have hxn:=hP.xn;have hmw:=hW.1;unfold vQ at hmw;refine enT Tryz.func8 Tryz.ntmps8 rfl rfl fun hB=>?_;refine zn2 ?_;refine qK (v:= .agg #[_,_,_,_,_]) (cs:=#[_,_,_,_,_]) rfl rfl (fun b3 w1 hb3 s1 hr=>?_);refine zY (cs:=#[.slice none 0 0,.slice none 0 0,.slice none 0 0,.slice none 0 0,.slice none 0 0]) uK rfl (fun b6 w2 hb6 s2 hr=>?_);have lo6:=nLT (Bel.size hB.u) hr;refine zY (cs:=#[.int .i64 0,.int .i64 0]) qk rfl (fun b7 w3 hb7 s3 hr=>?_);have:=nLL hb6.lt hr;have lo7:=nLT (Bel.size hB.u) hr;refine zn4 ?_;replace hB:=hB.tr0 (s1.trans (s2.trans s3));replace hb6:=hb6.tr0 s3;refine x6 (rg [] 21 8) 28 (.bool (decide (ws.length=0∨12 < ws.length))) nu ?_ (fun gq=>?_)
 ·refine zn5 ?_;refine zx 24 rfl (fun g24=>?_) (fun g24=>?_)
  ·refine zn4 ?_;refine zw (e_R ⟨rfl,agA,?_⟩);exact clA
  refine zn7 ?_;refine zw (e_R ⟨rfl,agA,?_⟩);exact clA
 refine e_S ?_;refine zy rfl (fun hw0=>?_) (fun hw0=>?_)
 ·refine zn2 ?_;refine wl (uv (vs:=#[]) (cs:=#[.slice none 0 0,.slice none 0 0,.slice none 0 0,.slice none 0 0,.slice none 0 0]) (by simp) kR) (wl (yv (v0:= .int _ _) (v1:= .int _ _) (fun v0 v1=>#[v0,v1]) rfl rfl kR) ?_);refine zj hb6 rfl rfl x5 rfl zX (fun w4 hq s4=>?_);replace hb6:=hq;refine zj hb7.u rfl rfl z4 rfl zX (fun w5 hq s5=>?_);replace hb7:=hq;refine zn4 ?_;refine gy (.inl rfl) rfl (zk U32 rfl rfl hb6.u.range0 x5) (zk U36 rfl rfl hb7.range0 z4) ?_;replace hB:=(hB.tr1 s4 lo6).tr1 s5 lo7;exact⟨Iv (Y3 (ef_len hw0) (show (9:Int)≠0 from dE)) (show (9:Int)≠0 from dE),hB⟩
 refine yx ?_;refine zK (rg [8,9] 33 12) (fun m g w'=>∃ j:Nat,j≤ws.length∧m=ws.length - j∧g 33= .int .i64 j∧Bel w w'∧Blk w' b3 32 #[.slice AT l.length ct,.slice AF fs.length cf,.slice AR rs.length cr,.slice AX xs.length cx,.slice AS st.length cst]∧Blk w' b6 32 #[.slice none 0 0,.slice none 0 0,.slice none 0 0,.slice none 0 0,.slice none 0 0]∧Blk w' b7 36 #[.int .i64 0,.int .i64 0]∧zW (wdN ws) 0 ws.length=zW (wdN ws) j (ws.length - j)) (ws.length) ?_ (fun m g4 w6 hI=>?_)
 ·exact⟨0,Nat.zero_le _,rfl,rfl,hB,hb3.u,hb6,hb7,rfl⟩
 obtain⟨j,hj,hm,h33,hB,hb3,hb6,hb7,hF'⟩:=hI;refine zQ 33 _ h33 nu (zn6 ?_);refine zy rfl (fun c34=>?_) (fun c34=>?_)
 ·have hjw:j < ws.length:=by omega
  obtain⟨wb,wo,hwe,hwb,hwc⟩:=hW.at_ hjw;refine zn7 ?_;refine wl (xw (i:=j) U33 Xv (show ev _ _ _=_ from Q8 _ _ hwe) rfl om rfl) (wl (qZ (v:= .string _) U9 rfl rfl (hB.cell hwb hwc)) (zn7 ?_));refine zJ fn34 (PY _ _ (hsw _ (List.getElem_mem hjw))) rfl (fun e' w7 hr=>?_);obtain⟨rfl,s6⟩:=hr;replace s6:=sB s6;refine⟨_,rfl,?_⟩;refine zn3 ?_;refine vw rfl (fun c40=>?_) (fun c40=>?_)
  ·have hwd:yX ws[j]=false:=by simpa using c40
   refine zn2 ?_;refine wl (uv (vs:=#[]) (cs:=#[.slice none 0 0,.slice none 0 0,.slice none 0 0,.slice none 0 0,.slice none 0 0]) (by simp) kR) (wmI rfl (wl (yv (v0:= .int _ _) (v1:= .int _ _) (fun v0 v1=>#[v0,v1]) rfl rfl kR) ?_));refine zj hb6.u rfl rfl x5 rfl zX (fun w8 hq s7=>?_);replace hb6:=hq;refine zj hb7.u rfl rfl z4 rfl zX (fun w9 hq s8=>?_);replace hb7:=hq;refine zn8 ?_;refine gy (.inl rfl) rfl (zk U32 rfl rfl hb6.u.range0 x5) (zk U36 rfl rfl hb7.range0 z4) ?_;replace hB:=((hB.tr0 s6).tr1 s7 lo6).tr1 s8 lo7;exact⟨Iv (Y3 (ef_word hw0 (hF'.trans (qw om (wd_bad hjw hwd) dE)) dE) (show (10:Int)≠0 from dE)) (show (10:Int)≠0 from dE),hB⟩
  have hwd:yX ws[j]=true:=by simpa using c40
  refine zn7 ?_;refine qV (ws.length - (j + 1)) om agA ?_;exact⟨j + 1,by omega,rfl,rfl,hB.u,hb3.u,hb6.u,hb7.u,hF'.trans (xV hjw (T4 hjw hwd))⟩
 have hWz:zW (wdN ws) 0 ws.length=(0,0):=hF'.trans (yq om);refine kJ ?_;refine zy rfl (fun c47=>?_) (fun c47=>?_)
 ·refine zn2 ?_;refine wl (uv (vs:=#[]) (cs:=#[.slice none 0 0,.slice none 0 0,.slice none 0 0,.slice none 0 0,.slice none 0 0]) (by simp) kR) (wl (yv (v0:= .int _ _) (v1:= .int _ _) (fun v0 v1=>#[v0,v1]) rfl rfl kR) ?_);refine zj hb6 rfl rfl x5 rfl zX (fun w10 hq s9=>?_);replace hb6:=hq;refine zj hb7.u rfl rfl z4 rfl zX (fun w11 hq s10=>?_);replace hb7:=hq;refine zn4 ?_;refine gy (.inl rfl) rfl (zk U32 rfl rfl hb6.u.range0 x5) (zk U36 rfl rfl hb7.range0 z4) ?_;replace hB:=(hB.tr1 s9 lo6).tr1 s10 lo7;exact⟨Iv (Y3 (ef_many hw0 hWz om) (show (2:Int)≠0 from dE)) (show (2:Int)≠0 from dE),hB⟩
 refine yx ?_;refine zK (rg [10,11,12] 52 16) (fun m g w'=>∃ q:Nat,q≤us.length∧m=us.length - q∧g 52= .int .i64 q∧Bel w w'∧Blk w' b3 32 #[.slice AT l.length ct,.slice AF fs.length cf,.slice AR rs.length cr,.slice AX xs.length cx,.slice AS st.length cst]∧Blk w' b6 32 #[.slice none 0 0,.slice none 0 0,.slice none 0 0,.slice none 0 0,.slice none 0 0]∧Blk w' b7 36 #[.int .i64 0,.int .i64 0]∧zW (gJ l fs us) 0 us.length=zW (gJ l fs us) q (us.length - q)) (us.length) ?_ (fun m g12 w12 hI=>?_)
 ·exact⟨0,Nat.zero_le _,rfl,rfl,hB,hb3,hb6,hb7,rfl⟩
 obtain⟨q,hq,hm,h52,hB,hb3,hb6,hb7,hL'⟩:=hI;refine zQ 52 _ h52 nu (zn6 ?_);refine zy rfl (fun c53=>?_) (fun c53=>?_)
 ·have hlq:q < us.length:=by omega
  obtain⟨ub,uo,Gk,cgk,Sk,csk,Bk,mk,hue,hub,hszq,hur,hGk,hSk,hTk⟩:=hU.at_ (Below.refl _ _:Bel w w) hlq;refine zn7 ?_;refine wl (xw (i:=q) U27 y9 (show ev _ _ _=_ from Q8 _ _ hue) rfl om rfl) (zn1 ?_);refine zY (cs:=#[.string ⟨#[]⟩,.slice none 0 0,.int .i64 0,.int .i64 0,.string ⟨#[]⟩,.int .i64 0,.string ⟨#[]⟩,.slice none 0 0,.slice none 0 0]) kK rfl (fun b11 w13 hb11 s11 hr=>?_);have:=nLL hb3.lt hr;have:=nLL hb6.lt hr;have:=nLL hb7.lt hr;have lo11:=nLT (Bel.size hB) hr;refine waI rfl ?_;refine zj hb11 rfl rfl y9 rfl zX (fun w14 hq s12=>?_);replace hb11:=hq;refine zn5 ?_;refine wl (zV U25 rfl rfl (hb3.u.sub (n:=2) (xs:=[_,_]) rfl) IY) (zn1 ?_);refine zJ fn32_ERx (F8 AT AF Gk Sk Bk ct cf cgk csk mk l fs (us[q]'hlq) _ (hTy.mono hB.u) hS.vt hS.le (hF.mono hB.u) hfo (hGk.mono hB.u) (hSk.mono hB.u) (hTk.mono hB.u) hszq) rfl (fun e' w15 hr=>?_);obtain⟨rfl,s13⟩:=hr;replace s13:=sB s13;refine⟨_,rfl,?_⟩;refine zn9 ?_;refine zy rfl (fun c62=>?_) (fun c62=>?_)
  ·have hly:=lnF (l:=l) (fs:=fs) hlq;refine zn2 ?_;refine wl (uv (vs:=#[]) (cs:=#[.slice none 0 0,.slice none 0 0,.slice none 0 0,.slice none 0 0,.slice none 0 0]) (by simp) kR) (zn2 ?_);refine wl (yv (v0:= .int _ _) (v1:= .int _ _) (fun v0 v1=>#[v0,v1]) rfl rfl kR) ?_;refine zj hb6.u rfl rfl x5 rfl zX (fun w16 hq s14=>?_);replace hb6:=hq;refine zj hb7.u rfl rfl z4 rfl zX (fun w17 hq s15=>?_);replace hb7:=hq;refine zn8 ?_;refine gy (.inl rfl) rfl (zk U32 rfl rfl hb6.u.range0 x5) (zk U36 rfl rfl hb7.range0 z4) ?_;replace hB:=((((hB.tr0 s11).tr1 s12 lo11).tr0 s13).tr1 s14 lo6).tr1 s15 lo7;exact⟨Iv (Y3 (OV hw0 hWz om (hL'.trans (qw om hly c62))) (show (Y0 l fs us[q]:Int)≠0 from c62)) (show (Y0 l fs us[q]:Int)≠0 from c62),hB⟩
  have hly0:=(lnF (l:=l) (fs:=fs) hlq).trans (Decidable.not_not.1 c62);refine zn7 ?_;refine qV (us.length - (q + 1)) om agA ?_;exact⟨q + 1,by omega,rfl,rfl,hB.u,hb3.u,hb6.u,hb7.u,hL'.trans (xV hlq hly0)⟩
 have hLz:zW (gJ l fs us) 0 us.length=(0,0):=hL'.trans (yq om);have hEF:Vj l fs ws us=(0,0):=OV hw0 hWz om hLz;have hUP:=Ex hP.hier (congrArg Prod.fst hLz);refine zn8 ?_;obtain⟨L0,hL0⟩:∃ z,z=w12.heap.size:=⟨_,rfl⟩
 have lL0:w.heap.size≤L0:=by rw [hL0];exact Bel.size hB
 have l3:b3 < L0:=by rw [hL0];exact hb3.lt
 have l6:b6 < L0:=by rw [hL0];exact hb6.lt
 have l7:b7 < L0:=by rw [hL0];exact hb7.lt
 refine zJ fn35 (G0 AT AF AR AX AS ct cf cr cx cst l fs rs xs st _ w hB hP hRu hLx hG) rfl (fun e' w18 hr=>?_);obtain⟨⟨Ar,cc,A3,c3,Ag,cg,vs,rfl,hz5L,ho3,hH⟩,s16⟩:=hr;replace s16:=sB s16;rw [← hL0] at ho3 hH hz5L;clear hL0;obtain⟨n3,hn3⟩:∃ z,z=w18.heap.size:=⟨_,rfl⟩
 rw [← hn3] at hH hz5L;clear hn3;refine⟨_,rfl,?_⟩;refine zY (cs:=#[.slice none 0 0,.slice none 0 0,.slice none 0 0,.slice none 0 0,.slice none 0 0]) uK rfl (fun b13 w19 hb13 s17 hr=>?_);have:=nLL hb3.u.lt hr;have:=nLL hb6.u.lt hr;have:=nLL hb7.u.lt hr;have or_ho3_b13:=fun g hg=>nLL (ho3.lt g hg).2 hr
 have or_hH_b13:=(nLT hH.le hr)
 have lo13:=nLT (Bel.size hB.u) hr;refine zj hb13 rfl rfl x5 rfl zX (fun w20 hq s18=>?_);replace ho3:=ho3.tr0 s17;replace ho3:=ho3.tr1 s18 (neL or_ho3_b13);replace hH:=hH.tr0 s17;replace hH:=hH.tr s18 (fun g hg=> .inr (.inr (by rw [List.mem_singleton.1 hg];exact or_hH_b13)));replace hb13:=hq;refine zn4 ?_
 replace hH:=hH.hole (Y:=b13 :: aL A3) (fun y hy=>by
   rcases List.mem_cons.1 hy with h | h
   · exact .inr (.inr (by rw [h];exact or_hH_b13))
   · exact .inl h)
 have lB13:=nLT hz5L or_hH_b13;replace or_ho3_b13:∀ g ∈ aL A3,g≠b13:=fun g hg=>Nat.ne_of_lt (or_ho3_b13 g hg)
 rw [← List.length_map (f:=ow l fs)] at ho3;replace hb13:Blk w20 b13 32 #[.slice AT l.length ct,.slice AF fs.length cf,.slice Ar rs.length cc,.slice A3 (xs.map (ow l fs)).length c3,.slice Ag (yk l fs st).length cg]:=by rw [List.length_map];exact hb13
 have hcur:(xs.map (ow l fs)).length≤100:=by rw [List.length_map];exact hxn
 refine zn7 ?_;refine zK (rg [15,16,18,20] 72 47) (fun m g w'=>∃ (j:Nat) (cur:List Lx) (A3:Option Addr) (c3 n3:Nat) (vs:List Value),j≤ws.length∧m=ws.length - j∧g 72= .int .i64 j∧Bel w w'∧Blk w' b3 32 #[.slice AT l.length ct,.slice AF fs.length cf,.slice AR rs.length cr,.slice AX xs.length cx,.slice AS st.length cst]∧Blk w' b6 32 #[.slice none 0 0,.slice none 0 0,.slice none 0 0,.slice none 0 0,.slice none 0 0]∧Blk w' b7 36 #[.int .i64 0,.int .i64 0]∧Blk w' b13 32 #[.slice AT l.length ct,.slice AF fs.length cf,.slice Ar rs.length cc,.slice A3 cur.length c3,.slice Ag (yk l fs st).length cg]∧Own w' L0 46 9 A3 cur.length c3 vs∧Hv L0 (b13 :: aL A3) n3 w' (fun w2=>((Kw w w2→RulesIn w2 Ar (rs.map (gZ l fs)))∧NodesIn w2 Ag (yk l fs st))∧RowD (lxK w) 9 w2 (cur) vs)∧(∀ g ∈ aL A3,g≠b13)∧cur.length≤100∧Y2 l fs us (ws.drop j) cur=Y2 l fs us ws (xs.map (ow l fs))) (ws.length) ?_ (fun m g20 w21 hI=>?_)
 ·exact⟨0,_,A3,c3,n3,vs,Nat.zero_le _,rfl,rfl,hB.u,hb3.u,hb6.u,hb7.u,hb13,ho3,hH,or_ho3_b13,hcur,rfl⟩
 obtain⟨j,cur,A3,c3,n3,vs,hj,hm,h72,hB,hb3,hb6,hb7,hb13,ho3,hH,or_ho3_b13,hcur,hX⟩:=hI;refine zQ 72 _ h72 nu (zn6 ?_);refine zy rfl (fun c73=>?_) (fun c73=>?_)
 ·have hjw:j < ws.length:=by omega
  obtain⟨wb,wo,hwe,hwb,hwc⟩:=hW.at_ hjw;refine zn6 ?_;refine wl (xw (i:=j) U33 Xv (show ev _ _ _=_ from Q8 _ _ hwe) rfl om rfl) (wl (qZ (v:= .string _) U9 rfl rfl (hB.cell hwb hwc)) (yw ?_));have hLc:=(O8 ho3 (Nat.le_refl _) (hH.imp (fun _ h=>h.2))).now (Kw.of hB);obtain⟨wC,hwC⟩:∃ z,z=w21:=⟨_,rfl⟩
  have hBC:Bel wC w21:=by rw [hwC];exact Below.refl _ _
  rw [← hwC] at hLc;clear hwC;refine zn8 ?_;refine zK (rg [16,18] 79 12) (fun m g w'=>∃ k:Nat,k≤cur.length∧m=cur.length - k∧g 79= .int .i64 k∧g 16= .bool (uZ (cur.take k) ws[j])∧Bel w w'∧Blk w' b3 32 #[.slice AT l.length ct,.slice AF fs.length cf,.slice AR rs.length cr,.slice AX xs.length cx,.slice AS st.length cst]∧Blk w' b6 32 #[.slice none 0 0,.slice none 0 0,.slice none 0 0,.slice none 0 0,.slice none 0 0]∧Blk w' b7 36 #[.int .i64 0,.int .i64 0]∧Bel wC w'∧Blk w' b13 32 #[.slice AT l.length ct,.slice AF fs.length cf,.slice Ar rs.length cc,.slice A3 cur.length c3,.slice Ag (yk l fs st).length cg]∧Own w' L0 46 9 A3 cur.length c3 vs∧Hv L0 (b13 :: aL A3) n3 w' (fun w2=>((Kw w w2→RulesIn w2 Ar (rs.map (gZ l fs)))∧NodesIn w2 Ag (yk l fs st))∧RowD (lxK w) 9 w2 (cur) vs)) (cur.length) ?_ (fun m g24 w22 hI=>?_)
  ·exact⟨0,Nat.zero_le _,rfl,rfl,rfl,hB,hb3,hb6,hb7,hBC,hb13,ho3,hH⟩
  obtain⟨k,hk,hm24,h79,h16,hB,hb3,hb6,hb7,hBC,hb13,ho3,hH⟩:=hI;refine zQ 79 _ h79 nu (zQ 16 _ h16 nu (zn6 ?_));refine zy rfl (fun c80=>?_) (fun c80=>?_)
  ·have hkc:k < cur.length:=by omega
   obtain⟨kb,ko,Gc,cgc,Sc,csc,Bc,mc,hke,hkb,_,hkr,_,_,_⟩:=hLc.at_ (Below.refl _ _:Bel wC wC) hkc;refine zn6 ?_;refine wl (xw (i:=k) U27 y9 (show ev _ _ _=_ from Q8 _ _ hke) rfl om rfl) (wl (zV U46 rfl rfl (hBC.range hkb hkr) y9) ?_);refine zY (cs:=#[.string ⟨#[]⟩,.slice none 0 0,.int .i64 0,.int .i64 0,.string ⟨#[]⟩,.int .i64 0,.string ⟨#[]⟩,.slice none 0 0,.slice none 0 0]) kK rfl (fun b18 w23 hb18 s19 hr=>?_);have:=nLL hb3.lt hr;have:=nLL hb6.lt hr;have:=nLL hb7.lt hr;have:=nLL hb13.lt hr;have or_ho3_b18:=fun g hg=>nLL (ho3.lt g hg).2 hr
   have or_hH_b18:=(nLT hH.le hr)
   have lo18:=nLT (Bel.size hB) hr;have lo_hBC_b18:=nLT (Bel.size hBC) hr;refine zj hb18 rfl rfl y9 rfl zX (fun w24 hq s20=>?_);replace ho3:=ho3.tr0 s19;replace ho3:=ho3.tr1 s20 (neL or_ho3_b18);replace hH:=hH.tr0 s19;replace hH:=hH.tr s20 (fun g hg=> .inr (.inr (by rw [List.mem_singleton.1 hg];exact or_hH_b18)));replace hb18:=hq;refine zw (e_S ?_);refine x6 (rg [16] 83 7) 16 (.bool (decide (uZ (cur.take k) ws[j]=true∨(cur[k]).word=ws[j]))) nu ?_ (fun gq=>?_)
   ·refine zn3 ?_;refine Yk 84 rfl (fun g84=>?_) (fun g84=>?_)
    ·refine zn6 ?_;refine zw (e_R ⟨rfl,agA,?_⟩);show Value.bool _=Value.bool _
     first
      | exact congrArg Value.bool (decide_eq_true (.inl g84)).symm
      | exact congrArg Value.bool (decide_eq_decide.2 ⟨.inr,fun h=>h.resolve_left (by rw [g84];decide)⟩)
    refine yw ?_;refine zw (e_R ⟨rfl,agA,?_⟩);show Value.bool _=Value.bool _
    first
     | exact congrArg Value.bool (decide_eq_true (.inl g84)).symm
     | exact congrArg Value.bool (decide_eq_decide.2 ⟨.inr,fun h=>h.resolve_left (by rw [g84];decide)⟩)
   refine zn6 ?_;refine qV (cur.length - (k + 1)) om agA ?_;replace hB:=(hB.tr0 s19).tr1 s20 lo18;replace hb3:=(hb3.tr0 s19).tr1 s20 om;replace hb6:=(hb6.tr0 s19).tr1 s20 om;replace hb7:=(hb7.tr0 s19).tr1 s20 om;replace hb13:=(hb13.tr0 s19).tr1 s20 om;replace hBC:=(hBC.tr0 s19).tr1 s20 lo_hBC_b18;exact⟨k + 1,by omega,rfl,rfl,congrArg Value.bool ((Lj hkc).trans (by simp)).symm,hB,hb3,hb6,hb7,hBC,hb13,ho3,hH⟩
  have hkc:k=cur.length:=by omega
  refine gV ?_;refine zK (rg [20] 93 19) (fun m g w'=>∃ (q t:Nat) (A3:Option Addr) (c3 n3:Nat) (vs:List Value),q≤us.length∧m=us.length - q∧g 93= .int .i64 q∧Bel w w'∧Blk w' b3 32 #[.slice AT l.length ct,.slice AF fs.length cf,.slice AR rs.length cr,.slice AX xs.length cx,.slice AS st.length cst]∧Blk w' b6 32 #[.slice none 0 0,.slice none 0 0,.slice none 0 0,.slice none 0 0,.slice none 0 0]∧Blk w' b7 36 #[.int .i64 0,.int .i64 0]∧Blk w' b13 32 #[.slice AT l.length ct,.slice AF fs.length cf,.slice Ar rs.length cc,.slice A3 (cur.length + t) c3,.slice Ag (yk l fs st).length cg]∧Own w' L0 46 9 A3 (cur.length + t) c3 vs∧Hv L0 (b13 :: aL A3) n3 w' (fun w2=>((Kw w w2→RulesIn w2 Ar (rs.map (gZ l fs)))∧NodesIn w2 Ag (yk l fs st))∧RowD (lxK w) 9 w2 ((cur ++ nw l fs us cur (ws[j])).take (cur.length + t)) vs)∧(∀ g ∈ aL A3,g≠b13)∧(uZ cur ws[j]=true→t=0)∧(uZ cur ws[j]=false→t=q)) (us.length) ?_ (fun m g29 w25 hI=>?_)
  ·exact⟨0,0,A3,c3,n3,vs,Nat.zero_le _,rfl,rfl,hB,hb3,hb6,hb7,hb13,ho3,by rw [Nat.add_zero,List.take_left];exact hH,or_ho3_b13,fun _=>rfl,fun _=>rfl⟩
  obtain⟨q,t,A3,c3,n3,vs,hq,hm29,h93,hB,hb3,hb6,hb7,hb13,ho3,hH,or_ho3_b13,ht1,ht2⟩:=hI;refine zQ 93 _ h93 nu (zn6 ?_);refine zy rfl (fun c94=>?_) (fun c94=>?_)
  ·have hlq:q < us.length:=by omega
   obtain⟨ub,uo,Gk,cgk,Sk,csk,Bk,mk,hue,hub,hszq,hur,hGk,hSk,hTk⟩:=hU.at_ (Below.refl _ _:Bel w w) hlq;refine zn6 ?_;refine wl (xw (i:=q) U27 y9 (show ev _ _ _=_ from Q8 _ _ hue) rfl om rfl) (zn1 ?_);refine zY (cs:=#[.string ⟨#[]⟩,.slice none 0 0,.int .i64 0,.int .i64 0,.string ⟨#[]⟩,.int .i64 0,.string ⟨#[]⟩,.slice none 0 0,.slice none 0 0]) kK rfl (fun b20 w26 hb20 s21 hr=>?_);have:=nLL hb3.lt hr;have:=nLL hb6.lt hr;have:=nLL hb7.lt hr;have:=nLL hb13.lt hr;have or_ho3_b20:=fun g hg=>nLL (ho3.lt g hg).2 hr
   have or_hH_b20:=(nLT hH.le hr)
   have lo20:=nLT (Bel.size hB) hr;refine zj hb20 rfl rfl y9 rfl zX (fun w27 hq s22=>?_);replace ho3:=ho3.tr0 s21;replace ho3:=ho3.tr1 s22 (neL or_ho3_b20);replace hH:=hH.tr0 s21;replace hH:=hH.tr s22 (fun g hg=> .inr (.inr (by rw [List.mem_singleton.1 hg];exact or_hH_b20)));replace hb20:=hq;refine zn8 ?_;refine vw rfl (fun c98=>?_) (fun c98=>?_)
   ·have hkn:uZ cur ws[j]=false:=by simpa [hkc] using c98
    obtain rfl:=(ht2 hkn).symm;refine zn4 ?_;refine wl (zV U30 rfl rfl (hb20.sub (n:=1) (xs:=[_]) rfl) uj) ?_;obtain⟨lz,hlz⟩:∃ z,z=w27.heap.size:=⟨_,rfl⟩
    have zo:∀ g ∈ aL A3,g < lz:=fun g hg=>by rw [hlz];exact(ho3.lt g hg).2
    replace hb13:=(hb13.tr0 s21).tr1 s22 om;have z13:b13 < lz:=by rw [hlz];exact hb13.lt
    have z20:b20 < lz:=by rw [hlz];exact hb20.lt
    have lLz:L0≤lz:=nLT lB13 (Nat.le_of_lt z13);refine zJ fn36 (NX Gk cgk l fs ((us[q])).gr _ ((hGk).mono hB.u) (hUP q hlq).1) rfl (fun e' w28 hr=>?_);obtain⟨⟨A5,c5,rfl,hz5⟩,s23⟩:=hr;replace s23:=sB s23;rw [← hlz] at hz5;clear hlz;obtain⟨n5,hn5⟩:∃ z,z=w28.heap.size:=⟨_,rfl⟩
    rw [← hn5] at hz5;clear hn5;refine⟨_,rfl,?_⟩;refine zn1 ?_;replace hb20:=hb20.tr0 s23;refine x9 (v:= .string _) hb20 rfl rfl Xv (by first | decide | simp) rfl rfl (fun w29 hq s24=>?_);replace ho3:=ho3.tr0 s23;replace ho3:=ho3.tr1 s24 (neL or_ho3_b20);replace hH:=hH.tr0 s23;replace hH:=hH.tr s24 (fun g hg=> .inr (.inr (by rw [List.mem_singleton.1 hg];exact or_hH_b20)));replace hz5:=hz5.lo1 s24 z20;replace hb20:=hq;replace hb20:Blk w29 b20 46 #[.string (ws[j]),.slice Gk (us[q]).gr.length cgk,.int .i64 (us[q]).wt,.int .i64 ((us[q]).mean).kind,.string ((us[q]).mean).name,.int .i64 ((us[q]).mean).index,.string ((us[q]).mean).type.base,.slice Sk ((us[q]).mean).type.args.length csk,.slice Bk ((us[q]).mean).args.length mk]:=hb20;refine zn1 ?_;refine oW hb20 rfl rfl uj (by first | decide | simp) zX rfl (fun w30 hq s25=>?_);replace ho3:=ho3.tr1 s25 (neL or_ho3_b20);replace hH:=hH.tr s25 (fun g hg=> .inr (.inr (by rw [List.mem_singleton.1 hg];exact or_hH_b20)));replace hz5:=hz5.lo1 s25 z20;replace hb20:=hq;replace hb20:Blk w30 b20 46 #[.string (ws[j]),.slice A5 (yk l fs (us[q]).gr).length c5,.int .i64 (us[q]).wt,.int .i64 ((us[q]).mean).kind,.string ((us[q]).mean).name,.int .i64 ((us[q]).mean).index,.string ((us[q]).mean).type.base,.slice Sk ((us[q]).mean).type.args.length csk,.slice Bk ((us[q]).mean).args.length mk]:=hb20;refine zn6 ?_;refine qv (cs:=#[_,_,_,_,_,_,_,_,_]) [(0,.agg _)] rfl U27 y9 kK dE dE kR rfl (fun b108 w31 hb108 s26 hr=>?_);have:=nLL hb3.u.lt hr;have:=nLL hb6.u.lt hr;have:=nLL hb7.u.lt hr;have:=nLL hb13.u.lt hr;replace hH:=hH.tr0 s26;have hnH:=hH.le;replace hz5:=hz5.tr0 s26;have hnz:=hz5.le;replace ho3:=ho3.tr0 s26;refine vW U27 Iq rfl dE ho3 hb108 rfl rfl rfl zX dE om om (nLT lB13 (Nat.le_of_lt hb13.u.lt)) (fun g109 cap109 w32 ho109 s27 hg=>?_);have ne_ho109_b3:g109≠b3:=neA ho3 hb3.u.lt hg
    have ne_ho109_b6:g109≠b6:=neA ho3 hb6.u.lt hg
    have ne_ho109_b7:g109≠b7:=neA ho3 hb7.u.lt hg
    have ne_ho109_b13:g109≠b13:=neB hb13.u.lt hg (fun g hg=>by have:=or_ho3_b13 g hg;omega)
    have ne_ho109_b20:g109≠b20:=neB hb20.u.lt hg (neL or_ho3_b20)
    replace hB:=hB.u.tr s27 (fun g hg=>nLT lL0 (ho3.lt g hg).1);replace hb3:=(((((hb3.tr0 s21).tr1 s22 om).tr0 s23).tr1 s24 om).tr1 s25 om).tr0 s26;replace hb3:=hb3.ta s27 ho3;replace hb6:=(((((hb6.tr0 s21).tr1 s22 om).tr0 s23).tr1 s24 om).tr1 s25 om).tr0 s26;replace hb6:=hb6.ta s27 ho3;replace hb7:=(((((hb7.tr0 s21).tr1 s22 om).tr0 s23).tr1 s24 om).tr1 s25 om).tr0 s26;replace hb7:=hb7.ta s27 ho3;replace hb13:=(((hb13.tr0 s23).tr1 s24 om).tr1 s25 om).tr0 s26;replace hb13:=hb13.tb s27 (fun g hg=>by have:=or_ho3_b13 g hg;omega);replace hH:=hH.tr s27 (fun g hg=> .inr (.inl (by simp [hg])));replace hz5:=hz5.tr s27 (fun g hg=> .inl (zo g hg));refine zn1 ?_;refine x9 (v:= .slice _ _ _) hb13 rfl rfl QW (by first | decide | simp) rfl rfl (fun w33 hq s28=>?_);replace hH:=hH.in1 s28 (by simp);replace hz5:=hz5.lo1 s28 z13;replace ho109:=ho109.tr1 s28 (neS ne_ho109_b13);replace hb13:=hq;have hY0:∀ n≤_,∀ y ∈ b13 :: aL (some (⟨g109,0,none⟩:Addr)),y ∈ b13 :: aL A3∨n≤y:=fun n hn y hy=>by
      rcases List.mem_cons.1 hy with h | hy
      · exact .inl (by simp [h])
      rcases hg with hg | hg
      · exact .inl (by rw [List.mem_singleton.1 hy];simp [hg])
      · exact .inr (by rw [List.mem_singleton.1 hy];exact nLT hn hg)
    have hY2:∀ y ∈ b13 :: aL (some (⟨g109,0,none⟩:Addr)),y < lz∨n5≤y:=fun y hy=>by
      rcases hY0 n5 hnz y hy with h | h
      · rcases List.mem_cons.1 h with h | h
        · exact .inl (by rw [h];exact z13)
        · exact .inl (zo y h)
      · exact .inr h
    have hH2:=(((hH.imp (fun _ h=>h.1)).hole (fun y hy=>(hY0 _ hnH y hy).imp id .inr)).up).andN (RowD.app (v:=lxC (unX l fs ws[j] us[q]) A5 Sk Bk c5 csk mk) (nw_lt hkn hlq) (nw_at hkn hlq) (hH.imp (fun _ h=>h.2)) rfl (hz5.imp (fun _ h hk=>(⟨hsw _ (List.getElem_mem hjw),A5,Sk,Bk,c5,csk,mk,rfl,h,hSk.keep hk,hTk.keep hk⟩:lxD _ (unX l fs ws[j] us[q]) _))) lLz (hY0 _ hnH) hY2);refine zn7 ?_;refine qV (us.length - (q + 1)) om agA ?_;replace hB:=hB.tr1 s28 lo13;replace hb3:=hb3.tr1 s28 om;replace hb6:=hb6.tr1 s28 om;replace hb7:=hb7.tr1 s28 om
    first
     | exact⟨q + 1,q + 1,_,_,_,_,by omega,rfl,rfl,hB,hb3,hb6,hb7,hb13,ho109,hH2,(fun g hg=>by rw [List.mem_singleton.1 hg];exact ne_ho109_b13),(fun h=>by rw [hkn] at h;cases h),fun _=>rfl⟩
     | exact⟨q + 1,t,A3,c3,n3,vs,by omega,rfl,rfl,hB,hb3,hb6,hb7,hb13,ho3,hH,or_ho3_b13,ht1,(fun h=>by rw [hkn] at h;cases h)⟩
   have hkn:uZ cur ws[j]=true:=by simpa [hkc] using c98
   refine zn7 ?_;refine qV (us.length - (q + 1)) om agA ?_;replace hB:=(hB.tr0 s21).tr1 s22 lo20;replace hb3:=(hb3.tr0 s21).tr1 s22 om;replace hb6:=(hb6.tr0 s21).tr1 s22 om;replace hb7:=(hb7.tr0 s21).tr1 s22 om;replace hb13:=(hb13.tr0 s21).tr1 s22 om
   first
    | exact⟨q + 1,q + 1,_,_,_,_,by omega,rfl,rfl,hB,hb3,hb6,hb7,hb13,ho109,hH2,(fun g hg=>by rw [List.mem_singleton.1 hg];exact ne_ho109_b13),(fun h=>by rw [hkn] at h;cases h),fun _=>rfl⟩
    | exact⟨q + 1,t,A3,c3,n3,vs,by omega,rfl,rfl,hB,hb3,hb6,hb7,hb13,ho3,hH,or_ho3_b13,ht1,(fun h=>by rw [hkn] at h;cases h)⟩
  have hqe:q=us.length:=by omega
  refine zn6 ?_;have htn:t=(nw l fs us cur ws[j]).length:=nw_len ht1 (fun h=>(ht2 h).trans hqe);subst htn;rw [← List.length_append] at ho3 hb13;rw [List.take_of_length_le (by rw [List.length_append];exact Nat.le_refl _)] at hH;refine zn7 ?_;refine zy rfl (fun c115=>?_) (fun c115=>?_)
  ·refine zn2 ?_;refine wl (uv (vs:=#[]) (cs:=#[.slice none 0 0,.slice none 0 0,.slice none 0 0,.slice none 0 0,.slice none 0 0]) (by simp) kR) (wl (yv (v0:= .int _ _) (v1:= .int _ _) (fun v0 v1=>#[v0,v1]) rfl rfl kR) ?_);refine zj hb6 rfl rfl x5 rfl zX (fun w34 hq s29=>?_);replace hb6:=hq;refine zj hb7.u rfl rfl z4 rfl zX (fun w35 hq s30=>?_);replace hb7:=hq;refine zn8 ?_;refine gy (.inl rfl) rfl (zk U32 rfl rfl hb6.u.range0 x5) (zk U36 rfl rfl hb7.range0 z4) ?_;exact⟨Iv (ea_no hEF (hX.symm.trans (ext_no hjw om))) dE,hB.u⟩
  refine zn7 ?_;refine qV (ws.length - (j + 1)) om agA ?_;exact⟨j + 1,_,A3,c3,n3,vs,by omega,rfl,rfl,hB,hb3,hb6,hb7,hb13,ho3,hH,or_ho3_b13,by omega,(Sy hjw om).symm.trans hX⟩
 have hje:j=ws.length:=by omega
 refine zn6 ?_;rw [hje,List.drop_length] at hX;have hG1:=((hH.imp (fun _ h=>h.1)).nil.up).andN (O8 ho3 (Nat.le_refl _) (hH.imp (fun _ h=>h.2)));have hG2:=hG1.imp (Q:=fun w2=>Kw w w2→Wz AT AF Ar A3 Ag l fs (rs.map (gZ l fs)) cur (yk l fs st) w2) (fun _ h hk=>⟨hTy.keep hk,hF.keep hk,h.1.1 hk,h.2 hk,h.1.2⟩);obtain⟨nG,hnG⟩:∃ z,z=w21.heap.size:=⟨_,rfl⟩
 rw [← hnG] at hG2;clear hnG;clear hG1;refine zn2 ?_;refine wl (uv (vs:=#[]) (cs:=#[.int .i64 0,.int .i64 0]) (by simp) kR) ?_;refine zj hb6 rfl rfl x5 rfl zX (fun w36 hq s31=>?_);replace hG2:=hG2.lo1 s31 l6;replace hb6:=hq;refine zj hb7.u rfl rfl z4 rfl zX (fun w37 hq s32=>?_);replace hG2:=hG2.lo1 s32 l7;replace hb7:=hq;refine zn3 ?_;refine gy (.inl rfl) rfl (zk U32 rfl rfl hb6.u.range0 x5) (zk U36 rfl rfl hb7.range0 z4) ?_;exact⟨W2 (ea_ok hEF hX.symm) (hG2.kw hB.u),hB.u⟩
end Go.Proofs.YtbcpgfnfiekbiaaGreatDoor
namespace Go.Proofs.YtbcpgfnfiekbiaaGreatDoor
open Go.RowKit
theorem fn100:zZ Tryz.prog 100=true:=by kernel_rfl
theorem fn59:zZ Tryz.prog 59=true:=by kernel_rfl
theorem nmx_any (b1:Nat) (x:Lx) (G SA BA:Option Addr) (cg cs cb:Nat) (s:ByteArray) (w:World) (hb1:Blk w b1 9 #[.string s]):Calls Tryz.prog 59 #[.agg #[.string (x).word,.slice G (x).gr.length cg,.int .i64 (x).wt,.int .i64 ((x).mean).kind,.string ((x).mean).name,.int .i64 ((x).mean).index,.string ((x).mean).type.base,.slice SA ((x).mean).type.args.length cs,.slice BA ((x).mean).args.length cb],.pointer (some ⟨b1,0,none⟩)] w fun e w'=>e= .returned (.bool (decide (x.word=s)))∧Bel w w':=by
 refine enT Tryz.func59 Tryz.ntmps59 rfl rfl fun hB=>?_;refine zn2 ?_;refine qK (v:= .agg #[_,_,_,_,_,_,_,_,_]) (cs:=#[_,_,_,_,_,_,_,_,_]) rfl rfl (fun b2 w1 hb2 s1 hr=>?_);refine gV ?_;exact⟨rfl,hB.u⟩
set_option maxHeartbeats 1000000 in
theorem ixx_any (A:Option Addr) (c b10:Nat) (l:List Lx) (s:ByteArray) (w:World) (hX:LexesIn w A l) (hb:Blk w b10 9 #[.string s]):Calls Tryz.prog 100 #[.slice A l.length c,.func (.func 59) #[] #[.pointer (some ⟨b10,0,none⟩)]] w fun e w'=>(∃ r:Int,e= .returned (.int .i64 r)∧(0≤r ↔ l.any (fun x=>decide (x.word=s))=true))∧Bel w w':=by
 have hmx:=hX.1;unfold vQ at hmx;refine enT Tryz.func100 Tryz.ntmps100 rfl rfl fun hB=>?_;refine gV ?_;refine zK (rg [4,5] 8 11) (fun m g w'=>∃ j:Nat,j≤l.length∧m=l.length - j∧g 8= .int .i64 j∧Bel w w'∧(∀ j' (hj:j' < l.length),j' < j→¬(l[j']).word=s)) (l.length) ?_ (fun m g2 w1 hI=>?_)
 ·exact⟨0,Nat.zero_le _,rfl,rfl,hB,fun j _ h=>by omega⟩
 obtain⟨j,hj,hm,h8,hB,hall⟩:=hI;refine zQ 8 _ h8 nu (zn6 ?_);refine zy rfl (fun c9=>?_) (fun c9=>?_)
 ·have hjl:j < l.length:=by omega
  obtain⟨lb,lof,Gx,cgx,Sx,csx,Bx,cbx,rfl,hlb,_,hlr,_⟩:=hX.at_ (Below.refl _ _:Bel w w) hjl;refine N9 ?_;refine xX rfl fn59 (nmx_any b10 (l[j]) Gx Sx Bx cgx csx cbx s _ (hb.bel hB)) rfl rfl (fun e' w2 hr=>?_);obtain⟨rfl,s1⟩:=hr;replace s1:=sB s1;refine⟨_,rfl,?_⟩;refine zw (e_S ?_);refine zy rfl (fun c16=>?_) (fun c16=>?_)
  ·refine kJ ?_;exact⟨⟨_,rfl,⟨fun _=>List.any_eq_true.2 ⟨_,List.getElem_mem hjl,decide_eq_true c16⟩,fun _=>by omega⟩⟩,hB.u⟩
  refine zn7 ?_;refine qV (l.length - (j + 1)) om agA ?_;replace hB:=hB.tr0 s1
  exact⟨j + 1,by omega,rfl,rfl,hB,fun j' hj' h=>by
    by_cases e:j'=j
    · subst e;exact c16
    · exact hall j' hj' om⟩
 have hje:j=l.length:=by omega
 subst hje;refine y8 ?_
 exact⟨⟨_,rfl,⟨fun h=>absurd h dE,fun h=>by
   obtain⟨x,hx,e⟩:=List.any_eq_true.1 h;obtain⟨k,hk,rfl⟩:=List.mem_iff_getElem.1 hx
   exact absurd (of_decide_eq_true e) (hall k hk hk)⟩⟩,hB⟩
theorem cfx_any (A:Option Addr) (c b10:Nat) (l:List Lx) (s:ByteArray) (w:World) (hX:LexesIn w A l) (hb:Blk w b10 9 #[.string s]):Calls Tryz.prog 58 #[.slice A l.length c,.func (.func 59) #[] #[.pointer (some ⟨b10,0,none⟩)]] w fun e w'=>e= .returned (.bool (l.any (fun x=>decide (x.word=s))))∧Bel w w':=by
 refine enT Tryz.func58 Tryz.ntmps58 rfl rfl fun hB=>?_;refine zn9 ?_;refine zJ fn100 (ixx_any A c b10 l s _ (hX.mono hB) (hb.bel hB)) rfl (fun e' w1 hr=>?_);obtain⟨⟨r,rfl,hr⟩,s1⟩:=hr;replace s1:=sB s1;refine⟨_,rfl,?_⟩;refine zn6 ?_;replace hB:=hB.tr0 s1;exact⟨yZ (by rw [Bool.eq_iff_iff,decide_eq_true_iff];exact hr.symm),hB⟩
end Go.Proofs.YtbcpgfnfiekbiaaGreatDoor
namespace Go.Proofs.YtbcpgfnfiekbiaaGreatDoor
open Go.RowKit
structure HV (l:List Ty) (fs:List Ft):Prop where
  le:l.length≤60
  pos:0 < l.length
  few:fs.length≤40
  ty:∀ k (hk:k < l.length),xK (l[k]).name=true∧jj ((l.take k).map (·.name)) (l[k]).name=false∧vx k (-1) (l[k]).par=0
  ft:∀ k (hk:k < fs.length),xK (fs[k]).name=true∧¬N4 l.length fs[k]
theorem hv_of {l:List Ty} {fs:List Ft} (h:(qx l fs).1=0):HV l fs:=by
  unfold qx at h;by_cases h4:40 < fs.length
  · rw [if_pos h4] at h;cases h
  rw [if_neg h4] at h;by_cases ht:(qY l).1≠0
  · rw [if_pos ht] at h;exact absurd h ht
  rw [if_neg ht] at h;by_cases hu:(u7 l).1≠0
  · rw [if_pos hu] at h;exact absurd h hu
  rw [if_neg hu] at h;have ht0:=Decidable.not_not.1 ht;have hl:=VQ ht0;refine⟨by omega,by omega,by omega,fun k hk=>?_,fun k hk=>?_⟩
  · obtain⟨h1,h2,_,h3⟩:=Ev hk (T8 ht0 hk)
    exact⟨h1,h2,h3⟩
  · have h1:=yJ h k (Nat.zero_le _) om
    cases hn:xK (fs[k]).name with
    | false=>rw [ft10 l.length fs k hk hn] at h1;cases h1
    | true=>
      cases hs:jj ((fs.take k).map (·.name)) (fs[k]).name with
      | true=>rw [ft7 l.length fs k hk hn hs] at h1;cases h1
      | false=>
        refine⟨rfl,fun hb=>?_⟩;rw [ft3 l.length fs k hk hn hs hb] at h1;cases h1
theorem par_few {i:Int}:∀ {ps:List Int} {last:Int},vx i last ps=0→last < i→(ps.length:Int)≤i - 1 - last
  | [],last,_,hl=>by simp only [List.length_nil];omega
  | q :: ps,last,h,hl=>by
    unfold vx at h
    by_cases h1:q < 0∨i≤q
    · rw [if_pos h1] at h;cases h
    rw [if_neg h1] at h
    by_cases h2:q≤last
    · rw [if_pos h2] at h;cases h
    rw [if_neg h2] at h
    have:=par_few h om
    rw [List.length_cons];omega
theorem HV.par {l:List Ty} {fs:List Ft} (h:HV l fs) {k:Nat} (hk:k < l.length):(l[k]).par.length≤k∧∀ p ∈ (l[k]).par,0≤p∧p < (k:Int):=by
  have h1:=(h.ty k hk).2.2;have:=par_few h1 om;exact⟨by omega,V9 h1⟩
def nmI (l:List Ty) (p:Int):List UInt8:=bl (l.getD p.toNat ⟨⟨#[]⟩,[]⟩).name
def lineB (p:List UInt8) (qs:List (List UInt8)):List UInt8:=p ++ qs.flatMap (fun q=>32 :: q)
def TYb:List UInt8:=[116,121,112,101]
def FEb:List UInt8:=[102,101,97,116]
def tyW (l:List Ty) (t:Ty):List (List UInt8):=bl t.name :: t.par.map (nmI l)
def fdW (l:List Ty) (x:Ft):List (List UInt8):=[bl x.name,nmI l x.of,nmI l x.val]
def tyL (l:List Ty) (t:Ty):List UInt8:=lineB TYb (tyW l t)
def fdL (l:List Ty) (x:Ft):List UInt8:=lineB FEb (fdW l x)
def nlB (ls:List (List UInt8)):List UInt8:=ls.flatMap (fun x=>x ++ [10])
def hlines (l:List Ty) (fs:List Ft):List (List UInt8):=l.map (tyL l) ++ fs.map (fdL l)
def htx (l:List Ty) (fs:List Ft):List UInt8:=nlB (hlines l fs)
section laws
variable {l:List Ty} {fs:List Ft}
end laws
end Go.Proofs.YtbcpgfnfiekbiaaGreatDoor
namespace Go.Proofs.YtbcpgfnfiekbiaaGreatDoor
open Go.RowKit
theorem fn45:zZ Tryz.prog 45=true:=by kernel_rfl
theorem FW:zZ Tryz.prog 55=true:=by kernel_rfl
theorem fn56:zZ Tryz.prog 56=true:=by kernel_rfl
theorem fn74:zZ Tryz.prog 74=true:=by kernel_rfl
theorem LQ:zZ Tryz.prog 94=true:=by kernel_rfl
theorem sz46:(Tryz.prog.info? 46).map (·.size)=some 9:=by kernel_rfl
theorem sz54:(Tryz.prog.info? 54).map (·.size)=some 10:=by kernel_rfl
theorem ze25:(Tryz.prog.info? 25).map (·.zero)=some (some (.agg #[.slice none 0 0,.slice none 0 0])):=by kernel_rfl
theorem ze46:(Tryz.prog.info? 46).map (·.zero)=some (some (.agg #[.string ⟨#[]⟩,.slice none 0 0,.int .i64 0,.int .i64 0,.string ⟨#[]⟩,.int .i64 0,.string ⟨#[]⟩,.slice none 0 0,.slice none 0 0])):=by kernel_rfl
theorem ze54:(Tryz.prog.info? 54).map (·.zero)=some (some (.agg #[.string ⟨#[]⟩,.slice none 0 0,.int .i64 0,.int .i64 0,.int .i64 0,.string ⟨#[]⟩,.int .i64 0,.string ⟨#[]⟩,.slice none 0 0,.slice none 0 0])):=by kernel_rfl
theorem SJ:(Tryz.prog.info? 89).map (·.zero)=some (some (.agg #[.slice none 0 0,.slice none 0 0])):=by kernel_rfl
set_option maxHeartbeats 2000000 in
theorem FX (AT AF AR AX AS:Option Addr) (ct cf cr cx cst:Nat) (l:List Ty) (fs:List Ft) (rs:List Rl) (xs:List Lx) (st:List Nd) (w:World) (hTab:TabIn w) (hU:U8In w) (hTy:TypesIn w AT l) (hF:FeatsIn w AF fs) (hRu:RulesIn w AR rs) (hLx:LexesIn w AX xs) (hG:NodesIn w AS st):Calls Tryz.prog 52 #[.agg #[.slice AT l.length ct,.slice AF fs.length cf,.slice AR rs.length cr,.slice AX xs.length cx,.slice AS st.length cst]] w fun e w'=>e= .returned (flV (jv l fs rs xs st))∧Bel w w':=by
 refine enT Tryz.func52 Tryz.ntmps52 rfl rfl fun hB=>?_;refine zn2 ?_;refine qK (v:= .agg #[_,_,_,_,_]) (cs:=#[_,_,_,_,_]) rfl rfl (fun b1 w1 hb1 s1 hr=>?_);refine zY (cs:=#[.int .i64 0,.int .i64 0]) qk rfl (fun b2 w2 hb2 s2 hr=>?_);have lo2:=nLT (Bel.size hB.u) hr;refine zn5 ?_;refine wl (zV U25 rfl rfl (hb1.u.sub (n:=2) (xs:=[_,_]) rfl) IY) ?_;refine xW (cs:=#[.slice none 0 0,.slice none 0 0]) ze25 rfl (fun _=>rfl) (fun _=>rfl) IY rfl zX (fun b3 w4 hb3 s3 hr=>?_);refine zn6 ?_;refine zJ fn74 (Cq AT AF ct cf l fs _ (hTab.mono hB.u) (hTy.mono hB.u) (hF.mono hB.u)) rfl (fun e' w5 hr=>?_);obtain⟨rfl,s4⟩:=hr;replace s4:=sB s4;refine⟨_,rfl,?_⟩;refine xW (cs:=#[.int .i64 0,.int .i64 0]) qk rfl (fun _=>rfl) (fun _=>rfl) z4 rfl zX (fun b4 w7 hb4 s5 hr=>?_);refine zn9 ?_;refine zy rfl (fun c22=>?_) (fun c22=>?_)
 ·refine zn3 ?_;refine zj hb2.u rfl rfl z4 rfl zX (fun w8 hq s6=>?_);replace hb2:=hq;refine zn4 ?_;refine x8 (.inl rfl) rfl (zk U36 rfl rfl hb2.range0 z4) ?_;exact⟨qQ (gr_hier c22),hB.u⟩
 have h0:=Decidable.not_not.1 c22;have hS:=YQ h0;have hfo:=OZ h0;have h40:=C3 h0;refine yx ?_;refine zy rfl (fun c27=>?_) (fun c27=>?_)
 ·refine zn2 ?_;refine zJ LQ (uz _ _ _) rfl (fun e' w9 hr=>?_);obtain⟨rfl,s7⟩:=hr;replace s7:=sB s7;refine⟨_,rfl,?_⟩;refine zj hb2.u rfl rfl z4 rfl zX (fun w10 hq s8=>?_);replace hb2:=hq;refine zn4 ?_;refine x8 (.inl rfl) rfl (zk U36 rfl rfl hb2.range0 z4) ?_;exact⟨qQ (gr_few h0 om),hB.u⟩
 have hf3:¬fs.length≤3:=by omega
 refine zn4 ?_;replace hB:=hB.tr0 (s1.trans (s2.trans (s3.trans (s4.trans s5))));replace hb2:=hb2.tr0 (s3.trans (s4.trans s5));refine x6 (rg [] 29 10) 38 (.bool (decide (40 < rs.length∨100 < xs.length))) nu ?_ (fun gq=>?_)
 ·refine zn6 ?_;refine zx 33 rfl (fun g33=>?_) (fun g33=>?_)
  ·refine zn5 ?_;refine zw (e_R ⟨rfl,agA,?_⟩);exact clA
  refine zn9 ?_;refine zw (e_R ⟨rfl,agA,?_⟩);exact clA
 refine e_S ?_;refine zy rfl (fun h38=>?_) (fun h38=>?_)
 ·refine zn2 ?_;refine zJ LQ (uz _ _ _) rfl (fun e' w11 hr=>?_);obtain⟨rfl,s9⟩:=hr;replace s9:=sB s9;refine⟨_,rfl,?_⟩;refine zj hb2.u rfl rfl z4 rfl zX (fun w12 hq s10=>?_);replace hb2:=hq;refine zn4 ?_;refine x8 (.inl rfl) rfl (zk U36 rfl rfl hb2.range0 z4) ?_;exact⟨qQ (gr_many h0 hf3 h38),hB.u⟩
 refine zn6 ?_;refine zJ FW (Jx AT ct l _ (hTy.mono hB) hS.vt hS.le) rfl (fun e' w13 hr=>?_);obtain⟨bu,bd,rfl,hTI,s11⟩:=hr;replace s11:=sB s11;obtain⟨wT,hwT⟩:∃ x,x=w13:=⟨_,rfl⟩
 have hBT:Bel wT w13:=by rw [hwT];exact Below.refl _ _
 rw [← hwT] at hTI;refine⟨_,rfl,?_⟩;refine xW (cs:=#[.slice none 0 0,.slice none 0 0]) SJ rfl (fun _=>rfl) (fun _=>rfl) D1 rfl zX (fun b5 w15 hb5 s12 hr=>?_);refine zn4 ?_;refine wl_mm (fun b43 w16 hb43 s13 hr=>?_);have:=nLL hb1.u.lt hr;have:=nLL hb2.u.lt hr;have:=nLL hb3.u.lt hr;have:=nLL hb5.lt hr;have lo43:=nLT (Bel.size hB.u) hr;have lo_hBT_b43:=nLT (Bel.size hBT.u) hr;refine wl (Zw (v:= .map _) rfl) (y8 ?_);refine zK (rg (rg [] 7 5) 47 35) (fun m g w'=>∃ (k:Nat) (mp:List (ByteArray×Value)),k≤rs.length∧m=rs.length - k∧g 47= .int .i64 k∧Bel w w'∧Bel wT w'∧Blk w' b1 32 #[.slice AT l.length ct,.slice AF fs.length cf,.slice AR rs.length cr,.slice AX xs.length cx,.slice AS st.length cst]∧Blk w' b2 36 #[.int .i64 0,.int .i64 0]∧Blk w' b3 25 #[.slice AT l.length ct,.slice AF fs.length cf]∧Blk w' b5 89 #[.slice (some ⟨bu,0,none⟩) l.length l.length,.slice (some ⟨bd,0,none⟩) l.length l.length]∧MapS w' b43 mp∧(∀ s,lkB mp s=jj ((rs.take k).map (·.name)) s)∧zW (uw l fs rs) 0 rs.length=zW (uw l fs rs) k (rs.length - k)) (rs.length) ?_ (fun m g12 w17 hI=>?_)
 ·exact⟨0,[],Nat.zero_le _,rfl,rfl,hB.u,hBT.u,hb1.u,hb2.u,hb3.u,hb5.u,hb43,fun s=>rfl,rfl⟩
 obtain⟨k,mp,hk,hm,h47,hB,hBT,hb1,hb2,hb3,hb5,hb43,hmp,hR'⟩:=hI;refine zQ 47 _ h47 nu (zn6 ?_);refine zy rfl (fun c48=>?_) (fun c48=>?_)
 ·have hlt:k < rs.length:=by omega
  obtain⟨tb,to,Gk,cgk,Sk,csk,Bk,mk,rfl,htb,htr,hGk,hSk,hTk⟩:=hRu.at_ hB hlt;refine zn8 ?_;refine wl (zV U54 rfl rfl htr sz54) ?_;refine zY (cs:=#[.string ⟨#[]⟩,.slice none 0 0,.int .i64 0,.int .i64 0,.int .i64 0,.string ⟨#[]⟩,.int .i64 0,.string ⟨#[]⟩,.slice none 0 0,.slice none 0 0]) ze54 rfl (fun b8 w18 hb8 s14 hr=>?_);have:=nLL hb1.lt hr;have:=nLL hb2.lt hr;have:=nLL hb3.lt hr;have:=nLL hb5.lt hr;have:=nLL hb43.lt hr;have lo8:=nLT (Bel.size hB) hr;have lo_hBT_b8:=nLT (Bel.size hBT) hr;refine waI rfl ?_;refine zj hb8 rfl rfl sz54 rfl zX (fun w19 hq s15=>?_);replace hb8:=hq;refine zn7 ?_;refine zJ FY (I9 _ _) rfl (fun e' w20 hr=>?_);obtain⟨rfl,rfl⟩:=hr;refine⟨_,rfl,?_⟩;refine zn3 ?_;refine vw rfl (fun c55=>?_) (fun c55=>?_)
  ·have hty:=rn10 (l:=l) (fs:=fs) hlt (by simpa using c55);refine zn3 ?_;refine zJ LQ (uz _ _ _) rfl (fun e' w21 hr=>?_);obtain⟨rfl,s16⟩:=hr;replace s16:=sB s16;refine⟨_,rfl,?_⟩;refine zj hb2.u rfl rfl z4 rfl zX (fun w22 hq s17=>?_);replace hb2:=hq;refine zn9 ?_;refine x8 (.inl rfl) rfl (zk U36 rfl rfl hb2.range0 z4) ?_;replace hB:=(((hB.tr0 s14).tr1 s15 lo8).tr0 s16).tr1 s17 lo2;exact⟨qQ (J2 h0 hf3 h38 (hR'.trans (qw om hty (show (10:Int)≠0 by decide))) (show (10:Int)≠0 by decide)),hB⟩
  have hnm:xK (rs[k]'hlt).name=true:=by simpa using c55
  refine zn5 ?_;refine wl (xZ (v:= .map _) rfl) (zn2 ?_);replace hb43:=(hb43.tr0 s14).tr1 s15 om;refine wl (r_lkS hb43 U94 U9 uJ rfl rfl) (wmT rfl (wl (jw (v:=_) rfl rfl) (wl (jw (v:= .bool _) rfl rfl) (wl (Zw (v:=_) rfl) (zn8 ?_)))));refine vw rfl (fun c65=>?_) (fun c65=>?_)
  ·have hty:=rn7 (l:=l) (fs:=fs) hlt hnm ((hmp _).symm.trans c65);refine zn3 ?_;refine zJ LQ (uz _ _ _) rfl (fun e' w23 hr=>?_);obtain⟨rfl,s18⟩:=hr;replace s18:=sB s18;refine⟨_,rfl,?_⟩;refine zj hb2.u rfl rfl z4 rfl zX (fun w24 hq s19=>?_);replace hb2:=hq;refine zn9 ?_;refine x8 (.inl rfl) rfl (zk U36 rfl rfl hb2.range0 z4) ?_;replace hB:=(((hB.tr0 s14).tr1 s15 lo8).tr0 s18).tr1 s19 lo2;exact⟨qQ (J2 h0 hf3 h38 (hR'.trans (qw om hty (show (7:Int)≠0 by decide))) (show (7:Int)≠0 by decide)),hB⟩
  have hsn:jj ((rs.take k).map (·.name)) (rs[k]'hlt).name=false:=by rw [← hmp];exact c65
  have hmp':∀ s,lkB (M4 mp (rs[k]'hlt).name (.int .i64 k)) s=jj ((rs.take (k + 1)).map (·.name)) s:=fun s=>by
    rw [o5 _ _ _ c65,ux rs hlt,List.map_append,List.map_cons,List.map_nil,ZQ,← hmp];simp [lkB]
  refine zn4 ?_;refine wl (xZ (v:= .map _) rfl) (zn3 ?_);refine Wj (v:= .int _ _) hb43 U94 U9 rfl rfl rfl (fun w25 hq s20=>?_);replace hb43:=hq;refine zn7 ?_;refine zJ fn45 (rule_any AT AF Gk Sk Bk ct cf cgk csk mk bu bd l fs (rs[k]'hlt) _ (hTI.mono hBT.u) hS.le (hF.mono hB.u) hfo h40 (hGk.mono hB.u) (hSk.mono hB.u) (hTk.mono hB.u)) rfl (fun e' w26 hr=>?_);obtain⟨rfl,s21⟩:=hr;replace s21:=sB s21;refine⟨_,rfl,?_⟩;refine zn9 ?_;refine zy rfl (fun c77=>?_) (fun c77=>?_)
  ·have hty:=rnF (l:=l) (fs:=fs) hlt hnm hsn;refine zn4 ?_;refine zJ LQ (uz _ _ _) rfl (fun e' w27 hr=>?_);obtain⟨rfl,s22⟩:=hr;replace s22:=sB s22;refine⟨_,rfl,?_⟩;refine zj hb2.u rfl rfl z4 rfl zX (fun w28 hq s23=>?_);replace hb2:=hq;refine zn8 ?_;refine x8 (.inl rfl) rfl (zk U36 rfl rfl hb2.range0 z4) ?_;exact⟨qQ (J2 h0 hf3 h38 (hR'.trans (qw om hty c77)) c77),hB.u⟩
  have hty0:=(rnF (l:=l) (fs:=fs) hlt hnm hsn).trans (Decidable.not_not.1 c77);refine zn7 ?_;refine qV (rs.length - (k + 1)) om agA ?_;replace hb43:=hb43.tr0 s21;exact⟨k + 1,M4 mp (rs[k]'hlt).name (.int .i64 k),by omega,rfl,rfl,hB.u,hBT.u,hb1.u,hb2.u,hb3.u,hb5.u,hb43,hmp',hR'.trans (xV hlt hty0)⟩
 have hRz:zW (uw l fs rs) 0 rs.length=(0,0):=hR'.trans (yq om);refine Z6 ?_;refine zK (rg [12,13,14] 85 15) (fun m g w'=>∃ q:Nat,q≤xs.length∧m=xs.length - q∧g 85= .int .i64 q∧Bel w w'∧Bel wT w'∧Blk w' b1 32 #[.slice AT l.length ct,.slice AF fs.length cf,.slice AR rs.length cr,.slice AX xs.length cx,.slice AS st.length cst]∧Blk w' b2 36 #[.int .i64 0,.int .i64 0]∧Blk w' b3 25 #[.slice AT l.length ct,.slice AF fs.length cf]∧Blk w' b5 89 #[.slice (some ⟨bu,0,none⟩) l.length l.length,.slice (some ⟨bd,0,none⟩) l.length l.length]∧zW (gJ l fs xs) 0 xs.length=zW (gJ l fs xs) q (xs.length - q)) (xs.length) ?_ (fun m g25 w29 hI=>?_)
 ·exact⟨0,Nat.zero_le _,rfl,rfl,hB,hBT,hb1,hb2,hb3,hb5,rfl⟩
 obtain⟨q,hq,hm,h85,hB,hBT,hb1,hb2,hb3,hb5,hL'⟩:=hI;refine zQ 85 _ h85 nu (zn6 ?_);refine zy rfl (fun c86=>?_) (fun c86=>?_)
 ·have hlq:q < xs.length:=by omega
  obtain⟨ub,uo,Gk,cgk,Sk,csk,Bk,mk,rfl,hub,hszq,hur,hGk,hSk,hTk⟩:=hLx.at_ hB hlq;refine zn8 ?_;refine wl (zV U46 rfl rfl hur sz46) ?_;refine zY (cs:=#[.string ⟨#[]⟩,.slice none 0 0,.int .i64 0,.int .i64 0,.string ⟨#[]⟩,.int .i64 0,.string ⟨#[]⟩,.slice none 0 0,.slice none 0 0]) ze46 rfl (fun b13 w30 hb13 s24 hr=>?_);have:=nLL hb1.lt hr;have:=nLL hb2.lt hr;have:=nLL hb3.lt hr;have:=nLL hb5.lt hr;have lo13:=nLT (Bel.size hB) hr;have lo_hBT_b13:=nLT (Bel.size hBT) hr;refine waI rfl ?_;refine zj hb13 rfl rfl sz46 rfl zX (fun w31 hq s25=>?_);replace hb13:=hq;refine zn7 ?_;refine zJ fn56 (C5 AT AF Gk Sk Bk ct cf cgk csk mk bu bd l fs (xs[q]'hlq) _ (hU.mono hB.u) (hTI.mono hBT.u) hS.le (hF.mono hB.u) hfo (hGk.mono hB.u) (hSk.mono hB.u) (hTk.mono hB.u) hszq) rfl (fun e' w32 hr=>?_);obtain⟨rfl,s26⟩:=hr;replace s26:=sB s26;refine⟨_,rfl,?_⟩;refine zn9 ?_;refine zy rfl (fun c95=>?_) (fun c95=>?_)
  ·have hly:=lnF (l:=l) (fs:=fs) hlq;refine zn4 ?_;refine zJ LQ (uz _ _ _) rfl (fun e' w33 hr=>?_);obtain⟨rfl,s27⟩:=hr;replace s27:=sB s27;refine⟨_,rfl,?_⟩;refine zj hb2.u rfl rfl z4 rfl zX (fun w34 hq s28=>?_);replace hb2:=hq;refine zn8 ?_;refine x8 (.inl rfl) rfl (zk U36 rfl rfl hb2.range0 z4) ?_;exact⟨qQ (gr_lex h0 hf3 h38 hRz (hL'.trans (qw om hly c95)) c95),hB.u⟩
  have hly0:=(lnF (l:=l) (fs:=fs) hlq).trans (Decidable.not_not.1 c95);refine zn7 ?_;refine qV (xs.length - (q + 1)) om agA ?_;exact⟨q + 1,by omega,rfl,rfl,hB.u,hBT.u,hb1.u,hb2.u,hb3.u,hb5.u,hL'.trans (xV hlq hly0)⟩
 have hLz:zW (gJ l fs xs) 0 xs.length=(0,0):=hL'.trans (yq om);refine yx ?_;refine wl (zV U30 rfl rfl (hb1.sub (n:=1) (xs:=[_]) rfl) uj) ?_;refine zJ fn84 (Jz AT AF AS ct cf cst bu bd l fs st _ (hTI.mono hBT) hS.le (hF.mono hB) (hG.mono hB) hfo) rfl (fun e' w35 hr=>?_);obtain⟨rfl,s29⟩:=hr;replace s29:=sB s29;refine⟨_,rfl,?_⟩;refine xW (cs:=#[.int .i64 0,.int .i64 0]) qk rfl (fun _=>rfl) (fun _=>rfl) z4 rfl zX (fun b15 w37 hb15 s30 hr=>?_);refine zn9 ?_;refine zy rfl (fun c107=>?_) (fun c107=>?_)
 ·refine zn4 ?_;refine zJ LQ (uz _ _ _) rfl (fun e' w38 hr=>?_);obtain⟨rfl,s31⟩:=hr;replace s31:=sB s31;refine⟨_,rfl,?_⟩;refine zj hb2.u rfl rfl z4 rfl zX (fun w39 hq s32=>?_);replace hb2:=hq;refine zn4 ?_;refine x8 (.inl rfl) rfl (zk U36 rfl rfl hb2.range0 z4) ?_;exact⟨qQ (FJ h0 hf3 h38 hRz hLz c107),hB.u⟩
 refine zn4 ?_;refine wl (uv (vs:=#[]) (cs:=#[.int .i64 0,.int .i64 0]) (by simp) kR) ?_;refine zj hb2.u rfl rfl z4 rfl zX (fun w40 hq s33=>?_);replace hb2:=hq;refine zn3 ?_;refine x8 (.inl rfl) rfl (zk U36 rfl rfl hb2.range0 z4) ?_;exact⟨qQ (gr_ok h0 hf3 h38 hRz hLz (Decidable.not_not.1 c107)),hB.u⟩
end Go.Proofs.YtbcpgfnfiekbiaaGreatDoor
