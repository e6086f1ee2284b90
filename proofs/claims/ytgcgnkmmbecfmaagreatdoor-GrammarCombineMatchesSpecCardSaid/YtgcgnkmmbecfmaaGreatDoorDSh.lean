/- What these functions compute, at every world: grammar.Combine, equal.graphOf, equal.Small$1, equal.hierarchyOf, equal.base, equal.fun, equal.con, equal.bound and 2 more; and plain laws. -/
import Derived.Test.YtgcgnkmmbecfmaaGreatDoorU
import Derived.Test.YtgcgnkmmbecfmaaGreatDoorZst
import Derived.Test.YtgcgnkmmbecfmaaGreatDoorLxd
import Derived.Test.YtgcgnkmmbecfmaaGreatDoorHtx
import Derived.Test.YtgcgnkmmbecfmaaGreatDoorGVd
import Derived.Test.YtgcgnkmmbecfmaaGreatDoorEng7
namespace Go.Proofs.YtgcgnkmmbecfmaaGreatDoor
open Go.RowKit Go.Proofs.Tryz
variable {i:Nat}
section
def kdR(rs:List Rl)(ri:Int):Int:=((rs[ri.toNat]?).map (·.kids)).getD 0
def grR(rs:List Rl)(ri:Int):List Nd:=((rs[ri.toNat]?).map (·.gr)).getD []
noncomputable def wiN(l:List Ty)(fs:List Ft)(ks:List (List Nd))(i:Nat):Int:=(xk l fs (ks.getD i [])).1
noncomputable def QZ(l:List Ty)(fs:List Ft)(rs:List Rl)(xs:List Lx)(st:List Nd)(ri:Int)(ks:List (List Nd)):Fl:=
 if ¬(yj l fs rs xs st).1=0 then yj l fs rs xs st else if ri<0\/(rs.length:Int)<=ri then (3,-2)else if ¬(ks.length:Int)=kdR rs ri then (9,-3)else qQ (wiN l fs ks) 0 ks.length
section cmb
variable {l:List Ty} {fs:List Ft} {rs:List Rl} {xs:List Lx} {st:List Nd} {ri:Int} {ks:List (List Nd)}
theorem cmb_g(h:¬(yj l fs rs xs st).1=0):QZ l fs rs xs st ri ks=((yj l fs rs xs st).1,(yj l fs rs xs st).2):=if_pos h
theorem cmb_r(h:(yj l fs rs xs st).1=0)(h2:ri<0\/(rs.length:Int)<=ri):QZ l fs rs xs st ri ks=(3,-2):=by unfold QZ;rw[if_neg (fun e=>e h),if_pos h2]
theorem cmb_k(h:(yj l fs rs xs st).1=0)(h2:¬(ri<0\/(rs.length:Int)<=ri))(h3:¬(ks.length:Int)=kdR rs ri):QZ l fs rs xs st ri ks=(9,-3):=by unfold QZ;rw[if_neg (fun e=>e h),if_neg h2,if_pos h3]
theorem cmb_w{f:Fl}(h:(yj l fs rs xs st).1=0)(h2:¬(ri<0\/(rs.length:Int)<=ri))(h3:(ks.length:Int)=kdR rs ri)(h4:qQ (wiN l fs ks) 0 ks.length=f):QZ l fs rs xs st ri ks=f:=by unfold QZ;rw[if_neg (fun e=>e h),if_neg h2,if_neg (fun e=>e h3),h4]
theorem W6(hi:i<rs.length):kdR rs (i:Int)=(rs[i]).kids:=by simp[kdR,hi]
theorem grR_at(hi:i<rs.length):grR rs (i:Int)=(rs[i]).gr:=by simp[grR,hi]
theorem DV(hi:i<ks.length):wiN l fs ks i=(xk l fs ks[i]).1:=by simp[wiN,List.getD,hi]
def CombS(l:List Ty)(fs:List Ft)(rs:List Rl)(xs:List Lx)(st:List Nd)(ri:Int)(ks:List (List Nd))(ok:Bool)(Y:List Nd):Prop:=
 (¬(QZ l fs rs xs st ri ks).1=0/\ok=false/\Y= [])\/(QZ l fs rs xs st ri ks=(0,0)/\J3 l (grR rs ri) 0 ks ok Y)
theorem gr_jok(h:(yj l fs rs xs st).1=0)(hi:i<rs.length):(qK l fs).1=0/\Jok l fs (rs[i]).kids (rs[i]).gr:=by
 have h1:(qK l fs).1=0:=by
  refine aG (fun e=>?_);rw[M8 e]at h;exact e h
 have h2:¬fs.length<=3:=fun e=>by rw[Bx h1 e]at h;cases h
 have h3:¬(40<rs.length\/100<xs.length):=fun e=>by rw[Ej h1 h2 e]at h;cases h
 have h4:(qQ (uj l fs rs) 0 rs.length).1=0:=by
  refine aG (fun e=>?_);rw[Xj (c:=(qQ (uj l fs rs) 0 rs.length).1) (i:=(qQ (uj l fs rs) 0 rs.length).2) h1 h2 h3 rfl e]at h;exact e h
 have q5:=QJ _ _ h4 i (ag _) oG;have q6:yJ (rs[i]).name=true:=by
  cases e:yJ (rs[i]).name with
  | true=>rfl
  | false=>rw[rn10 hi e]at q5;cases q5
 have q7:seen ((rs.take i).map (·.name)) (rs[i]).name=false:=by
  cases e:seen ((rs.take i).map (·.name)) (rs[i]).name with
  | false=>rfl
  | true=>rw[rn7 hi q6 e]at q5;cases q5
 rw[rnF hi q6 q7]at q5;have q8:¬VQ rs[i]:=fun e=>by rw[F9 e]at q5;cases q5
 have q9:(xk l fs (rs[i]).gr).1=0:=by
  refine aG (fun e=>?_);rw[rl_gr q8 e]at q5;exact e q5
 have q10:gX (rs[i]).gr (rs[i]).kids=true:=by
  cases e:gX (rs[i]).gr (rs[i]).kids with
  | true=>rfl
  | false=>rw[rl_pl q8 q9 e]at q5;cases q5
 refine⟨h1,jok_rule h1 q9 q10 ?_⟩;unfold VQ at q8;omega
end cmb
set_option maxRecDepth 100000 in
set_option maxHeartbeats 4000000 in
theorem R5(AT AF AR AX AS:Option Addr)(ct cf cr cx bv:Nat)(l:List Ty)(fs:List Ft)(rs:List Rl)(xs:List Lx)(st:List Nd)(ri:Int){kc:Nat}{KA:Option Addr}{ks:List (List Nd)}(w:World)(bj:TabIn w)(hU:U8In w)(hTy:TypesIn w AT l)(hF:FeatsIn w AF fs)(br:RulesIn w AR rs)(hLx:LexesIn w AX xs)(hG:NodesIn w AS st)(hK:GrsIn w KA ks):Calls Tryz.prog 5 #[.agg #[.slice AT l.length ct,.slice AF fs.length cf,.slice AR rs.length cr,.slice AX xs.length cx,.slice AS st.length bv],.int .i64 ri,.slice KA ks.length kc] w fun e w'=>(∃ A Y ok c,e= .returned (.tuple #[.agg #[.slice A (List.length Y) c],.bool ok,flV (QZ l fs rs xs st ri ks)])/\(∀ w2,FrSame w.heap.size w' w2->NodesIn w2 A Y)/\CombS l fs rs xs st ri ks ok Y)/\Bel w w':=by
 have hrx:=br.1;have hkx:=hK.1;unfold vJ at hrx hkx;refine enT Tryz.func5 Tryz.ntmps5 rfl rfl fun hB=>?_;refine zn2 ?_;refine xy (v:= .agg #[_,_,_,_,_]) (cs:=#[_,_,_,_,_]) rfl rfl (fun b3 w1 a5 s1 hr=>?_);have lo3:=hB.ob hr;refine qW (cs:=#[.slice none 0 0]) yz rfl (fun b6 w2 a1 s2 hr=>?_);have:=a5.ob hr;have bn:=hB.u.ob hr;refine waB rfl ?_;refine qW (cs:=#[.int .i64 0,.int .i64 0]) x6 rfl (fun b8 w3 a2 s3 hr=>?_);have:=a5.u.ob hr;have:=a1.ob hr;have bm:=hB.u.ob hr;refine zn6 ?_;refine ba kR (GW AT AF AR AX AS ct cf cr cx bv l fs rs xs st _ (bj.mono hB.u) (hU.mono hB.u) (hTy.mono hB.u) (hF.mono hB.u) (br.mono hB.u) (hLx.mono hB.u) (hG.mono hB.u)) rfl (fun w4 s4=>?_);refine yx (cs:=#[.int .i64 0,.int .i64 0]) x6 rfl (fun _=>rfl) (fun _=>rfl) zj rfl qz (fun b9 w6 bq s5 hr=>?_);have:=a5.u.ob hr;have:=a1.u.ob hr;have:=a2.u.ob hr;have lo9:=hB.u.ob hr;refine zn9 ?_;refine zQ rfl (fun bk=>?_) (fun bk=>?_)
 ·refine xV ?_;refine c_monoKO 5 [21,22,7] [b6,b8] (fun ix v wv=>match ix with|0=>v= .agg #[.slice none 0 0]|1=>v= .agg #[.int .i64 (yj l fs rs xs st).1,.int .i64 (yj l fs rs xs st).2]|2=>Blk wv b6 30 #[.slice none 0 0]|3=>v= .bool false|4=>Blk wv b8 36 #[.int .i64 (yj l fs rs xs st).1,.int .i64 (yj l fs rs xs st).2]|_=>True) (fun wq=>(∃ z,Blk wq b6 30 #[z])/\∃ z y,Blk wq b8 36 #[z,y]) kR kR ?_ ?_ ⟨⟨_,a1.u⟩,_,_,a2.u⟩ ?_ ?_
  ·intro ix v wv wv2 h s6
   match ix,h with
   | 0,h=>exact h
   | 1,h=>exact h
   | 2,h=>exact(show Blk wv b6 30 #[.slice none 0 0]from h).tr0 s6
   | 3,h=>exact h
   | 4,h=>exact(show Blk wv b8 36 #[.int .i64 (yj l fs rs xs st).1,.int .i64 (yj l fs rs xs st).2]from h).tr0 s6
   | _+5,h=>exact trivial
  ·intro wv wv2 h s7;obtain⟨⟨z1,a1⟩,z2,z3,a2⟩:=h;exact⟨⟨_,a1.u⟩,_,_,a2.u⟩
  ·intro ix o hix hoq gg wx s8 hJ hd
   match ix,hix,hoq with
   | 0,_,hoq=>
    cases sI hoq;show OS _ _ _ _ _ _;exact oVq (gQ (vs:=#[]) (cs:=#[.slice none 0 0]) (by simp) kR) rfl
   | 1,_,hoq=>
    cases sI hoq;replace bq:=bq.tr s8 (fun hx=>by simp only[List.mem_cons,List.not_mem_nil,or_false]at hx;omega);show OS _ _ _ _ _ _;exact oVq (qw U36 rfl rfl bq.range0 zj) rfl
   | 2,_,hoq=>
    cases sI hoq;show OS _ _ _ _ _ _;refine a7 21 (hd 0 _ a8 rfl) ?_;obtain⟨⟨z1,a1⟩,z2,z3,a2⟩:=hJ;refine I8 (fun ops Q K=>?_);refine zZ a1 rfl rfl zY rfl qz (fun w2 hq b7=>?_);have K2:=K w2;refine K2 ⟨b7.weak (by simp),?_,hq,fun kx v bb h=>?_⟩
    ·replace a2:=a2.tr b7 (by simp;omega);replace a1:=hq;exact⟨⟨_,a1⟩,_,_,a2⟩
    match kx,bb,h with
    | 0,_,h=>exact h
    | 1,_,h=>exact h
    | 2,bb,_=>exact absurd rfl bb
    | 3,_,h=>exact h
    | 4,_,h=>exact(show Blk wx b8 36 #[.int .i64 (yj l fs rs xs st).1,.int .i64 (yj l fs rs xs st).2]from h).tr b7 (by simp;omega)
    | _+5,_,_=>exact trivial
   | 3,_,hoq=>
    cases sI hoq;show OS _ _ _ _ _ _;exact oVq (uK (v:= .bool _) rfl) rfl
   | 4,_,hoq=>
    cases sI hoq;show OS _ _ _ _ _ _;refine a7 22 (hd 1 _ a8 rfl) ?_;obtain⟨⟨z1,a1⟩,z2,z3,a2⟩:=hJ;refine I8 (fun ops Q K=>?_);refine zZ a2 rfl rfl zj rfl qz (fun w2 hq b7=>?_);have K2:=K w2;refine K2 ⟨b7.weak (by simp),?_,hq,fun kx v bb h=>?_⟩
    ·replace a1:=a1.tr b7 (by simp;omega);replace a2:=hq;exact⟨⟨_,a1⟩,_,_,a2⟩
    match kx,bb,h with
    | 0,_,h=>exact h
    | 1,_,h=>exact h
    | 2,_,h=>exact(show Blk wx b6 30 #[.slice none 0 0]from h).tr b7 (by simp;omega)
    | 3,_,h=>exact h
    | 4,bb,_=>exact absurd rfl bb
    | _+5,_,_=>exact trivial
   | _+5,hix,_=>exact absurd hix oG
  intro gg w7 s9 hJ hR;replace hB:=hB.tr0 (s1.t (s2.t (s3.t (s4.t s5))));replace hB:=hB.tr s9 (fun q hx=>by simp only[List.mem_cons,List.not_mem_nil,or_false]at hx;omega);have hq2:Blk w7 b6 30 #[.slice none 0 0]:=hR 2 _ rfl;have hq4:Blk w7 b8 36 #[.int .i64 (yj l fs rs xs st).1,.int .i64 (yj l fs rs xs st).2]:=hR 4 _ rfl;replace a1:=hq2;replace a2:=hq4;refine xj 7 _ (hR 3 _ rfl) nu (zn4 ?_);refine Sy (.inl rfl) rfl (zW U30 rfl rfl a1.range0 zY) rfl (zW U36 rfl rfl a2.range0 zj) ?_;exact⟨⟨none,[],false,0,by rw[cmb_g bk];rfl,fun w2 _=>ZX w2 none,.inl ⟨by rw[cmb_g bk];exact bk,rfl,rfl⟩⟩,hB⟩
 have bc:=ak.1 bk;refine zn4 ?_;replace hB:=hB.tr0 (s1.t (s2.t (s3.t (s4.t s5))));replace a1:=a1.tr0 (s3.t (s4.t s5));replace a2:=a2.tr0 (s4.t s5);refine xw (rg [] 23 9) 31 (.bool (decide (ri<0\/(rs.length:Int)<=ri))) nu ?_ (fun gq=>?_)
 ·refine zn4 ?_;refine zw 25 rfl (fun g25=>?_) (fun g25=>?_)
  ·refine zn6 ?_;refine zJ (e_R ⟨rfl,agA,?_⟩);exact clA
  refine jq ?_;refine zJ (e_R ⟨rfl,agA,?_⟩);exact clA
 refine e_S ?_;refine zQ rfl (fun bf=>?_) (fun bf=>?_)
 ·refine zn2 ?_;refine wl (gQ (vs:=#[]) (cs:=#[.slice none 0 0]) (by simp) kR) ?_;refine ba Sw (kQ _ _ _) rfl (fun w8 s10=>?_);refine zZ a1.u rfl rfl zY rfl qz (fun w9 hq s11=>?_);replace a1:=hq;refine waB rfl ?_;refine zZ a2.u rfl rfl zj rfl qz (fun w10 hq s12=>?_);replace a2:=hq;refine zn4 ?_;refine Sy (.inl rfl) rfl (zW U30 rfl rfl a1.u.range0 zY) rfl (zW U36 rfl rfl a2.range0 zj) ?_;replace hB:=((hB.tr0 s10).tr1 s11 bn).tr1 s12 bm;exact⟨⟨none,[],false,0,by rw[cmb_r bc bf];rfl,fun w2 _=>ZX w2 none,.inl ⟨by rw[cmb_r bc bf];exact dE,rfl,rfl⟩⟩,hB⟩
 obtain⟨rn,hrn⟩:=Int.eq_ofNat_of_zero_le (show 0<=ri by omega);subst hrn;have a9:rn<rs.length:=by omega
 obtain⟨rb,ro,Gk,cgk,Sk,csk,Bk,mk,hAR,hrb,hrr,_,_,_⟩:=br.at_ hB a9;have bo:=W6 (rs:=rs) a9;obtain⟨h0,hjk⟩:=gr_jok bc a9;have hS:=Ky h0;have hfo:=By h0;refine zn4 ?_;subst hAR;refine zn5 ?_;refine wl (xz (v:= .int .i64 ((rn:Nat):Int)) rfl) (zn2 ?_);refine wl (qy (v:= .int _ _) U3 rfl rfl (hrr 2 _ rfl)) (zn3 ?_);refine zQ rfl (fun bx=>?_) (fun bx=>?_)
 ·refine zn2 ?_;refine wl (gQ (vs:=#[]) (cs:=#[.slice none 0 0]) (by simp) kR) ?_;refine ba Sw (kQ _ _ _) rfl (fun w11 s13=>?_);refine zZ a1.u rfl rfl zY rfl qz (fun w12 hq s14=>?_);replace a1:=hq;refine waB rfl ?_;refine zZ a2.u rfl rfl zj rfl qz (fun w13 hq s15=>?_);replace a2:=hq;refine zn4 ?_;refine Sy (.inl rfl) rfl (zW U30 rfl rfl a1.u.range0 zY) rfl (zW U36 rfl rfl a2.range0 zj) ?_;replace hB:=((hB.tr0 s13).tr1 s14 bn).tr1 s15 bm;exact⟨⟨none,[],false,0,by rw[cmb_k bc bf (by rw[bo];exact bx)];rfl,fun w2 _=>ZX w2 none,.inl ⟨by rw[cmb_k bc bf (by rw[bo];exact bx)];exact dE,rfl,rfl⟩⟩,hB⟩
 have c1:=ak.1 bx;refine zn7 ?_;refine qq kR (My AT ct l _ (hTy.mono hB) hS.vt hS.le) rfl (fun e' w14 hr=>?_);obtain⟨bu,bd,rfl,c2,s16⟩:=hr;replace s16:=sB s16;obtain⟨wT,hwT⟩:∃ x,x=w14:=⟨_,rfl⟩
 have ab:Bel wT w14:=by rw[hwT];exact Below.refl _ _
 rw[<- hwT]at c2;refine⟨_,rfl,?_⟩;refine yx (cs:=#[.slice none 0 0,.slice none 0 0]) WK rfl (fun _=>rfl) (fun _=>rfl) MZ rfl qz (fun b10 w16 a3 s17 hr=>?_);have:=a5.u.ob hr;have:=a1.u.ob hr;have:=a2.u.ob hr;have:=bq.u.ob hr;have lo10:=hB.u.ob hr;have b5:=ab.ob hr;refine jq ?_;refine qx (rg [7,11,12,13] 51 19) (fun m g w'=>∃ k:Nat,k<=ks.length/\m=ks.length-k/\g 51= .int .i64 k/\Bel w w'/\Bel wT w'/\Blk w' b3 32 #[.slice AT l.length ct,.slice AF fs.length cf,.slice (some ⟨rb,ro,none⟩) rs.length cr,.slice AX xs.length cx,.slice AS st.length bv]/\Blk w' b6 30 #[.slice none 0 0]/\Blk w' b8 36 #[.int .i64 0,.int .i64 0]/\Blk w' b10 74 #[.slice (some ⟨bu,0,none⟩) l.length l.length,.slice (some ⟨bd,0,none⟩) l.length l.length]/\qQ (wiN l fs ks) 0 ks.length=qQ (wiN l fs ks) k (ks.length-k)/\∀ i (hi:i<ks.length),i<k->(xk l fs ks[i]).1=0) (ks.length) ?_ (fun m g10 w17 hI=>?_)
 ·exact⟨0,ag _,rfl,rfl,hB.u,ab.u,a5.u,a1.u,a2.u,a3,rfl,fun i hi h=>by omega⟩
 obtain⟨k,hk,hm,h51,hB,ab,a5,a1,a2,a3,hR,hz⟩:=hI;refine zX 51 _ h51 nu (zn6 ?_);refine zQ rfl (fun c52=>?_) (fun c52=>?_)
 ·have bh:k<ks.length:=by omega
  obtain⟨gb,go,GA,gc,rfl,hgr,hgn⟩:=hK.at_ hB bh;refine zn7 ?_;refine wl (x9 (i:=k) U33 zY rfl rfl bh rfl) (wl (qw U30 rfl rfl hgr zY) ?_);refine qW (cs:=#[.slice none 0 0]) yz rfl (fun b12 w18 be b1 hr=>?_);have:=a5.ob hr;have:=a1.ob hr;have:=a2.ob hr;have:=a3.ob hr;have bg:=hB.ob hr;have a4:=ab.ob hr;refine waI rfl ?_;refine zZ be rfl rfl zY rfl qz (fun w19 hq ao=>?_);replace be:=hq;refine zn5 ?_;refine wl (qw U25 rfl rfl (a5.u.sub (n:=2) (xs:=[_,_]) rfl) RX) (zn2 ?_);refine ba kR (J5 AT AF GA ct cf gc bu bd l fs (ks[k]) _ (c2.mono ab.u) hS.le (hF.mono hB.u) (hgn.mono hB.u) hfo) rfl (fun w20 an=>?_);refine yx (cs:=#[.int .i64 0,.int .i64 0]) x6 rfl (fun _=>rfl) (fun _=>rfl) zj rfl qz (fun b13 w22 hb13 ac hr=>?_);have:=a5.u.ob hr;have:=a1.u.ob hr;have:=a2.u.ob hr;have:=a3.u.ob hr;have:=be.u.ob hr;have lo13:=hB.u.ob hr;have b4:=ab.u.ob hr;refine zn9 ?_;refine zQ rfl (fun bw=>?_) (fun bw=>?_)
  ·have bi:QZ l fs rs xs st (rn:Int) ks=((xk l fs ks[k]).1,(k:Int)):=cmb_w bc bf (by rw[bo];exact c1) (hR.trans (x7 oG (DV bh) bw));refine zn2 ?_;refine wl (gQ (vs:=#[]) (cs:=#[.slice none 0 0]) (by simp) kR) (zn3 ?_);refine ba Sw (kQ _ _ _) rfl (fun w23 s22=>?_);refine zZ a1.u rfl rfl zY rfl qz (fun w24 hq s23=>?_);replace a1:=hq;refine waB rfl ?_;refine zZ a2.u rfl rfl zj rfl qz (fun w25 hq s24=>?_);replace a2:=hq;refine zn8 ?_;refine Sy (.inl rfl) rfl (zW U30 rfl rfl a1.u.range0 zY) rfl (zW U36 rfl rfl a2.range0 zj) ?_;replace hB:=((((hB.tr0 b1).tr1 ao bg).tr0 (an.t (ac.t s22))).tr1 s23 bn).tr1 s24 bm;exact⟨⟨none,[],false,0,by rw[bi];rfl,fun w2 _=>ZX w2 none,.inl ⟨by rw[bi];exact bw,rfl,rfl⟩⟩,hB⟩
  have hwz:=ak.1 bw;refine zn7 ?_;refine x8 (ks.length-(k+1)) oG agA ?_;replace hB:=((hB.tr0 b1).tr1 ao bg).tr0 (an.t ac);replace a5:=((a5.tr0 b1).tr1 ao oG).tr0 (an.t ac);replace a1:=((a1.tr0 b1).tr1 ao oG).tr0 (an.t ac);replace a2:=((a2.tr0 b1).tr1 ao oG).tr0 (an.t ac);replace ab:=((ab.tr0 b1).tr1 ao a4).tr0 (an.t ac);replace a3:=((a3.tr0 b1).tr1 ao oG).tr0 (an.t ac);refine⟨k+1,by omega,rfl,rfl,hB,ab,a5,a1,a2,a3,hR.trans (vQ bh (by rw[DV bh];exact hwz)),fun i hi h=>?_⟩;by_cases e:i=k
  · subst e;exact hwz
  · exact hz i hi oG
 have hke:k=ks.length:=by omega
 have bi:QZ l fs rs xs st (rn:Int) ks=(0,0):=cmb_w bc bf (by rw[bo];exact c1) (hR.trans (jz oG));have hkv:∀ q∈ks,GV l fs q:=fun q hq=>by
   obtain⟨i,hi,rfl⟩:=aW hq;exact(J0 h0 (hz i hi oG)).1
 refine jq ?_;have z6:=a1.lt;have z8:=a2.lt;have c0:=Bel.size hB;refine qq kR (join_any AT AF (some ⟨rb,ro,none⟩) AX AS ct cf cr cx bv l fs rs xs st (bu:=bu) (bd:=bd) (ri:=rn) _ (bj.mono hB) (c2.mono ab) (br.mono hB) a9 hjk (hK.mono hB) hkv c1) rfl (fun e' w26 hr=>?_);obtain⟨⟨AJ,YJ,okJ,cJ,rfl,hNJ,hJR⟩,bz⟩:=hr;replace bz:=sB bz;have bt:=Q7 hNJ;refine⟨_,rfl,?_⟩;refine wmT rfl (wl (vY (v:=_) rfl rfl) (wl (vY (v:=_) rfl rfl) ?_));refine yx (cs:=#[.slice none 0 0]) yz rfl (fun _=>rfl) (fun _=>rfl) zY rfl qz (fun b14 w28 hb14 s26 hr=>?_);have:=a5.u.ob hr;have:=a1.u.ob hr;have:=a2.u.ob hr;have:=a3.u.ob hr;have b2:=(nLT bt.1 hr)
 have lo14:=hB.u.ob hr;refine zn7 ?_;refine wl (gQ (vs:=#[]) (cs:=#[.int .i64 0,.int .i64 0]) (by simp) kR) ?_;refine zZ a1.u rfl rfl zY rfl qz (fun w29 hq s27=>?_);replace a1:=hq;refine waB rfl ?_;refine zZ a2.u rfl rfl zj rfl qz (fun w30 hq s28=>?_);replace a2:=hq;refine zn3 ?_;refine Sy (.inl rfl) rfl (zW U30 rfl rfl a1.u.range0 zY) rfl (zW U36 rfl rfl a2.range0 zj) ?_;replace hB:=((hB.tr0 (bz.t s26)).tr1 s27 bn).tr1 s28 bm;replace bt:=((bt.tr0 s26).tr1 s27 oG).tr1 s28 oG;exact⟨⟨AJ,YJ,okJ,cJ,by rw[bi];rfl,V4 bt c0,.inr ⟨bi,by rw[grR_at a9];exact hJR⟩⟩,hB⟩
end
theorem in80_DGo:(prog.info? 80).map (fun i=>(i.zero,i.size,i.bytes))=some (some (.agg #[.int .i64 0,.slice none 0 0]),2,32):=by kernel_rfl
theorem in83_DGo:(prog.info? 83).map (fun i=>(i.zero,i.size,i.bytes))=some (some (.agg #[.int .i64 0,.int .i64 0]),2,16):=by kernel_rfl
theorem sz28_DGo:(prog.info? 28).map (·.size)=some 1:=by kernel_rfl
theorem qJ:(prog.info? 3).map (·.size)=some 1:=by kernel_rfl
theorem C7:(prog.info? 30).map (·.size)=some 1:=by kernel_rfl
theorem yQ:(prog.info? 59).map (·.size)=some 1:=by kernel_rfl
theorem Hk:(prog.info? 78).map (·.size)=some 1:=by kernel_rfl
theorem Hj:(prog.info? 80).map (·.size)=some 2:=by kernel_rfl
theorem sz83_DGo:(prog.info? 83).map (·.size)=some 2:=by kernel_rfl
theorem WY:(prog.info? 30).map (·.zero)=some (some (.agg #[.slice none 0 0])):=by kernel_rfl
theorem WJ:(prog.info? 80).map (·.zero)=some (some (.agg #[.int .i64 0,.slice none 0 0])):=by kernel_rfl
theorem ze83_DGo:(prog.info? 83).map (·.zero)=some (some (.agg #[.int .i64 0,.int .i64 0])):=by kernel_rfl
set_option maxHeartbeats 2000000 in
theorem ZJ(A:Option Addr)(c:Nat)(rs:List (List Int))(w:World)(hR:RowsIn w A rs):Calls prog 14 #[.slice A rs.length c] w fun e w'=>(∃ A' cap,e= .returned (.agg #[.slice A' rs.length cap])/\Fz [] w'.heap.size TS w' (fun w=>NodesIn w A' (rs.map K5)))/\Bel w w':=by
 have hrl:=hR.1;have hrr:=hR.2.1;refine enT func14 ntmps14 rfl rfl fun hB=>?_;refine zn2 ?_;refine qW (cs:=#[.slice none 0 0]) WY rfl (fun b2 w1 a3 s1 hr=>?_);have lo2:=hB.ob hr;refine zn4 ?_;refine qW (cs:=#[.slice none 0 0]) WY rfl (fun b3 w2 a4 s2 hr=>?_);have:=a3.ob hr;have lo3:=hB.u.ob hr;refine jq ?_;refine qx (rg [5,6,7] 10 37) (fun m g w'=>∃(k:Nat) (A3:Option Addr) (b7:Nat) (bm:List Value) (n3:Nat),k<=rs.length/\m=rs.length-k/\g 10= .int .i64 k/\Bel w w'/\Blk w' b2 30 #[.slice none 0 0]/\Blk w' b3 30 #[.slice A3 k b7]/\Own w' (b3+1) 80 2 A3 k b7 bm/\Fz [] n3 TS1 w' (fun w=>NdData w ((rs.take k).map K5) bm)) (rs.length) ?_ (fun m g3 w3 hI=>?_)
 ·exact⟨0,none,0,[],_,ag _,rfl,rfl,hB.u,a3.u,a4,Own.nil _ _ _ _,Fz.triv [] _ TS1 (fun _=>NdData.nil)⟩
 obtain⟨k,A3,b7,bm,n3,hk,hm,h10,hB,a3,a4,a2,a5⟩:=hI;refine zX 10 _ h10 nu (zn6 ?_);refine zQ rfl (fun c11=>?_) (fun c11=>?_)
 ·have ab:k<rs.length:=by omega
  have br:=hrr _ (am ab);obtain⟨rb,ro,Ar,cr,rfl,hrc,hri⟩:=hR.at_ hB ab;refine zn7 ?_;refine wl (qy (v:= .slice _ _ _) U59 rfl rfl hrc) (zn4 ?_);obtain⟨pb,po,rfl,bt,c0⟩:=hri.2 (by intro h;rw[h]at br;simp at br);have hc0:=hB.cell bt (c0 0 br.1);obtain⟨z0,hz0⟩:∃ z,z=(rs[k]'ab)[0]'br.1:=⟨_,rfl⟩
  rw[<- hz0]at hc0;refine zn2 ?_;refine wl (x9 (i:=0) U59 qJ rfl rfl oG rfl) (wl (qy (v:= .int _ _) U3 rfl rfl hc0) (wl (YQ (v0:= .int _ _) (fun v0=>#[v0,.slice none 0 0]) rfl kR) ?_));refine yx (cs:=#[.int .i64 0,.slice none 0 0]) WJ rfl (fun _=>rfl) (fun _=>rfl) Hj rfl qz (fun b6 w5 b4 s3 hr=>?_);have:=a3.ob hr;have:=a4.ob hr;have a1:=a2.ob hr;have bk:=nLT a5.le hr;have lo6:=hB.ob hr;refine zn9 ?_;replace a2:=a2.tr0 s3;replace a5:=a5.tr0 s3;refine qx (rg [7] 18 22) (fun m g w'=>∃(i j:Nat) (A6:Option Addr) (b8:Nat) (b9:List (Int×Int)),1<=i/\j<=i/\i<=(rs[k]'ab).length+1/\m=(rs[k]'ab).length+2-i/\g 7= .int .i64 i/\V7 ((rs[k]'ab).drop 1)=b9++V7 ((rs[k]'ab).drop i)/\Bel w w'/\Blk w' b2 30 #[.slice none 0 0]/\Blk w' b3 30 #[.slice A3 k b7]/\Own w' (b3+1) 80 2 A3 k b7 bm/\Blk w' b6 80 #[.int .i64 z0,.slice A6 j b8]/\Own w' (b6+1) 83 2 A6 j b8 (lnC b9)/\Fz [] n3 TS1 w' (fun w=>NdData w ((rs.take k).map K5) bm)) ((rs[k]'ab).length+1) ?_ (fun m g7 w6 hI=>?_)
  ·exact⟨1,0,none,0,[],ah _,ag _,by omega,rfl,rfl,rfl,hB.u,a3.u,a4.u,a2,b4,Own.nil _ _ _ _,a5⟩
  obtain⟨i,j,A6,b8,b9,hi1,hji,hil,hm7,h7,hpr,hB,a3,a4,a2,b4,a9,a5⟩:=hI;refine zX 7 _ h7 nu (zn4 ?_);refine wl (Z4 (c:=((i+1:Nat):Int)) rfl rfl rfl oG) (zn5 ?_);refine zQ rfl (fun c22=>?_) (fun c22=>?_)
  ·have hi0:i<(rs[k]'ab).length:=by omega
   have c1:i+1<(rs[k]'ab).length:=by omega
   have bw:=hB.cell bt (c0 i hi0);have bv:=hB.cell bt (c0 (i+1) c1);obtain⟨za,hza⟩:∃ z,z=(rs[k]'ab)[i]'hi0:=⟨_,rfl⟩
   obtain⟨zb,hzb⟩:∃ z,z=(rs[k]'ab)[i+1]'c1:=⟨_,rfl⟩
   rw[<- hza]at bw;rw[<- hzb]at bv;have bz:V7 ((rs[k]'ab).drop 1)=(b9++[(za,zb)])++V7 ((rs[k]'ab).drop (i+2)):=by rw[hpr,pairs_step c1,<- hza,<- hzb,List.append_assoc];rfl
   refine zn4 ?_;have z2:=a3.lt;have z3:=a4.lt;have z6:=b4.lt;have zo3:=fun g hg=>(a2.lt g hg).2
   have zo6:=fun g hg=>(a9.lt g hg).2
   have hsz:=Bel.size hB;replace bw:=fun(w1:World) (h:Bel w6 w1)=>h.cell (nLL bt hsz) bw
   replace bv:=fun(w1:World) (h:Bel w6 w1)=>h.cell (nLL bt hsz) bv
   refine oW 13 (rg [] 25 13) (fun ix=>Nat.beq ix 12) (fun ix v wv=>match ix with|0=>v= .pointer (some ⟨b6,1,none⟩)|1=>v= .slice A6 j b8|2=>v= .slice (some ⟨pb,po,none⟩) (rs[k]'ab).length cr|3=>v= .int .i64 i|4=>v= .pointer (some ⟨pb,po+i*1,none⟩)|5=>v= .int .i64 za|6=>v= .slice (some ⟨pb,po,none⟩) (rs[k]'ab).length cr|7=>v= .int .i64 i|8=>v= .int .i64 ((i+1:Nat):Int)|9=>v= .pointer (some ⟨pb,po+(i+1)*1,none⟩)|10=>v= .int .i64 zb|11=>v= .agg #[.int .i64 za,.int .i64 zb]|12=>∃ b,v= .slice (some ⟨b,0,none⟩) 1 1/\w6.heap.size<=b/\Blk wv b 83 #[.int .i64 za,.int .i64 zb]|_=>True) kR kR ?_ ?_ ?_
   ·intro ix v wv wv2 h s4
    match ix,h with
    | 0,h=>exact h
    | 1,h=>exact h
    | 2,h=>exact h
    | 3,h=>exact h
    | 4,h=>exact h
    | 5,h=>exact h
    | 6,h=>exact h
    | 7,h=>exact h
    | 8,h=>exact h
    | 9,h=>exact h
    | 10,h=>exact h
    | 11,h=>exact h
    | 12,h=>
     obtain⟨c7,c6,bq,b5⟩:=h;exact⟨c7,c6,bq,b5.tr0 s4⟩
    | _+13,h=>exact trivial
   ·intro ix o hix hoq gg wx s5 hd c2
    match ix,hix,hoq with
    | 0,_,hoq=>
     cases sI hoq;exact oVq (u6 U80 Hk dE rfl rfl rfl) rfl
    | 1,_,hoq=>
     cases sI hoq;refine a7 25 (hd 0 a8) ?_;exact oVq (qy (v:= .slice _ _ _) U78 rfl rfl (b4.u.cell rfl)) rfl
    | 2,_,hoq=>
     cases sI hoq;exact oVq (xz (v:= .slice _ _ _) rfl) rfl
    | 3,_,hoq=>
     cases sI hoq;exact oVq (xz (v:= .int _ _) rfl) rfl
    | 4,_,hoq=>
     cases sI hoq;refine a7 27 (hd 2 a8) (a7 28 (hd 3 a8) ?_);exact oVq (x9 (i:=i) U59 qJ rfl rfl oG rfl) rfl
    | 5,_,hoq=>
     cases sI hoq;have bg:=s5;refine a7 29 (hd 4 a8) ?_;exact oVq (qy (v:= .int _ _) U3 rfl rfl (bw _ bg.bel)) rfl
    | 6,_,hoq=>
     cases sI hoq;exact oVq (xz (v:= .slice _ _ _) rfl) rfl
    | 7,_,hoq=>
     cases sI hoq;exact oVq (xz (v:= .int _ _) rfl) rfl
    | 8,_,hoq=>
     cases sI hoq;refine a7 32 (hd 7 a8) ?_;exact oVq (Z4 (c:=((i+1:Nat):Int)) rfl rfl rfl oG) rfl
    | 9,_,hoq=>
     cases sI hoq;refine a7 31 (hd 6 a8) (a7 33 (hd 8 a8) ?_);exact oVq (x9 (i:=i+1) U59 qJ rfl rfl oG rfl) rfl
    | 10,_,hoq=>
     cases sI hoq;have bg:=s5;refine a7 34 (hd 9 a8) ?_;exact oVq (qy (v:= .int _ _) U3 rfl rfl (bv _ bg.bel)) rfl
    | 11,_,hoq=>
     cases sI hoq;refine a7 30 (hd 5 a8) (a7 35 (hd 10 a8) ?_);exact oVq (vw (v0:= .int _ _) (v1:= .int _ _) (fun v0 v1=>#[v0,v1]) rfl rfl kR) rfl
    | 12,_,hoq=>
     cases sI hoq;have bg:=s5;refine a7 36 (hd 11 a8) ?_;refine jK (fun ops Q K=>?_);refine qV (cs:=#[_,_]) [(0,.agg _)] rfl U78 sz83_DGo ze83_DGo dE dE kR rfl (fun c7 w7 b5 s6 hr=>?_);exact K _ _ ⟨s6,⟨_,rfl,nLT bg.size hr,b5⟩,fRq hr b5.lt⟩
    | _+13,hix,_=>exact absurd hix oG
   intro gg w8 s7 hR c2;have bg:=s7;obtain⟨c7,c6,bq,b5⟩:=hR 12 dE;have hsm:_<=w8.heap.size:=bg.size;refine xj 26 _ (hR 1 dE) nu (xj 37 _ c6 nu ?_);replace a9:=a9.tr0 s7;refine j7 U78 in83_DGo rfl dE a9 b5 rfl rfl rfl qz dE oG oG (nLT z6 hsm) (fun c5 cap38 w9 bi s8 hg=>?_);have bf:c5≠b2:=neA a9 a3.u.lt hg
   have be:c5≠b3:=neA a9 a4.u.lt hg
   have b1:c5≠b6:=neA a9 b4.u.lt hg
   replace hB:=hB.u.tr s8 (fun g hg=>nLT (aJ lo6) (a9.lt g hg).1);replace a3:=a3.tr0 s7;replace a3:=a3.ta s8 a9;replace a4:=a4.tr0 s7;replace a4:=a4.ta s8 a9;replace a2:=a2.tr0 s7;replace a2:=a2.tr s8 (fun g hg hx=>by have:=(a9.lt _ hx).1;have:=(a2.lt _ hg).1;(try have:=or_ho3_b2 _ hg);(try have:=or_ho6_b2 _ hx);(try have:=or_ho3_b3 _ hg);(try have:=or_ho6_b3 _ hx);(try have:=a1 _ hg);(try have:=or_ho6_b6 _ hx);(try have:=or_ho3_b37 _ hg);(try have:=or_ho6_b37 _ hx);omega);replace a5:=a5.tr0 s7;replace a5:=a5.trX s8 (fun g hg=> .inl (by have:=(a9.lt g hg).1;omega));replace b4:=b4.tr0 s7;replace b4:=b4.ta s8 a9;refine zn1 ?_;refine xQ (v:= .slice _ _ _) b4 rfl rfl Hk (by first|decide|simp) rfl rfl (fun w10 hq s9=>?_);replace a2:=a2.tr1 s9 (fun g hg=>by have:=a1 g hg;omega);replace a5:=a5.sp1 s9 b4 (.inl dE);replace bi:=bi.tr1 s9 (neS b1);replace b4:=hq;refine zn5 ?_;refine wl (Z4 (c:=((i+2:Nat):Int)) rfl rfl rfl oG) (zn2 ?_);refine x8 ((rs[k]'ab).length+2-(i+2)) oG agA ?_;replace hB:=hB.tr1 s9 lo6;replace a3:=a3.tr1 s9 oG;replace a4:=a4.tr1 s9 oG;exact⟨i+2,j+1,_,_,b9++[(za,zb)],by omega,by omega,by omega,rfl,rfl,bz,hB,a3,a4,a2,b4,by rw[<- lnC_snoc];exact bi,a5⟩
  have hls:V7 ((rs[k]'ab).drop 1)=b9:=by rw[hpr,pairs_end oG,List.append_nil]
  have bx:K5 (rs[k]'ab)=⟨z0,b9⟩:=by
    unfold K5;rw[hls,hz0];simp[List.getD,br.1]
  have htk:(rs.take (k+1)).map K5=(rs.take k).map K5++[⟨z0,b9⟩]:=by rw[ZZ rs ab,List.map_append,List.map_cons,List.map_nil,bx]
  refine zn9 ?_;refine qV (cs:=#[_,_]) [(0,.agg _)] rfl U28 Hj WJ dE dE kR rfl (fun b43 w11 c3 bo hr=>?_);have:=a3.ob hr;have:=a4.ob hr;have an:=a2.ob hr;have bb:=nLT a5.le hr;have:=b4.ob hr;have ac:=a9.ob hr;have lo43:=hB.ob hr;replace a2:=a2.tr0 bo;refine j7 U28 in80_DGo rfl dE a2 c3 rfl rfl rfl qz dE oG oG a4.u.lt (fun c4 cap44 w12 bh bn hg=>?_);have bd:c4≠b2:=neA a2 a3.u.lt hg
  have ao:c4≠b3:=neA a2 a4.u.lt hg
  have bc:c4≠b6:=neB b4.u.lt hg (fun g hg=>by have:=a1 g hg;omega)
  replace hB:=hB.u.tr bn (fun g hg=>nLT (aJ lo3) (a2.lt g hg).1);replace a3:=a3.tr0 bo;replace a3:=a3.ta bn a2;replace a4:=a4.tr0 bo;replace a4:=a4.ta bn a2;replace a5:=a5.tr0 bo;replace a5:=a5.trX bn (fun g hg=>by obtain⟨cs,h⟩:=YX a2 g hg;exact .inr (.inr ⟨_,_,h,.inl dE⟩));replace a9:=a9.tr0 bo;replace a9:=a9.tr bn (fun g hg hx=>by have:=(a2.lt _ hx).1;have:=(a9.lt _ hg).1;(try have:=or_ho6_b2 _ hg);(try have:=or_ho3_b2 _ hx);(try have:=or_ho6_b3 _ hg);(try have:=or_ho3_b3 _ hx);(try have:=or_ho6_b6 _ hg);(try have:=a1 _ hx);(try have:=ac _ hg);(try have:=an _ hx);omega);have bj:=gof_more (z:=z0) a9 a5;refine zn1 ?_;refine xQ (v:= .slice _ _ _) a4 rfl rfl sz28_DGo (by first|decide|simp) rfl rfl (fun w13 hq bu=>?_);replace bh:=bh.tr1 bu (neS ao);replace bj:=bj.sp1 bu a4 (.inl dE);replace a4:=hq;refine zn7 ?_;refine x8 (rs.length-(k+1)) oG agA ?_;replace hB:=hB.tr1 bu lo3;replace a3:=a3.tr1 bu oG;exact⟨k+1,_,_,_,_,by omega,rfl,rfl,hB,a3,a4,bh,by rw[htk];exact bj⟩
 have hkl:k=rs.length:=by omega
 subst hkl;rw[List.take_length]at a5;refine zn8 ?_;refine zZ a3 rfl rfl C7 rfl qz (fun w14 hq s13=>?_);replace a2:=a2.tq s13;replace a5:=a5.sp1 s13 a3 (.inl dE);replace a3:=hq;refine zn3 ?_;refine xK (.inl rfl) rfl (zW U30 rfl rfl a3.range0 C7) ?_;exact⟨⟨_,_,rfl,gof_end a2 a5⟩,hB.u⟩
theorem in46:(prog.info? 46).map (fun i=>(i.zero,i.size,i.bytes))=some (some (.agg cF),9,144):=by kernel_rfl
theorem Hy:(prog.info? 27).map (·.size)=some 1:=by kernel_rfl
theorem uy:(prog.info? 44).map (·.size)=some 6:=by kernel_rfl
theorem sz46_DAd:(prog.info? 46).map (·.size)=some 9:=by kernel_rfl
theorem ze46_DAd:(prog.info? 46).map (·.zero)=some (some (.agg cF)):=by kernel_rfl
set_option maxHeartbeats 1000000 in
theorem Z8(s:ByteArray)(z:Int)(x:Tv)(SA BA R A:Option Addr)(cs cb:Nat)(rs:List (List Int))(c bG base k cap nT nL:Nat)(c0 c1 c2 c4:Value)(xs:List Value)(lx:List Lx)(w:World)(hs9:s.size<9223372036854775807)(hR:RowsIn w R rs)(hT:Fz [] nT TS w (fun w=>SimsIn w SA x.tm.type.args/\TmsIn w BA x.tm.args))(a3:Blk w bG 32 #[c0,c1,c2,.slice A k cap,c4])(ho:Own w base 46 9 A k cap xs)(hL:Fz [] nL TS w (fun w=>LxData w lx xs))(b1:base<=w.heap.size)(hbl:bG<base)(hk:k<=1000):Calls prog 15 #[.string s,.int .i64 z,.agg #[.int .i64 (x).tm.kind,.string (x).tm.name,.int .i64 (x).tm.index,.string (x).tm.type.base,.slice SA (x).tm.type.args.length cs,.slice BA (x).tm.args.length cb],.slice R rs.length c,.pointer (some ⟨bG,0,none⟩)] w (fun e w'=>e= .returned (.tuple #[])/\∃ A' cap' xs',Blk w' bG 32 #[c0,c1,c2,.slice A' (k+1) cap',c4]/\Own w' base 46 9 A' (k+1) cap' xs'/\Fz [] w'.heap.size TS w' (fun w=>LxData w (lx++[⟨s,rs.map K5,z,x.tm⟩]) xs')/\Same (bG::aL A) w w'/\(aL A'=aL A\/∀ g∈aL A',w.heap.size<=g)):=by
 refine enT func15 ntmps15 rfl rfl fun hB=>?_;refine zn2 ?_;refine xy (v:= .agg #[_,_,_,_,_,_]) (cs:=#[_,_,_,_,_,_]) rfl rfl (fun b7 w1 hb7 s1 hr=>?_);have a5:=ho.ob hr;refine zJ (e_S ?_);replace a3:=a3.tr0 s1;have zG:=a3.lt;replace ho:=ho.tr0 s1;have zo:=fun g hg=>(ho.lt g hg).2
 replace hB:=hB.tr0 s1;have hsz:=Bel.size hB;have hrs:=hR.1;refine oW 9 (rg [] 9 9) (fun ix=>Nat.beq ix 8) (fun ix v wv=>match ix with|0=>v= .pointer (some ⟨bG,3,none⟩)|1=>v= .slice A k cap|2=>v= .string s|3=>v= .int .i64 z|4=>v= .agg #[.int .i64 (x).tm.kind,.string (x).tm.name,.int .i64 (x).tm.index,.string (x).tm.type.base,.slice SA (x).tm.type.args.length cs,.slice BA (x).tm.args.length cb]|5=>v= .slice R rs.length c|6=>∃ G g n,v= .agg #[.slice G rs.length g]/\Fz [] n TS wv (fun w=>NodesIn w G (rs.map K5))|7=>∃ G g n,v= .agg #[.string s,.slice G rs.length g,.int .i64 z,.int .i64 (x).tm.kind,.string (x).tm.name,.int .i64 (x).tm.index,.string (x).tm.type.base,.slice SA (x).tm.type.args.length cs,.slice BA (x).tm.args.length cb]/\Fz [] n TS wv (fun w=>NodesIn w G (rs.map K5))|8=>∃ b G g n,v= .slice (some ⟨b,0,none⟩) 1 1/\w1.heap.size<=b/\Blk wv b 46 #[.string s,.slice G rs.length g,.int .i64 z,.int .i64 (x).tm.kind,.string (x).tm.name,.int .i64 (x).tm.index,.string (x).tm.type.base,.slice SA (x).tm.type.args.length cs,.slice BA (x).tm.args.length cb]/\Fz [] n TS wv (fun w=>NodesIn w G (rs.map K5))|_=>True) kR kR ?_ ?_ ?_
 ·intro ix v wv wv2 h s2
  match ix,h with
  | 0,h=>exact h
  | 1,h=>exact h
  | 2,h=>exact h
  | 3,h=>exact h
  | 4,h=>exact h
  | 5,h=>exact h
  | 6,h=>
   obtain⟨bf,b8,b3,bc,ac⟩:=h;exact⟨bf,b8,b3,bc,ac.tr0 s2⟩
  | 7,h=>
   obtain⟨be,b6,b2,bb,ab⟩:=h;exact⟨be,b6,b2,bb,ab.tr0 s2⟩
  | 8,h=>
   obtain⟨bd,G17,g17,n17,b9,ao,a4,a2⟩:=h;exact⟨bd,G17,g17,n17,b9,ao,a4.tr0 s2,a2.tr0 s2⟩
  | _+9,h=>exact trivial
 ·intro ix o hix hoq gg wx s3 hd b5
  match ix,hix,hoq with
  | 0,_,hoq=>
   cases sI hoq;exact oVq (u6 U32 Hy dE rfl rfl rfl) rfl
  | 1,_,hoq=>
   cases sI hoq;refine a7 9 (hd 0 a8) ?_;exact oVq (qy (v:= .slice _ _ _) U27 rfl rfl (a3.u.cell rfl)) rfl
  | 2,_,hoq=>
   cases sI hoq;exact oVq (xz (v:= .string _) rfl) rfl
  | 3,_,hoq=>
   cases sI hoq;exact oVq (xz (v:= .int _ _) rfl) rfl
  | 4,_,hoq=>
   cases sI hoq;exact oVq (qw U44 rfl rfl hb7.u.range0 uy) rfl
  | 5,_,hoq=>
   cases sI hoq;exact oVq (xz (v:= .slice _ _ _) rfl) rfl
  | 6,_,hoq=>
   cases sI hoq;refine a7 14 (hd 5 a8) ?_;refine vZ kR (ZJ _ _ _ wx (hR.mono hB.u)) rfl (fun e' w2 hr=>?_);obtain⟨⟨G9,g9,rfl,hz9⟩,s4⟩:=hr;exact⟨_,rfl,sB s4,⟨G9,g9,_,rfl,hz9⟩,y8⟩
  | 7,_,hoq=>
   cases sI hoq;obtain⟨bf,b8,b3,bc,ac⟩:=hd 6 (zk kR);refine a7 11 (hd 2 a8) (a7 12 (hd 3 a8) (a7 13 (hd 4 a8) (zq 15 _ bc nu ?_)));exact oVq (r_bd4 (v0:= .string _) (v1:= .int _ _) (v2:= .agg _) (v3:= .agg _) (fun v0 v1 v2 v3=>#[v0,(x5 v3 0),v1,(x5 v2 0),(x5 v2 1),(x5 v2 2),(x5 v2 3),(x5 v2 4),(x5 v2 5)]) rfl rfl rfl rfl kR) ⟨bf,b8,b3,rfl,ac⟩
  | 8,_,hoq=>
   cases sI hoq;have hs0:=s3;obtain⟨be,b6,b2,bb,ab⟩:=hd 7 (zk kR);refine zq 16 _ bb nu ?_;refine jK (fun ops Q K=>?_);refine qV (cs:=#[_,_,_,_,_,_,_,_,_]) [(0,.agg _)] rfl U27 sz46_DAd ze46_DAd dE dE kR rfl (fun bd w2 a4 s5 hr=>?_);exact K _ _ ⟨s5,⟨_,be,b6,b2,rfl,nLT hs0.size hr,a4,ab.tr0 s5⟩,fRq hr a4.lt⟩
  | _+9,hix,_=>exact absurd hix oG
 intro gg w3 s6 hR b5;obtain⟨bd,G17,g17,n17,b9,ao,a4,a2⟩:=hR 8 dE;have hbs:base<=w3.heap.size:=nLT b1 (Bel.size hB.u);replace hB:=hB.tr0 s6;have hS0:=(sB hB).weak (Y:=bG::aL A) (by simp);have b4:=Bel.size hB;refine xj 10 _ (hR 1 dE) nu (xj 17 _ b9 nu ?_);replace ho:=ho.tr0 s6;refine j7 U27 in46 rfl dE ho a4 rfl rfl rfl qz dE oG oG hbs (fun g18 cap18 w4 an s7 hg=>?_);have a1:g18≠bG:=neA ho a3.u.lt hg
 have a9:g18≠b7:=neB hb7.u.lt hg (fun g hg=>by have:=a5 g hg;omega)
 replace a3:=a3.tr0 s6;replace a3:=a3.ta s7 ho;replace hT:=hT.tr0 (s1.t s6);replace hT:=hT.trX s7 (fun g hg=>by obtain⟨cs,h⟩:=YX ho g hg;exact .inr (.inr ⟨_,_,h,.inl dE⟩));replace hL:=hL.tr0 (s1.t s6);replace hL:=hL.trX s7 (fun g hg=>by obtain⟨cs,h⟩:=YX ho g hg;exact .inr (.inr ⟨_,_,h,.inl dE⟩));replace a2:=a2.trX s7 (fun g hg=>by obtain⟨cs,h⟩:=YX ho g hg;exact .inr (.inr ⟨_,_,h,.inl dE⟩));have hS:=hS0.trans (s7.weak (fun x hx=>ar _ hx));refine zn1 ?_;refine xQ (v:= .slice _ _ _) a3 rfl rfl Hy (by first|decide|simp) rfl rfl (fun w5 hq s8=>?_);replace hT:=hT.sp1 s8 a3 (.inl dE);replace hL:=hL.sp1 s8 a3 (.inl dE);replace a2:=a2.sp1 s8 a3 (.inl dE);replace an:=an.tr1 s8 (neS a1);replace hS:=hS.trans (s8.weak (by simp));replace a3:=hq;refine zJ (fin0 (.inr rfl) rfl  ?_);refine⟨rfl,_,_,_,a3,an,(hL.and (hT.and a2)).imp (fun _ h=>LxData.snoc (x:=⟨s,rs.map K5,z,x.tm⟩) h.1 hs9 (List.length_map _).symm h.2.2 h.2.1.1 h.2.1.2),hS,?_⟩;rcases hg with hg|hg
 · left;rw[hg];rfl
 · right;intro g hgm;cases aq.1 hgm;exact nLT b4 hg
theorem in94:(prog.info? 94).map (fun i=>(i.zero,i.size,i.bytes))=some (some (.agg #[.string ⟨#[]⟩,.slice none 0 0]),2,40):=by kernel_rfl
theorem HZ:(prog.info? 22).map (·.size)=some 1:=by kernel_rfl
theorem sz23_DHo:(prog.info? 23).map (·.size)=some 1:=by kernel_rfl
theorem N9:(prog.info? 25).map (·.size)=some 2:=by kernel_rfl
theorem RQ:(prog.info? 3).map (·.size)=some 1:=by kernel_rfl
theorem Hv:(prog.info? 59).map (·.size)=some 1:=by kernel_rfl
theorem sz9_DHo:(prog.info? 9).map (·.size)=some 1:=by kernel_rfl
theorem C6:(prog.info? 94).map (·.size)=some 2:=by kernel_rfl
theorem H1:(prog.info? 25).map (·.zero)=some (some (.agg #[.slice none 0 0,.slice none 0 0])):=by kernel_rfl
theorem qX:(prog.info? 3).map (·.zero)=some (some (.int .i64 0)):=by kernel_rfl
theorem DQ:(prog.info? 94).map (·.zero)=some (some (.agg #[.string ⟨#[]⟩,.slice none 0 0])):=by kernel_rfl
set_option maxHeartbeats 1000000 in
theorem Sz(A B C:Option Addr)(c d mC f:Nat)(ns:List ByteArray)(ps:List Int)(w:World)(hN:StrsD w A ns)(hP:IntsIn w B ps)(hl:ns.length<=1000)(hpl:ps.length=ns.length):Calls prog 12 #[.slice A ns.length c,.slice B ps.length d,.slice C mC f] w fun e w'=>(∃ A' cap,e= .returned (.agg #[.slice A' ns.length cap,.slice C mC f])/\Fz [] w'.heap.size TS w' (fun w=>TypesIn w A' (K3 ns ps ns.length)))/\Bel w w':=by
 refine enT func12 ntmps12 rfl rfl fun hB=>?_;refine zn2 ?_;refine qW (cs:=#[.slice none 0 0,.slice none 0 0]) H1 rfl (fun b6 w1 a5 s1 hr=>?_);have lo6:=hB.ob hr;refine zn4 ?_;refine qW (cs:=#[.slice none 0 0,.slice none 0 0]) H1 rfl (fun b7 w2 a4 s2 hr=>?_);have:=a5.ob hr;have lo7:=hB.u.ob hr;refine jq ?_;refine qx (rg [8,9,10] 13 22) (fun m g w'=>∃(k:Nat) (A7:Option Addr) (b9:Nat) (cs:List Value) (n7:Nat),k<=ns.length/\m=ns.length-k/\g 13= .int .i64 k/\Bel w w'/\Blk w' b6 25 #[.slice none 0 0,.slice none 0 0]/\Blk w' b7 25 #[.slice A7 k b9,.slice none 0 0]/\Own w' (b7+1) 94 2 A7 k b9 cs/\Fz [] n7 TS2 w' (fun w=>TyData w (K3 ns ps k) cs)) (ns.length) ?_ (fun m g3 w3 hI=>?_)
 ·exact⟨0,none,0,[],_,ag _,rfl,rfl,hB.u,a5.u,a4,Own.nil _ _ _ _,Fz.triv [] _ TS2 (fun _=>TyData.nil)⟩
 obtain⟨k,A7,b9,cs,n7,hk,hm,h13,hB,a5,a4,a3,ab⟩:=hI;refine zX 13 _ h13 nu (zn6 ?_);refine zQ rfl (fun c14=>?_) (fun c14=>?_)
 ·have bb:k<ns.length:=by omega
  have bf:k<ps.length:=by omega
  obtain⟨nb,no,rfl,hnc⟩:=hN.at_ hB bb;obtain⟨pb,po,rfl,hpb,hpc⟩:=hP.at_ bf;refine zn8 ?_;refine wl (qy (v:= .string _) U9 rfl rfl hnc) (zn7 ?_);refine wl (YQ (v0:= .string _) (fun v0=>#[v0,.slice none 0 0]) rfl kR) ?_;refine yx (cs:=#[.string ⟨#[]⟩,.slice none 0 0]) DQ rfl (fun _=>rfl) (fun _=>rfl) C6 rfl qz (fun b10 w5 ao s3 hr=>?_);have:=a5.ob hr;have:=a4.ob hr;have a1:=a3.ob hr;have lo10:=hB.ob hr;refine zn9 ?_;replace a3:=a3.tr0 s3;replace ab:=ab.tr0 s3;refine zQ rfl (fun c21=>?_) (fun c21=>?_)
  ·refine zn4 ?_;refine wl (qy (v:= .int _ _) U3 rfl rfl (hB.u.cell hpb hpc)) ?_;refine qV (cs:=#[_]) [(0,.int _ _)] rfl U59 RQ qX dE dE kR rfl (fun b26 w6 an s4 hr=>?_);have:=a4.u.ob hr;have a9:=a3.ob hr;have:=ao.ob hr;refine zn1 ?_;replace ao:=ao.tr0 s4;refine xQ (v:= .slice _ _ _) ao rfl rfl Hv (by first|decide|simp) rfl rfl (fun w7 hq s5=>?_);replace a3:=a3.tr0 s4;replace a3:=a3.tr1 s5 (fun g hg=>by have:=a1 g hg;omega);replace ab:=ab.tr0 s4;replace ab:=ab.sp1 s5 ao (.inl dE);replace ao:=hq;refine zn6 ?_;refine qV (cs:=#[_,_]) [(0,.agg _)] rfl U22 C6 DQ dE dE kR rfl (fun b31 w8 b8 s6 hr=>?_);have:=a5.u.ob hr;have:=a4.u.ob hr;have:=an.u.ob hr;replace a3:=a3.tr0 s6;refine j7 U22 in94 rfl dE a3 b8 rfl rfl rfl qz dE oG oG a4.u.lt (fun b5 bc w9 b3 s7 hg=>?_);have b1:b5≠b6:=neA a3 a5.u.lt hg
   have a2:b5≠b7:=neA a3 a4.u.lt hg
   have ac:b5≠b10:=neB ao.u.lt hg (fun g hg=>by have:=a1 g hg;omega)
   have b4:b5≠b26:=neB an.u.lt hg (fun g hg=>by have:=a9 g hg;omega)
   replace hB:=hB.u.tr s7 (fun g hg=>nLT (aJ lo7) (a3.lt g hg).1);replace a5:=((a5.tr0 (s3.t s4)).tr1 s5 oG).tr0 s6;replace a5:=a5.ta s7 a3;replace a4:=((a4.tr0 (s3.t s4)).tr1 s5 oG).tr0 s6;replace a4:=a4.ta s7 a3;replace ab:=ab.tr0 s6;replace ab:=ab.trX s7 (fun g hg=>by obtain⟨cs,h⟩:=YX a3 g hg;exact .inr (.inr ⟨_,_,h,.inl dE⟩));replace an:=(an.tr1 s5 oG).tr0 s6;replace an:=an.tb s7 (fun g hg=>by have:=a9 g hg;omega);have b2:=(by first|exact hof_pos ab bb bf oG an|exact Gy ab bb oG:Fz [] (w9).heap.size TS2 w9 (fun w=>TyData w (K3 ns ps (k+1)) (cs++_)))
   refine zn1 ?_;refine xQ (v:= .slice _ _ _) a4 rfl rfl HZ (by first|decide|simp) rfl rfl (fun w10 hq s8=>?_);replace b3:=b3.tr1 s8 (neS a2);replace b2:=b2.sp1 s8 a4 (.inl dE);replace a4:=hq;refine zn7 ?_;refine x8 (ns.length-(k+1)) oG agA ?_;exact⟨k+1,_,_,_,_,by omega,rfl,rfl,hB.u,a5.u,a4,b3,b2⟩
  refine zn6 ?_;refine qV (cs:=#[_,_]) [(0,.agg _)] rfl U22 C6 DQ dE dE kR rfl (fun b31 w11 b8 s9 hr=>?_);have:=a5.u.ob hr;have:=a4.u.ob hr;replace a3:=a3.tr0 s9;refine j7 U22 in94 rfl dE a3 b8 rfl rfl rfl qz dE oG oG a4.u.lt (fun b5 bc w12 b3 bd hg=>?_);have b1:b5≠b6:=neA a3 a5.u.lt hg
  have a2:b5≠b7:=neA a3 a4.u.lt hg
  have ac:b5≠b10:=neB ao.u.lt hg (fun g hg=>by have:=a1 g hg;omega)
  replace hB:=hB.u.tr bd (fun g hg=>nLT (aJ lo7) (a3.lt g hg).1);replace a5:=a5.tr0 (s3.t s9);replace a5:=a5.ta bd a3;replace a4:=a4.tr0 (s3.t s9);replace a4:=a4.ta bd a3;replace ab:=ab.tr0 s9;replace ab:=ab.trX bd (fun g hg=>by obtain⟨cs,h⟩:=YX a3 g hg;exact .inr (.inr ⟨_,_,h,.inl dE⟩));have b2:=(by first|exact hof_pos ab bb bf oG an|exact Gy ab bb oG:Fz [] (w12).heap.size TS2 w12 (fun w=>TyData w (K3 ns ps (k+1)) (cs++_)))
  refine zn1 ?_;refine xQ (v:= .slice _ _ _) a4 rfl rfl HZ (by first|decide|simp) rfl rfl (fun w13 hq s11=>?_);replace b3:=b3.tr1 s11 (neS a2);replace b2:=b2.sp1 s11 a4 (.inl dE);replace a4:=hq;refine zn7 ?_;refine x8 (ns.length-(k+1)) oG agA ?_;exact⟨k+1,_,_,_,_,by omega,rfl,rfl,hB.u,a5.u,a4,b3,b2⟩
 have hkl:k=ns.length:=by omega
 subst hkl;refine zn9 ?_;refine xQ (v:= .slice _ _ _) a4 rfl rfl sz23_DHo (by first|decide|simp) rfl rfl (fun w14 hq be=>?_);replace a3:=a3.tq be;replace ab:=ab.sp1 be a4 (.inl dE);replace a4:=hq;refine zn5 ?_;refine zZ a5.u rfl rfl N9 rfl qz (fun w15 hq s13=>?_);replace a3:=a3.tq s13;replace a5:=a5.tr1 be oG;replace ab:=ab.sp1 s13 a5 (.inl dE);replace a5:=hq;refine zn3 ?_;refine xK (.inl rfl) rfl (zW U25 rfl rfl a5.range0 N9) ?_;exact⟨⟨_,_,rfl,hof_end a3 ab⟩,hB.u⟩
theorem xW:(prog.info? 41).map (·.size)=some 2:=by kernel_rfl
theorem jV:(prog.info? 44).map (·.size)=some 6:=by kernel_rfl
theorem jv:(prog.info? 41).map (·.zero)=some (some (.agg #[.string ⟨#[]⟩,.slice none 0 0])):=by kernel_rfl
theorem gY:(prog.info? 44).map (·.zero)=some (some (.agg cD)):=by kernel_rfl
theorem ZK(s:ByteArray)(w:World):Calls prog 10 #[.string s] w fun e w'=>e= .returned (.agg #[.string s,.slice none 0 0])/\Bel w w':=by
 refine enT func10 ntmps10 rfl rfl fun hB=>?_;refine zn2 ?_;refine qW (cs:=#[.string ⟨#[]⟩,.slice none 0 0]) jv rfl (fun b2 w1 a1 s1 hr=>?_);have lo2:=hB.ob hr;refine zn5 ?_;refine wl (YQ (v0:= .string _) (fun v0=>#[v0,.slice none 0 0]) rfl kR) ?_;refine zZ a1 rfl rfl xW rfl qz (fun w2 hq s2=>?_);replace a1:=hq;refine zn3 ?_;refine xK (.inl rfl) rfl (zW U41 rfl rfl a1.range0 xW) ?_;exact⟨rfl,hB.u⟩
theorem Qx(X:List Nat)(a b:Ts)(A1 A2:Option Addr)(c1 c2 n1 n2:Nat)(w:World)(hX:∀ x∈X,x<w.heap.size)(h1:Fz X n1 TS w (fun w=>SimsIn w A1 (a).sm.args))(h2:Fz X n2 TS w (fun w=>SimsIn w A2 (b).sm.args)):Calls prog 11 #[.agg #[.string (a).sm.base,.slice A1 (a).sm.args.length c1],.agg #[.string (b).sm.base,.slice A2 (b).sm.args.length c2]] w fun e w'=>(∃ z,e= .returned z/\SmD X (.f a b) w' z)/\Bel w w':=by
 refine enT func11 ntmps11 rfl rfl fun hB=>?_;refine zn2 ?_;refine xy (v:= .agg #[_,_]) (cs:=#[_,_]) rfl rfl (fun b2 w1 hb2 s1 hr=>?_);refine xy (v:= .agg #[_,_]) (cs:=#[_,_]) rfl rfl (fun b3 w2 hb3 s2 hr=>?_);refine qW (cs:=#[.string ⟨#[]⟩,.slice none 0 0]) jv rfl (fun b4 w3 a1 s3 hr=>?_);have lo4:=hB.u.ob hr;refine zn6 ?_;refine qV (cs:=#[_,_,_,_]) [(0,.agg _),(1,.agg _)] rfl U39 xW jv dE dE kR rfl (fun b7 w4 a2 s4 hr=>?_);have:=a1.ob hr;refine wl (YQ (v0:= .slice _ _ _) (fun v0=>#[.string ⟨#[]⟩,v0]) rfl kR) ?_;refine zZ a1.u rfl rfl xW rfl qz (fun w5 hq s5=>?_);replace a1:=hq;refine zn3 ?_;refine xK (.inl rfl) rfl (zW U41 rfl rfl a1.range0 xW) ?_;replace hB:=(hB.tr0 (s1.t (s2.t (s3.t s4)))).tr1 s5 lo4;replace a2:=a2.tr1 s5 oG;exact⟨⟨_,rfl,SmD.two a2 (fun hm=>by have:=hX _ hm;omega) (h1.bel hB) (h2.bel hB)⟩,hB⟩
theorem Z7(X:List Nat)(nm:ByteArray)(a:Ts)(A1:Option Addr)(c1 n1:Nat)(w:World)(h1:Fz X n1 TS w (fun w=>SimsIn w A1 (a).sm.args)):Calls prog 17 #[.string nm,.agg #[.string (a).sm.base,.slice A1 (a).sm.args.length c1]] w fun e w'=>(∃ z,e= .returned z/\TmD X (.con nm a) w' z)/\Bel w w':=by
 refine enT func17 ntmps17 rfl rfl fun hB=>?_;refine zn2 ?_;refine xy (v:= .agg #[_,_]) (cs:=#[_,_]) rfl rfl (fun b3 w1 hb3 s1 hr=>?_);refine qW (cs:=cD) gY rfl (fun b4 w2 a1 s2 hr=>?_);have lo4:=hB.u.ob hr;refine zn6 ?_;refine wl (E3 (v0:= .int _ _) (v1:= .string _) (v2:= .agg _) (fun v0 v1 v2=>#[v0,v1,.int .i64 0,(x5 v2 0),(x5 v2 1),.slice none 0 0]) rfl rfl rfl kR) ?_;refine zZ a1 rfl rfl jV rfl qz (fun w3 hq s3=>?_);replace a1:=hq;refine zn3 ?_;refine xK (.inl rfl) rfl (zW U44 rfl rfl a1.range0 jV) ?_;exact⟨⟨_,rfl,TmD.con nm (h1.bel hB.u)⟩,hB.u⟩
theorem jw(X:List Nat)(i:Nat)(w:World):Calls prog 20 #[.int .i64 ((i:Nat):Int)] w fun e w'=>(∃ z,e= .returned z/\TmD X (.var i) w' z)/\Bel w w':=by
 refine enT func20 ntmps20 rfl rfl fun hB=>?_;refine zn2 ?_;refine qW (cs:=cD) gY rfl (fun b2 w1 a1 s1 hr=>?_);have lo2:=hB.ob hr;refine zn5 ?_;refine wl (vw (v0:= .int _ _) (v1:= .int _ _) (fun v0 v1=>#[v0,.string ⟨#[]⟩,v1,.string ⟨#[]⟩,.slice none 0 0,.slice none 0 0]) rfl rfl kR) ?_;refine zZ a1 rfl rfl jV rfl qz (fun w2 hq s2=>?_);replace a1:=hq;refine zn3 ?_;refine xK (.inl rfl) rfl (zW U44 rfl rfl a1.range0 jV) ?_;exact⟨⟨_,rfl,TmD.var i⟩,hB.u⟩
theorem gz(X:List Nat)(a:Ts)(x:Tv)(A1 S2 B2:Option Addr)(c1 n1 c2 m2 n2:Nat)(w:World)(hX:∀ x∈X,x<w.heap.size)(h1:Fz X n1 TS w (fun w=>SimsIn w A1 (a).sm.args))(h2:Fz X n2 TS w (fun w=>SimsIn w S2 (x).tm.type.args/\TmsIn w B2 (x).tm.args)):Calls prog 18 #[.agg #[.string (a).sm.base,.slice A1 (a).sm.args.length c1],.agg #[.int .i64 (x).tm.kind,.string (x).tm.name,.int .i64 (x).tm.index,.string (x).tm.type.base,.slice S2 (x).tm.type.args.length c2,.slice B2 (x).tm.args.length m2]] w fun e w'=>(∃ z,e= .returned z/\TmD X (.abs a x) w' z)/\Bel w w':=by
 refine enT func18 ntmps18 rfl rfl fun hB=>?_;refine zn2 ?_;refine xy (v:= .agg #[_,_]) (cs:=#[_,_]) rfl rfl (fun b2 w1 hb2 s1 hr=>?_);refine xy (v:= .agg #[_,_,_,_,_,_]) (cs:=#[_,_,_,_,_,_]) rfl rfl (fun b3 w2 hb3 s2 hr=>?_);refine qW (cs:=cD) gY rfl (fun b4 w3 a1 s3 hr=>?_);have lo4:=hB.u.ob hr;refine zn6 ?_;refine qV (cs:=#[_,_,_,_,_,_]) [(0,.agg _)] rfl U42 jV gY dE dE kR rfl (fun b7 w4 a2 s4 hr=>?_);have:=a1.ob hr;refine wl (E3 (v0:= .int _ _) (v1:= .agg _) (v2:= .slice _ _ _) (fun v0 v1 v2=>#[v0,.string ⟨#[]⟩,.int .i64 0,(x5 v1 0),(x5 v1 1),v2]) rfl rfl rfl kR) ?_;refine zZ a1.u rfl rfl jV rfl qz (fun w5 hq s5=>?_);replace a1:=hq;refine zn3 ?_;refine xK (.inl rfl) rfl (zW U44 rfl rfl a1.range0 jV) ?_;replace hB:=(hB.tr0 (s1.t (s2.t (s3.t s4)))).tr1 s5 lo4;replace a2:=a2.tr1 s5 oG;exact⟨⟨_,rfl,TmD.abs (h1.bel hB) a2 (fun hm=>by have:=hX _ hm;omega) (h2.bel hB)⟩,hB⟩
theorem Qq(X:List Nat)(x y:Tv)(S1 B1 S2 B2:Option Addr)(c1 m1 n1 c2 m2 n2:Nat)(w:World)(hX:∀ x∈X,x<w.heap.size)(h1:Fz X n1 TS w (fun w=>SimsIn w S1 (x).tm.type.args/\TmsIn w B1 (x).tm.args))(h2:Fz X n2 TS w (fun w=>SimsIn w S2 (y).tm.type.args/\TmsIn w B2 (y).tm.args)):Calls prog 19 #[.agg #[.int .i64 (x).tm.kind,.string (x).tm.name,.int .i64 (x).tm.index,.string (x).tm.type.base,.slice S1 (x).tm.type.args.length c1,.slice B1 (x).tm.args.length m1],.agg #[.int .i64 (y).tm.kind,.string (y).tm.name,.int .i64 (y).tm.index,.string (y).tm.type.base,.slice S2 (y).tm.type.args.length c2,.slice B2 (y).tm.args.length m2]] w fun e w'=>(∃ z,e= .returned z/\TmD X (.app x y) w' z)/\Bel w w':=by
 refine enT func19 ntmps19 rfl rfl fun hB=>?_;refine zn2 ?_;refine xy (v:= .agg #[_,_,_,_,_,_]) (cs:=#[_,_,_,_,_,_]) rfl rfl (fun b2 w1 hb2 s1 hr=>?_);refine xy (v:= .agg #[_,_,_,_,_,_]) (cs:=#[_,_,_,_,_,_]) rfl rfl (fun b3 w2 hb3 s2 hr=>?_);refine qW (cs:=cD) gY rfl (fun b4 w3 a1 s3 hr=>?_);have lo4:=hB.u.ob hr;refine zn6 ?_;refine qV (cs:=#[_,_,_,_,_,_,_,_,_,_,_,_]) [(0,.agg _),(1,.agg _)] rfl U42 jV gY dE dE kR rfl (fun b7 w4 a2 s4 hr=>?_);have:=a1.ob hr;refine wl (vw (v0:= .int _ _) (v1:= .slice _ _ _) (fun v0 v1=>#[v0,.string ⟨#[]⟩,.int .i64 0,.string ⟨#[]⟩,.slice none 0 0,v1]) rfl rfl kR) ?_;refine zZ a1.u rfl rfl jV rfl qz (fun w5 hq s5=>?_);replace a1:=hq;refine zn3 ?_;refine xK (.inl rfl) rfl (zW U44 rfl rfl a1.range0 jV) ?_;replace hB:=(hB.tr0 (s1.t (s2.t (s3.t s4)))).tr1 s5 lo4;replace a2:=a2.tr1 s5 oG;exact⟨⟨_,rfl,TmD.app a2 (fun hm=>by have:=hX _ hm;omega) (h1.bel hB) (h2.bel hB)⟩,hB⟩
end Go.Proofs.YtgcgnkmmbecfmaaGreatDoor
