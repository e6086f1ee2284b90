/- What these functions compute, at every world: (*unify.pool).graph, unify.Into; and plain laws. -/
import Derived.Test.YtgcgnkmmbecfmaaGreatDoorU
import Derived.Test.YtgcgnkmmbecfmaaGreatDoorZst
import Derived.Test.YtgcgnkmmbecfmaaGreatDoorPJoin
import Derived.Test.YtgcgnkmmbecfmaaGreatDoorMeet
namespace Go.Proofs.YtgcgnkmmbecfmaaGreatDoor
open Go.RowKit Go.Proofs.Tryz
variable {A:Option Addr}{b d n nf ob:Nat}{g:List Nd}{l:List Ty}{w w':World}
theorem Tx{U:List Nd}{J:List (Nat×Nat)}{P rep ρ:Nat->Nat}{T:Nat->Int}{L:Nat->List (Int×Int)}(h:US l U J P rep ρ T L [])(hp:0<U.length)(hn:U.length<=1000000)(hUf:∀ i,i<U.length->∀ z∈(nd U i).ln,0<=z.1/\z.1<nf):N1 nf (yw U.length rep T L):=by
 have hL:∀ i,i<U.length->rep i=i->∀ z∈L i,0<=z.1/\z.1<nf:=fun i hi hr z hz=>by
  obtain⟨u,hu,_,hm⟩:=h.val i hi hr z hz;exact hUf u hu z hm
 refine⟨by rw[j5];exact hp,by rw[j5];exact hn,fun i hi x hx=>?_,fun i hi=>?_⟩
 ·rw[<- vx hi]at hx
  rw[j5]at hi ⊢;rw[Z5 hi]at hx
  dsimp only at hx
  split at hx
  ·rename_i hri
   obtain⟨y,hy,rfl⟩:=av.1 hx;obtain⟨u,hu,_,hm⟩:=h.val i hi hri y hy;have h1:=hL i hi hri y hy;have h2:=h.ur u hu y hm;have h3:=h.uf.rl _ h2.2;simp only;omega
  ·cases hx
 ·rw[<- vx hi]
  rw[j5]at hi;rw[Z5 hi]
  dsimp only
  split
  ·rename_i hri
   rw[List.length_map];have:=Jz (nf:=nf) (lo:=0) (h.srt i hi) (hL i hi hri) (aM _) oG;omega
  ·exact ag _
theorem fromn_any(G:Option Addr)(cg nf:Nat)(gr:List Nd)(r n:Nat)(w:World)(hG:NodesIn w G gr)(hn:gr.length=n)(hk:N1 nf gr)(hnf:nf<=1000)(hr:r<gr.length):Calls prog 62 #[.agg #[.slice G n cg],.int .i64 r] w fun e w'=>(∃ o A,DL gr [r] [] o/\OOk gr.length o/\e= .returned (.agg #[.slice A o.length o.length])/\(∀ w2,FrSame w.heap.size w' w2->NodesIn w2 A (yK gr o)))/\Bel w w':=by
 subst hn;exact TX G cg nf gr r w hG hk hnf hr
theorem V0:(prog.info? 80).map (fun i=>(i.zero,i.size,i.bytes))=some (some (.agg #[.int .i64 0,.slice none 0 0]),2,32):=by kernel_rfl
theorem zY:(prog.info? 30).map (·.size)=some 1:=by kernel_rfl
theorem yz:(prog.info? 30).map (·.zero)=some (some (.agg #[.slice none 0 0])):=by kernel_rfl
set_option maxRecDepth 100000 in
set_option maxHeartbeats 4000000 in
theorem pgraph_any{bp r:Nat}{c0 c1:Value}{PA TA LA:Option Addr}{cp ct cl:Nat}{P rep ρ:Nat->Nat}{T:Nat->Int}{V:Nat->Value}{L:Nat->List (Int×Int)}(w:World)(hp:PoolAt w ob bp c0 c1 n PA TA LA cp ct cl P T V L)(hu:UF n P rep ρ)(et:bp<ob)(hob:ob<=w.heap.size)(hn:n<=1000000)(hnf:nf<=1000)(hG2:N1 nf (yw n rep T L))(e8:r<n)(hLr:∀ i,i<n->rep i=i->∀ z∈L i,0<=z.2/\z.2.toNat<n)(hLl:∀ i,i<n->rep i=i->(L i).length<=nf):Calls prog 81 #[.pointer (some ⟨bp,0,none⟩),.int .i64 (r:Nat)] w fun e w'=>(∃ o A,DL (yw n rep T L) [rep r] [] o/\e= .returned (.agg #[.slice A o.length o.length])/\∀ w2,FrSame w.heap.size w' w2->NodesIn w2 A (yK (yw n rep T L) o))/\Chg ob [bp] w w'/\ob<=w'.heap.size:=by
 have hlob:w.heap.size<=w.heap.size:=ah _;obtain⟨a9,a3,ab,ac,a5,hdis⟩:=hp;obtain⟨qp,rfl,hqp,en,_⟩:=a3.rowc e8;obtain⟨qt,rfl,hqt,em,_⟩:=ab.rowc e8;obtain⟨ql,rfl,hql,eo,_⟩:=ac.rowc e8;obtain⟨zb,cv⟩:∃ b,b=w.heap.size:=⟨_,rfl⟩
 rw[<- cv]at a5;have a1:zb<=w.heap.size:=ay cv;have es:=a9.lt;rw[<- cv]at en em eo es;have a2:Chg ob [bp] w w/\ob<=w.heap.size:=⟨Chg.refl _ _ _,hob⟩
 rw[<- cv];refine enter func81 ntmps81 rfl (aD rfl) (zn2 ?_);refine qW (cs:=#[.slice none 0 0]) yz rfl (fun b4 w1 b2 t1 hr=>?_);have:=a9.ob hr;have bd:=a3.ob hr;have dk:=ab.ob hr;have dr:=ac.ob hr;have dy:=(nLT a2.2 hr)
 have cf:=(nLT a1 hr)
 replace a5:=qj a5 t1;replace a2:=y6 a2 t1;replace a1:=zV a1 t1;refine zn4 ?_;refine qW (cs:=#[.slice none 0 0]) yz rfl (fun b5 w2 b3 t2 hr=>?_);replace a9:=a9.tr0 t1;have:=a9.ob hr;replace a3:=a3.tr0 t1;have bc:=a3.ob hr;replace ab:=ab.tr0 t1;have dj:=ab.ob hr;replace ac:=ac.tr0 t1;have dq:=ac.ob hr;have dx:=(nLT a2.2 hr)
 have bh:=(nLT a1 hr)
 have:=b2.ob hr;replace a5:=qj a5 t2;replace a2:=y6 a2 t2;replace a1:=zV a1 t2;refine zn4 ?_;have hlo45:=cf;have hlo5b:=bh;have hloN:zb<=b5+1:=aJ bh;refine oK (wl (xz (v:= .pointer (some _)) rfl) (wl (X8 rfl) (zn7 ?_)));replace a9:=a9.tr0 t2;replace a3:=a3.tr0 t2;replace ab:=ab.tr0 t2;replace ac:=ac.tr0 t2;refine qx (rg [6,7,9] 15 48) (fun m g w'=>∃(k:Nat) (AN:Option Addr) (c5:Nat) (Vn:Nat->Value) (P:Nat->Nat),k<=n/\m=n-k/\g 15= .int .i64 k/\Blk w' b4 30 #[.slice none 0 0]/\Blk w' b5 30 #[.slice AN k c5]/\Blk w' bp 132 #[c0,c1,.slice (some ⟨qp,0,none⟩) n cp,.slice (some ⟨qt,0,none⟩) n ct,.slice (some ⟨ql,0,none⟩) n cl]/\Own w' ob 3 1 (some ⟨qp,0,none⟩) n cp (jZ n (vN P))/\Own w' ob 3 1 (some ⟨qt,0,none⟩) n ct (jZ n (vI T))/\Own w' ob 78 1 (some ⟨ql,0,none⟩) n cl (jZ n V)/\(∀ x,x<n->RowO w' ob zb (V x) (L x))/\UF n P rep ρ/\(Chg ob [bp] w w'/\ob<=w'.heap.size)/\zb<=w'.heap.size/\Own w' (b5+1) 80 2 AN k c5 (ndV (vI T) Vn k)/\(∀ x,x<k->RowO w' zb w'.heap.size (Vn x) (nd (yw n rep T L) x).ln)) (n) ?_ (fun m g3 w3 hI=>?_)
 ·exact⟨0,none,0,fun _=> .slice none 0 0,P,ag _,rfl,rfl,b2.u,b3,a9,a3,ab,ac,a5,hu,a2,a1,Own.nil _ _ _ _,fun x hx=>by omega⟩
 obtain⟨k,AN,c5,Vn,P,hkk,hm,h15,b2,b3,a9,a3,ab,ac,a5,hu,a2,a1,b1,ao⟩:=hI;obtain⟨bs,dc⟩:∃ b,b=w3.heap.size:=⟨_,rfl⟩
 rw[<- dc]at ao;have an:bs<=w3.heap.size:=ay dc;have lu5:=b3.lt;have lu4:=b2.lt;have luN:=fun g hg=>(b1.lt g hg).2
 have ei:=a1;rw[<- dc]at lu5 lu4 luN ei;refine zX 15 _ h15 nu (zn6 ?_);refine zQ rfl (fun c16=>?_) (fun c16=>?_)
 ·have co:k<n:=by omega
  refine vj ?_;refine wl (xz (v:= .pointer (some _)) rfl) (wl (X8 rfl) (zn3 ?_));refine wl (x9 (i:=k) U59 xX rfl rfl co rfl) (wl (qy (v:= .int _ _) U3 rfl rfl (ab.rowq co)) (wl (YQ (v0:= .int _ _) (fun v0=>#[v0,.slice none 0 0]) rfl kR) ?_));refine qW (cs:=#[.int .i64 0,.slice none 0 0]) IZ rfl (fun b7 w4 be t3 hr=>?_);have:=a9.ob hr;have bb:=a3.ob hr;have di:=ab.ob hr;have dp:=ac.ob hr;have dw:=(nLT a2.2 hr)
  have ce:=(nLT a1 hr)
  have:=b2.ob hr;have:=b3.ob hr;have bi:=b1.ob hr;have cj:=(nLT an hr)
  replace a5:=qj a5 t3;replace a2:=y6 a2 t3;replace a1:=zV a1 t3;replace ao:=qj ao t3;replace an:=zV an t3;refine zZ be rfl rfl gj rfl qz (fun w5 hq t4=>?_);replace a3:=a3.tr0 t3;replace a3:=a3.cB t4;replace ab:=ab.tr0 t3;replace ab:=ab.cB t4;replace ac:=ac.tr0 t3;replace ac:=ac.cB t4;replace a5:=qj a5 t4;replace a2:=y6 a2 t4;replace a1:=zV a1 t4;replace b1:=b1.tr0 t3;replace b1:=b1.cB t4;replace ao:=qj ao t4;replace an:=zV an t4;replace be:=hq;refine zn4 ?_;have er:zb<=b7+1:=aJ ce;have hbsb7:bs<=b7:=cj;refine oK (wl (xz (v:= .pointer (some _)) rfl) (wmI rfl ?_));replace a9:=(a9.tr0 t3).tr1 t4 oG;refine qq kR (VV _ a9 a3 et hu co) rfl (fun e' w6 hr=>?_);obtain⟨P1,rfl,ep,e5,t5⟩:=hr;replace a9:=a9.ta t5 a3;replace ab:=ab.c t5;replace ac:=ac.c t5;replace a5:=qj a5 t5;replace a2:=y6 a2 t5;replace a1:=zV a1 t5;replace b2:=(b2.tr0 t3).tr1 t4 oG;replace b2:=b2.tb t5 (fun g hg=>by have:=bd g hg;omega);replace b3:=(b3.tr0 t3).tr1 t4 oG;replace b3:=b3.tb t5 (fun g hg=>by have:=bc g hg;omega);replace b1:=b1.c t5;replace ao:=qj ao t5;replace an:=zV an t5;replace be:=be.tb t5 (fun g hg=>by have:=bb g hg;omega);have a3:=ep;refine⟨_,rfl,?_⟩;refine zn4 ?_;refine zQ rfl (fun c30=>?_) (fun c30=>?_)
  ·have e9:rep k=k:=by omega
   have ey:(nd (yw n rep T L) k).ln=((L k).map (fun x=>(x.1,((rep x.2.toNat:Nat):Int)))):=by rw[Z5 co,if_pos e9]
   obtain⟨Ax,cx,eu,hAo,hAb⟩:=a5 k co;have hLm:=hAo.max;have hLk:=hLl k co e9;refine zn2 ?_;refine wl (xz (v:= .pointer (some _)) rfl) (wl (X8 rfl) (zn3 ?_));refine wl (x9 (i:=k) SJ gk rfl rfl co rfl) (wl (qy (v:= .slice Ax (L k).length cx) U78 rfl rfl (by have h:=ac.rowq co;rw[eu]at h;exact h)) (zn5 ?_));refine qx (rg [9] 39 17) (fun m g w'=>∃(j:Nat) (A5:Option Addr) (ck:Nat) (P1:Nat->Nat),j<=(L k).length/\m=(L k).length-j/\g 39= .int .i64 j/\Blk w' b4 30 #[.slice none 0 0]/\Blk w' b5 30 #[.slice AN k c5]/\Blk w' bp 132 #[c0,c1,.slice (some ⟨qp,0,none⟩) n cp,.slice (some ⟨qt,0,none⟩) n ct,.slice (some ⟨ql,0,none⟩) n cl]/\Own w' ob 3 1 (some ⟨qp,0,none⟩) n cp (jZ n (vN P1))/\Own w' ob 3 1 (some ⟨qt,0,none⟩) n ct (jZ n (vI T))/\Own w' ob 78 1 (some ⟨ql,0,none⟩) n cl (jZ n V)/\(∀ x,x<n->RowO w' ob zb (V x) (L x))/\UF n P1 rep ρ/\(Chg ob [bp] w w'/\ob<=w'.heap.size)/\zb<=w'.heap.size/\Own w' (b5+1) 80 2 AN k c5 (ndV (vI T) Vn k)/\(∀ x,x<k->RowO w' zb bs (Vn x) (nd (yw n rep T L) x).ln)/\bs<=w'.heap.size/\Blk w' b7 80 #[.int .i64 (T k),.slice A5 j ck]/\Own w' (b7+1) 83 2 A5 j ck (lnV (((L k).take j).map (fun x=>(x.1,((rep x.2.toNat:Nat):Int)))))) ((L k).length) ?_ (fun m g8 w7 hI=>?_)
   ·exact⟨0,none,0,P1,ag _,rfl,rfl,b2,b3,a9,a3,ab,ac,a5,e5,a2,a1,b1,ao,an,be,Own.nil _ _ _ _⟩
   obtain⟨j,A5,ck,P1,hj,hmj,h39,b2,b3,a9,a3,ab,ac,a5,e5,a2,a1,b1,ao,an,be,bg⟩:=hI;refine zX 39 _ h39 nu (zn6 ?_);refine zQ rfl (fun c40=>?_) (fun c40=>?_)
   ·have cy:j<(L k).length:=by omega
    have hVk2:=eu;have hlk:=(a5 k co)
    rw[eu]at hlk;obtain⟨_,hln⟩:=hlk.links;obtain⟨lb,lof,hAx,hlb,hlr⟩:=hln.at_ (Below.refl _ _:Bel w7 w7) cy;subst hAx;have hxr:=hLr k co e9 _ (am cy);obtain⟨t,ht⟩:∃ t:Nat,((L k)[j]'cy).2=(t:Int):=⟨(((L k)[j]'cy).2).toNat,by omega⟩
    have htl:t<n:=by omega
    refine zn7 ?_;refine wl (qw U83 rfl rfl hlr qv) ?_;refine qW (cs:=#[.int .i64 0,.int .i64 0]) Qj rfl (fun b9 w8 cm t6 hr=>?_);have:=a9.ob hr;have dh:=ab.ob hr;have dn:=ac.ob hr;have dv:=(nLT a2.2 hr)
    have dg:=(nLT a1 hr)
    have:=b2.ob hr;have:=b3.ob hr;have dm:=b1.ob hr;have du:=(nLT an hr)
    have:=be.ob hr;have b8:=a3.ob hr;have cg:=bg.ob hr;replace a5:=qj a5 t6;replace a2:=y6 a2 t6;replace a1:=zV a1 t6;replace ao:=qj ao t6;replace an:=zV an t6;refine zZ cm rfl rfl qv rfl qz (fun w9 hq t7=>?_);replace ab:=ab.tr0 t6;replace ab:=ab.cB t7;replace ac:=ac.tr0 t6;replace ac:=ac.cB t7;replace a5:=qj a5 t7;replace a2:=y6 a2 t7;replace a1:=zV a1 t7;replace b1:=b1.tr0 t6;replace b1:=b1.cB t7;replace ao:=qj ao t7;replace an:=zV an t7;replace a3:=a3.tr0 t6;replace a3:=a3.cB t7;replace bg:=bg.tr0 t6;replace bg:=bg.cB t7;replace cm:=hq;refine zJ (e_S ?_);rw[ht]at cm;have zo:=fun g hg=>(a3.lt g hg).2
    replace a9:=(a9.tr0 t6).tr1 t7 oG;refine J1 10 (rg [] 43 10) (aL (some (⟨qp,0,none⟩:Addr))) 7 (fun ix v wv=>match ix with|0=>v= .pointer (some ⟨b7,1,none⟩)|1=>v= .slice A5 j ck|2=>v= .pointer (some ⟨b9,0,none⟩)|3=>v= .int .i64 ((L k)[j]'cy).1|4=>v= .pointer (some ⟨bp,0,none⟩)|5=>v= .pointer (some ⟨b9,1,none⟩)|6=>v= .int .i64 (t:Nat)|7=>∃ Q:Nat->Nat,v= .int .i64 ((rep t:Nat):Int)/\Own wv ob 3 1 (some ⟨qp,0,none⟩) n cp (jZ n (vN Q))/\UF n Q rep ρ|8=>v= .agg #[.int .i64 ((L k)[j]'cy).1,.int .i64 ((rep t:Nat):Int)]|9=>∃ b,v= .slice (some ⟨b,0,none⟩) 1 1/\w9.heap.size<=b/\Blk wv b 83 #[.int .i64 ((L k)[j]'cy).1,.int .i64 ((rep t:Nat):Int)]|_=>True) (fun _=>True) kR kR ?_ (fun _ _ _ _=>trivial) ?_ ?_ dE ?_
    ·intro ix v wv wv2 h t8
     match ix,h with
     | 0,h=>exact h
     | 1,h=>exact h
     | 2,h=>exact h
     | 3,h=>exact h
     | 4,h=>exact h
     | 5,h=>exact h
     | 6,h=>exact h
     | 7,h=>
      obtain⟨P3,ec,bf,d9⟩:=h;exact⟨P3,ec,bf.tr0 t8,d9⟩
     | 8,h=>exact h
     | 9,h=>
      obtain⟨ee,eb,cu,c4⟩:=h;exact⟨ee,eb,cu,c4.tr0 t8⟩
     | _+10,h=>exact trivial
    ·intro ix o hix c3 b6 gg wx t9 hd
     match ix,hix,c3,b6 with
     | 0,_,_,b6=>
      cases sI b6;refine qZ (u6 U80 gk dE rfl rfl rfl) ⟨Same.refl _ _,?_⟩;exact rfl
     | 1,_,_,b6=>
      cases sI b6;replace be:=(be.tr0 t6).tr1 t7 oG;replace be:=be.tb t9 (fun g hg=>by have:=bb g hg;omega);refine a7 43 (hd 0 a8) ?_;refine qZ (qy (v:= .slice _ _ _) U78 rfl rfl (be.cell rfl)) ⟨Same.refl _ _,?_⟩;exact rfl
     | 2,_,_,b6=>
      cases sI b6;refine qZ (u6 U83 xX dE rfl rfl rfl) ⟨Same.refl _ _,?_⟩;exact rfl
     | 3,_,_,b6=>
      cases sI b6;replace cm:=cm.tb t9 (fun g hg=>by have:=b8 g hg;omega);refine a7 45 (hd 2 a8) ?_;refine qZ (qy (v:= .int _ _) U3 rfl rfl (cm.cell rfl)) ⟨Same.refl _ _,?_⟩;exact rfl
     | 4,_,_,b6=>
      cases sI b6;refine qZ (xz (v:= .pointer (some _)) rfl) ⟨Same.refl _ _,?_⟩;exact rfl
     | 5,_,_,b6=>
      cases sI b6;refine qZ (u6 U83 xX dE rfl rfl rfl) ⟨Same.refl _ _,?_⟩;exact rfl
     | 6,_,_,b6=>
      cases sI b6;replace cm:=cm.tb t9 (fun g hg=>by have:=b8 g hg;omega);refine a7 48 (hd 5 a8) ?_;refine qZ (qy (v:= .int _ _) U3 rfl rfl (cm.cell rfl)) ⟨Same.refl _ _,?_⟩;exact rfl
     | 7,_,c3,_=>exact absurd rfl c3
     | 8,_,_,b6=>
      cases sI b6;obtain⟨P3,ec,bf,d9⟩:=hd 7 (zk kR);refine a7 46 (hd 3 a8) (zq 50 _ ec nu ?_);refine qZ (vw (v0:= .int _ _) (v1:= .int _ _) (fun v0 v1=>#[v0,v1]) rfl rfl kR) ⟨Same.refl _ _,?_⟩;exact rfl
     | 9,_,_,b6=>
      cases sI b6;have hs0:=t9;refine a7 51 (hd 8 a8) ?_;refine jK (fun ops Q K=>?_);refine qV (cs:=#[_,_]) [(0,.agg _)] rfl U78 qv Qj dE dE kR rfl (fun ee w10 c4 t10 hr=>?_);exact K _ _ ⟨t10,⟨_,rfl,nLT hs0.size hr,c4⟩⟩
     | _+10,hix,_,_=>exact absurd hix oG
    ·intro o b6 gg wx d3 hd;cases sI b6;replace a5:=qj a5 d3;replace a2:=y6 a2 d3;replace a1:=zV a1 d3;replace ao:=qj ao d3;replace an:=zV an d3;refine a7 47 (hd 4 a8) (a7 49 (hd 6 a8) ?_);replace a9:=a9.tr0 d3;replace a3:=a3.tr0 d3;refine vZ kR (VV wx a9 a3 et e5 htl) rfl (fun e' w2 hr=>?_);obtain⟨Q,rfl,bf,ek,eh⟩:=hr;refine⟨_,rfl,eh,⟨_,rfl,bf,ek⟩,trivial,fun kx v c3 h=>?_⟩
     match kx,c3,h with
     | 0,_,h=>exact h
     | 1,_,h=>exact h
     | 2,_,h=>exact h
     | 3,_,h=>exact h
     | 4,_,h=>exact h
     | 5,_,h=>exact h
     | 6,_,h=>exact h
     | 7,c3,_=>exact absurd rfl c3
     | 8,_,h=>exact h
     | 9,_,h=>
      obtain⟨ee,eb,cu,c4⟩:=h;exact⟨ee,eb,cu,c4.tr eh (fun hx=>by have:=zo _ hx;omega)⟩
     | _+10,_,_=>exact trivial
    intro gg w11 c8 _ hR;replace a9:=a9.ta c8 a3;replace ab:=ab.c c8;replace ac:=ac.c c8;replace a5:=qj a5 c8;replace a2:=y6 a2 c8;replace a1:=zV a1 c8;replace b2:=(b2.tr0 t6).tr1 t7 oG;replace b2:=b2.tb c8 (fun g hg=>by have:=bd g hg;omega);replace b3:=(b3.tr0 t6).tr1 t7 oG;replace b3:=b3.tb c8 (fun g hg=>by have:=bc g hg;omega);replace b1:=b1.c c8;replace ao:=qj ao c8;replace an:=zV an c8;replace be:=(be.tr0 t6).tr1 t7 oG;replace be:=be.tb c8 (fun g hg=>by have:=bb g hg;omega);replace bg:=bg.c c8;replace cm:=cm.tb c8 (fun g hg=>by have:=b8 g hg;omega);obtain⟨P3,ec,bf,d9⟩:=hR 7 dE;obtain⟨ee,eb,cu,c4⟩:=hR 9 dE;have a3:=bf;refine xj 43 _ (hR 0 dE) nu (xj 44 _ (hR 1 dE) nu (xj 50 _ ec nu (xj 52 _ eb nu ?_)));refine j7 U78 XX rfl dE bg c4 rfl rfl rfl qz dE oG oG (nLT (Nat.succ_le_of_lt be.lt) (ah _)) (fun dz ed w12 db cd hg=>?_);have d4:dz≠bp:=neA bg a9.lt hg
    have d8:dz≠b4:=neA bg b2.lt hg
    have d7:dz≠b5:=neA bg b3.lt hg
    have d6:dz≠b7:=neA bg be.lt hg
    have d5:dz≠b9:=neB cm.lt hg (fun g hg=>by have:=cg g hg;omega)
    replace a9:=a9.ta cd bg;replace ab:=ab.c cd;replace ac:=ac.c cd;replace a5:=qj a5 cd;replace a2:=y6 a2 cd;replace a1:=zV a1 cd;replace b2:=b2.ta cd bg;replace b3:=b3.ta cd bg;replace b1:=b1.c cd;replace ao:=qj ao cd;replace an:=zV an cd;replace be:=be.ta cd bg;replace a3:=a3.c cd;replace db:Own w12 (b7+1) 83 2 (some ⟨dz,0,none⟩) (j+1) ed (lnV (((L k).take (j+1)).map (fun x=>(x.1,((rep x.2.toNat:Nat):Int))))):=by
      rw[List.take_succ_eq_append_getElem cy,List.map_append,List.map_cons,List.map_nil,<- E8];simp only[ht,Int.toNat_natCast];exact db
    have bg:=db;refine zn1 ?_;refine xQ (v:= .slice _ _ _) be rfl rfl gk (by first|decide|simp) rfl rfl (fun w13 hq cn=>?_);replace ab:=ab.cB cn;replace ac:=ac.cB cn;replace a5:=qj a5 cn;replace a2:=y6 a2 cn;replace a1:=zV a1 cn;replace b1:=b1.cB cn;replace ao:=qj ao cn;replace an:=zV an cn;replace a3:=a3.cB cn;replace bg:=bg.cB cn;replace be:=hq;refine zn7 ?_;refine x8 ((L k).length-(j+1)) oG agA ?_;replace a9:=a9.tr1 cn oG;exact⟨j+1,_,_,P3,by omega,rfl,rfl,b2.u,b3.u,a9,a3,ab,ac,a5,d9,a2,a1,b1,ao,an,be,bg⟩
   have hjx:j=(L k).length:=by omega
   subst hjx;obtain⟨sv,e6⟩:∃ sv,sv=Value.slice A5 (L k).length ck:=⟨_,rfl⟩
   obtain⟨P2,ew⟩:∃ Q,Q=P1:=⟨_,rfl⟩
   subst ew;have el:=e5;have a4:RowO w7 zb w7.heap.size sv (nd (yw n rep T L) k).ln:=by
     rw[List.take_length]at bg;have h:=RowO.of (lo:=zb) (xs:=((L k).map (fun x=>(x.1,((rep x.2.toNat:Nat):Int))))) er (A:=A5) (cap:=ck) (by rw[List.length_map];exact bg);rw[List.length_map]at h;rw[ey,e6];exact h
   obtain⟨s5,e7⟩:∃ b,b=w7.heap.size:=⟨_,rfl⟩
   rw[<- e7]at a4;have bj:s5<=w7.heap.size:=ay e7;refine zn9 ?_;refine qV (cs:=#[_,_]) [(0,.agg _)] rfl U28 gj IZ dE dE kR rfl (fun b59 w14 de c7 hr=>?_);have:=a9.ob hr;have bn:=ab.ob hr;have br:=ac.ob hr;have bu:=(nLT a2.2 hr)
   have bk:=(nLT a1 hr)
   have:=b2.ob hr;have:=b3.ob hr;have bq:=b1.ob hr;have bt:=(nLT an hr)
   have:=be.ob hr;have bo:=a3.ob hr;have bm:=(nLT bj hr)
   replace a5:=qj a5 c7;replace a2:=y6 a2 c7;replace a1:=zV a1 c7;replace ao:=qj ao c7;replace an:=zV an c7;replace a4:=a4.tr c7 (by simp);replace bj:=zV bj c7;replace b1:=b1.tr0 c7;refine j7 U28 V0 rfl dE b1 de rfl rfl rfl qz dE oG oG b3.u.lt (fun cq cr w15 da cc hg=>?_);replace a9:=a9.tr0 c7;have bv:cq≠bp:=neA b1 a9.lt hg
   have bz:cq≠b4:=neA b1 b2.u.lt hg
   have bx:cq≠b5:=neA b1 b3.u.lt hg
   have bw:cq≠b7:=neB be.u.lt hg (fun g hg=>by have:=bi g hg;omega)
   replace a9:=a9.ta cc b1;replace ab:=ab.tr0 c7;replace ab:=ab.c cc;replace ac:=ac.tr0 c7;replace ac:=ac.c cc;replace a5:=qj a5 cc;replace a2:=y6 a2 cc;replace a1:=zV a1 cc;replace b2:=b2.tr0 c7;replace b2:=b2.ta cc b1;replace b3:=b3.tr0 c7;replace b3:=b3.ta cc b1;replace ao:=qj ao cc;replace an:=zV an cc;replace a3:=a3.tr0 c7;replace a3:=a3.c cc;replace a4:=a4.c cc;replace bj:=zV bj cc;have c2:Own w15 (b5+1) 80 2 (some ⟨cq,0,none⟩) (k+1) cr (ndV (vI T) (fun x=>if x=k then sv else Vn x) (k+1)):=by
     rw[QX,gJ (f':=(vI T)) (h':=Vn) (fun x _=>rfl) (fun x hx=>by rw[if_neg (show ¬x=k from by omega)])];simp only[if_true];rw[e6];exact da
   refine zn1 ?_;refine xQ (v:= .slice _ _ _) b3 rfl rfl O4 (by first|decide|simp) rfl rfl (fun w16 hq cb=>?_);replace ab:=ab.cB cb;replace ac:=ac.cB cb;replace a5:=qj a5 cb;replace a2:=y6 a2 cb;replace a1:=zV a1 cb;replace ao:=qj ao cb;replace an:=zV an cb;replace a3:=a3.cB cb;replace a4:=a4.c cb;replace bj:=zV bj cb;replace c2:=c2.cB cb;replace b3:=hq;refine zn7 ?_;refine x8 (n-(k+1)) oG agA ?_;replace a9:=a9.tr1 cb oG;replace b2:=b2.tr1 cb oG
   exact⟨k+1,_,_,fun x=>if x=k then sv else Vn x,P2,by omega,rfl,rfl,b2,b3,a9,a3,ab,ac,a5,el,a2,a1,c2,fun x hx=>by
     by_cases e:x=k
     · subst e
       simp only[if_true];exact a4.up bj
     · simp only[if_neg e]
       exact(ao x oG).up an⟩
  have e9:¬rep k=k:=fun e=>c30 (by rw[e])
  have ey:(nd (yw n rep T L) k).ln= []:=by rw[Z5 co,if_neg e9]
  obtain⟨sv,e6⟩:∃ sv,sv=Value.slice none 0 0:=⟨_,rfl⟩
  obtain⟨P2,ew⟩:∃ Q,Q=P1:=⟨_,rfl⟩
  subst ew;have el:=e5;have a4:RowO w6 zb w6.heap.size sv (nd (yw n rep T L) k).ln:=by rw[ey,e6];exact⟨none,0,rfl,Own.nil _ _ _ _,fun g hg=>by cases hg⟩
  obtain⟨s5,e7⟩:∃ b,b=w6.heap.size:=⟨_,rfl⟩
  rw[<- e7]at a4;have bj:s5<=w6.heap.size:=ay e7;refine zn6 ?_;refine qV (cs:=#[_,_]) [(0,.agg _)] rfl U28 gj IZ dE dE kR rfl (fun b59 w17 de c6 hr=>?_);have:=a9.ob hr;have bn:=ab.ob hr;have br:=ac.ob hr;have bu:=(nLT a2.2 hr)
  have bk:=(nLT a1 hr)
  have:=b2.ob hr;have:=b3.ob hr;have bq:=b1.ob hr;have bt:=(nLT an hr)
  have:=be.ob hr;have bo:=a3.ob hr;have bm:=(nLT bj hr)
  replace a5:=qj a5 c6;replace a2:=y6 a2 c6;replace a1:=zV a1 c6;replace ao:=qj ao c6;replace an:=zV an c6;replace a4:=a4.tr c6 (by simp);replace bj:=zV bj c6;replace b1:=b1.tr0 c6;refine j7 U28 V0 rfl dE b1 de rfl rfl rfl qz dE oG oG b3.u.lt (fun cq cr w18 da ca hg=>?_);replace a9:=a9.tr0 c6;have bv:cq≠bp:=neA b1 a9.lt hg
  have bz:cq≠b4:=neA b1 b2.u.lt hg
  have bx:cq≠b5:=neA b1 b3.u.lt hg
  have bw:cq≠b7:=neB be.u.lt hg (fun g hg=>by have:=bi g hg;omega)
  replace a9:=a9.ta ca b1;replace ab:=ab.tr0 c6;replace ab:=ab.c ca;replace ac:=ac.tr0 c6;replace ac:=ac.c ca;replace a5:=qj a5 ca;replace a2:=y6 a2 ca;replace a1:=zV a1 ca;replace b2:=b2.tr0 c6;replace b2:=b2.ta ca b1;replace b3:=b3.tr0 c6;replace b3:=b3.ta ca b1;replace ao:=qj ao ca;replace an:=zV an ca;replace a3:=a3.tr0 c6;replace a3:=a3.c ca;replace a4:=a4.c ca;replace bj:=zV bj ca;have c2:Own w18 (b5+1) 80 2 (some ⟨cq,0,none⟩) (k+1) cr (ndV (vI T) (fun x=>if x=k then sv else Vn x) (k+1)):=by
    rw[QX,gJ (f':=(vI T)) (h':=Vn) (fun x _=>rfl) (fun x hx=>by rw[if_neg (show ¬x=k from by omega)])];simp only[if_true];rw[e6];exact da
  refine zn1 ?_;refine xQ (v:= .slice _ _ _) b3 rfl rfl O4 (by first|decide|simp) rfl rfl (fun w19 hq c9=>?_);replace ab:=ab.cB c9;replace ac:=ac.cB c9;replace a5:=qj a5 c9;replace a2:=y6 a2 c9;replace a1:=zV a1 c9;replace ao:=qj ao c9;replace an:=zV an c9;replace a3:=a3.cB c9;replace a4:=a4.c c9;replace bj:=zV bj c9;replace c2:=c2.cB c9;replace b3:=hq;refine zn7 ?_;refine x8 (n-(k+1)) oG agA ?_;replace a9:=a9.tr1 c9 oG;replace b2:=b2.tr1 c9 oG
  exact⟨k+1,_,_,fun x=>if x=k then sv else Vn x,P2,by omega,rfl,rfl,b2,b3,a9,a3,ab,ac,a5,el,a2,a1,c2,fun x hx=>by
    by_cases e:x=k
    · subst e
      simp only[if_true];exact a4.up bj
    · simp only[if_neg e]
      exact(ao x oG).up an⟩
 have hke:k=n:=by omega
 rw[hke]at b1 ao b3;refine zn6 ?_;refine J1 4 [63,64,65,66] (aL (some (⟨qp,0,none⟩:Addr))) 3 (fun ix v wv=>match ix with|0=>v= .agg #[.slice AN n c5]|1=>v= .pointer (some ⟨bp,0,none⟩)|2=>v= .int .i64 (r:Nat)|3=>∃ Q:Nat->Nat,v= .int .i64 ((rep r:Nat):Int)/\Own wv ob 3 1 (some ⟨qp,0,none⟩) n cp (jZ n (vN Q))/\UF n Q rep ρ|_=>True) (fun _=>True) kR kR ?_ (fun _ _ _ _=>trivial) ?_ ?_ dE ?_
 ·intro ix v wv wv2 h t21
  match ix,h with
  | 0,h=>exact h
  | 1,h=>exact h
  | 2,h=>exact h
  | 3,h=>
   obtain⟨P3,ez,bf,d9⟩:=h;exact⟨P3,ez,bf.tr0 t21,d9⟩
  | _+4,h=>exact trivial
 ·intro ix o hix c3 b6 gg wx t22 hd
  match ix,hix,c3,b6 with
  | 0,_,_,b6=>
   cases sI b6;replace b3:=b3.tb t22 (fun g hg=>by have:=bc g hg;omega);refine qZ (qw U30 rfl rfl b3.range0 zY) ⟨Same.refl _ _,?_⟩;exact rfl
  | 1,_,_,b6=>
   cases sI b6;refine qZ (xz (v:= .pointer (some _)) rfl) ⟨Same.refl _ _,?_⟩;exact rfl
  | 2,_,_,b6=>
   cases sI b6;refine qZ (xz (v:= .int _ _) rfl) ⟨Same.refl _ _,?_⟩;exact rfl
  | 3,_,c3,_=>exact absurd rfl c3
  | _+4,hix,_,_=>exact absurd hix oG
 ·intro o b6 gg wx d2 hd;cases sI b6;replace a5:=qj a5 d2;replace a2:=y6 a2 d2;replace a1:=zV a1 d2;replace ao:=qj ao d2;replace an:=zV an d2;refine a7 64 (hd 1 a8) (a7 65 (hd 2 a8) ?_);replace a9:=a9.tr0 d2;replace a3:=a3.tr0 d2;refine vZ kR (VV wx a9 a3 et hu e8) rfl (fun e' w2 hr=>?_);obtain⟨Q,rfl,bf,ek,eh⟩:=hr;refine⟨_,rfl,eh,⟨_,rfl,bf,ek⟩,trivial,fun kx v c3 h=>?_⟩
  match kx,c3,h with
  | 0,_,h=>exact h
  | 1,_,h=>exact h
  | 2,_,h=>exact h
  | 3,c3,_=>exact absurd rfl c3
  | _+4,_,_=>exact trivial
 intro gg eg cz _ hR;replace a5:=qj a5 cz;replace a2:=y6 a2 cz;replace a1:=zV a1 cz;replace b2:=b2.tb cz (fun g hg=>by have:=bd g hg;omega);replace b1:=b1.c cz;replace ao:=qj ao cz;replace an:=zV an cz;obtain⟨P3,ez,bf,d9⟩:=hR 3 dE;have a3:=bf
 have hNG:NodesIn eg AN (yw n rep T L):=Ov (lo:=zb) (bs:=bs) b1 (j5 _ _ _ _) (fun x hx=>by
   have ej:x<n:=by rw[<- j5 n rep T L];exact hx
   rw[<- vx hx,Z5 ej];rfl) (fun x hx=>by
   have ej:x<n:=by rw[<- j5 n rep T L];exact hx
   have h:=ao x ej
   rw[<- vx hx];exact h)
 have hrl:=hu.rl r e8;have z4:=b2.lt;refine xj 63 _ (hR 0 dE) nu (xj 66 _ ez nu ?_);have hzq:=a1;refine qq kR (fromn_any AN c5 nf (yw n rep T L) (rep r) n _ hNG (j5 _ _ _ _) hG2 hnf (by rw[j5];exact hrl)) rfl (fun e' ef hr=>?_);obtain⟨⟨o,AF,hD,hok,rfl,hN⟩,cw⟩:=hr;replace cw:=sB cw;replace a5:=qj a5 cw;replace a2:=y6 a2 cw;replace a1:=zV a1 cw;replace ao:=qj ao cw;replace an:=zV an cw;have ea:FrSame (eg).heap.size ef ef:=FrSame.refl _ _;have hzV:zb<=(eg).heap.size:=hzq;obtain⟨Z0,hZ0⟩:∃ z,z=(eg).heap.size:=⟨_,rfl⟩
 rw[<- hZ0]at hN ea z4 hzV;obtain⟨wZ,hwZ⟩:∃ z,z=ef:=⟨_,rfl⟩
 replace ea:FrSame Z0 wZ ef:=by rw[hwZ];exact FrSame.refl _ _
 rw[<- hwZ]at hN;refine⟨_,rfl,?_⟩;refine zZ b2.u rfl rfl zY rfl qz (fun w22 hq df=>?_);replace b2:=b2.tr0 cw;replace a5:=qj a5 df;replace a2:=y6 a2 df;replace a1:=zV a1 df;replace ao:=qj ao df;replace an:=zV an df;replace ea:=ea.of df (fun g hg=>by rw[List.mem_singleton.1 hg];omega);replace b2:=hq;refine zn3 ?_;refine xK (.inl rfl) rfl (zW U30 rfl rfl b2.range0 zY) ?_;exact⟨⟨o,AF,hD,rfl,fun w2 hf=>hN w2 (ea.then hf hzV)⟩,a2.1,a2.2⟩
def Vj(l:List Ty)(U:List Nd)(J:List (Nat×Nat))(X:List Nd):Prop:=∃ P rep ρ T L o,US l U J P rep ρ T L []/\DL (yw U.length rep T L) [rep 0] [] o/\X=yK (yw U.length rep T L) o
theorem L4(g:List Nd):g.map (shN 0)=g:=by
 have h:∀ x:Nd,shN 0 x=x:=fun x=>by
  refine V8 rfl ?_;simp[shN]
 rw[List.map_congr_left (g:=id) (fun x _=>h x),List.map_id]
theorem H7{U:List Nd}(hU:∀ i,i<U.length->∀ z∈(nd U i).ln,0<=z.1/\z.1<nf)(hg:∀ i,i<g.length->∀ z∈(nd g i).ln,0<=z.1/\z.1<nf):∀ i,i<(U++g.map (shN U.length)).length->∀ z∈(nd (U++g.map (shN U.length)) i).ln,0<=z.1/\z.1<nf:=fun i hi z hz=>by
 by_cases e:i<U.length
 ·rw[Zz e]at hz;exact hU i e z hz
 ·have hl:i-U.length<g.length:=by simp at hi;omega
  have h:=VW (U:=U) hl
  rw[show U.length+(i-U.length)=i by omega]at h
  rw[h]at hz
  obtain⟨y,hy,rfl⟩:=av.1 hz
  exact hg _ hl y hy
theorem Ek{nt:Nat}(h:GOk nt nf g):∀ i,i<g.length->∀ z∈(nd g i).ln,0<=z.1/\z.1<nf:=fun i hi z hz=>by
 rw[vx hi]at hz
 have:=h.ln i hi z hz
 omega
theorem pool_nil{bp cp ct cl:Nat}{c0 c1:Value}(h:Blk w bp 132 #[c0,c1,.slice none 0 cp,.slice none 0 ct,.slice none 0 cl])(hp:cp=0)(ht:ct=0)(hl:cl=0):PoolAt w ob bp c0 c1 0 none none none cp ct cl (fun x=>x) (fun _=>0) (fun _=> .slice none 0 0) (fun _=>[]):=by
 subst hp ht hl;exact⟨h,Own.nil _ _ _ _,Own.nil _ _ _ _,Own.nil _ _ _ _,fun x hx=>absurd hx (aA _),fun g hg=>by cases hg⟩
theorem US.first(hg:GY l g):US l g [] (Wy 0 (fun x=>x)) (fun x=>if x<0 then x else x) (fun _=>0) (SQ 0 (fun _=>0) g) (addL 0 (fun _=>[]) g) []:=by
 have h:=(US.nil (l:=l) (P:=fun x=>x) (rep:=fun x=>x) (ρ:=fun _=>0) (T:=fun _=>0) (L:=fun _=>[])).add hg (fun p hp=>by cases hp);rw[List.nil_append,show ([]:List Nd).length=0 from rfl,L4]at h;exact h
theorem NodesIn.chgB{w0 w2:World}{G:Option Addr}(h:NodesIn w0 G g)(hB:Bel w0 w)(hc:Chg ob [b] w w2)(h1:w0.heap.size<=ob)(h2:w0.heap.size<=b):NodesIn w2 G g:=h.mono (hB.chg hc h1 (fun g hg=>by rw[List.mem_singleton.1 hg];exact h2))
theorem ret_into{X:List Nd}(h:X.length=n):Ending.returned (.tuple #[.agg #[.slice A n n],.bool true])= .returned (.tuple #[.agg #[.slice A X.length X.length],.bool true]):=by rw[h]
set_option maxRecDepth 100000 in
set_option maxHeartbeats 2000000 in
theorem into_any{nt bu bd j c1 c2:Nat}{G1 G2:Option Addr}{ga gb:List Nd}(w:World)(bh:TabIn w)(hTI:TableIn w l bu bd)(hSd:V5 l)(hG1:NodesIn w G1 ga)(hG2:NodesIn w G2 gb)(bf:GOk nt nf ga)(b3:GOk nt nf gb)(hya:GY l ga)(hyb:GY l gb)(b2:nf<=1000)(hj:j<ga.length):Calls Tryz.prog 60 #[.agg #[.slice (some ⟨bu,0,none⟩) l.length l.length,.slice (some ⟨bd,0,none⟩) l.length l.length],.agg #[.slice G1 ga.length c1],.int .i64 (j:Nat),.agg #[.slice G2 gb.length c2]] w fun e w'=>(∃ A X ok,e= .returned (.tuple #[.agg #[.slice A (List.length X) X.length],.bool ok])/\(∀ w2,FrSame w.heap.size w' w2->NodesIn w2 A X)/\((ok=true/\Vj l (ga++gb.map (shN ga.length)) [(j,ga.length)] X)\/(ok=false/\X= []/\¬EY l (ga++gb.map (shN ga.length)) [(j,ga.length)])))/\Bel w w':=by
 have hna:=bf.le;have hnb:=b3.le;have hpb:=b3.pos;refine enT Tryz.func60 Tryz.ntmps60 rfl rfl fun hB=>?_;refine zn2 ?_;refine xy (v:= .agg #[_,_]) (cs:=#[_,_]) rfl rfl (fun b4 w1 a3 s1 hr=>?_);have lo4:=hB.ob hr;refine xy (v:= .agg #[_]) (cs:=#[_]) rfl rfl (fun b5 w2 a4 s2 hr=>?_);have:=a3.ob hr;have lo5:=hB.u.ob hr;refine xy (v:= .agg #[_]) (cs:=#[_]) rfl rfl (fun b7 w3 a5 s3 hr=>?_);have:=a3.u.ob hr;have:=a4.ob hr;have lo7:=hB.u.ob hr;refine qW (cs:=#[.slice none 0 0]) yz rfl (fun b8 w4 a1 s4 hr=>?_);have:=a3.u.ob hr;have:=a4.u.ob hr;have:=a5.ob hr;have lo8:=hB.u.ob hr;refine zn6 ?_;refine wl (YQ (v0:= .agg _) (fun v0=>#[(x5 v0 0),(x5 v0 1),.slice none 0 0,.slice none 0 0,.slice none 0 0]) rfl kR) ?_;refine xy (v:= .agg #[_,_,_,_,_]) (cs:=#[_,_,_,_,_]) rfl rfl (fun b13 w5 a9 s5 hr=>?_);have:=a3.u.ob hr;have:=a4.u.ob hr;have:=a5.u.ob hr;have:=a1.ob hr;have ab:=hB.u.ob hr;refine wl (uK (v:= .pointer (some _)) rfl) (zn3 ?_);replace a9:Blk w5 b13 132 #[.slice (some ⟨bu,0,none⟩) l.length l.length,.slice (some ⟨bd,0,none⟩) l.length l.length,.slice none 0 0,.slice none 0 0,.slice none 0 0]:=a9;have b6:=a9.lt;refine oK (wl (xz (v:= .pointer (some _)) rfl) (zn1 ?_));refine qq kR (Lv (n:=0) nt _ (pool_nil a9 rfl rfl rfl) (aI _) b6 oG (fun w2 hc=>hG1.chgB hB.u hc oG ab) bf b2) rfl (fun e' w6 hr=>?_);obtain⟨⟨PA1,TA1,LA1,cp1,ct1,cl1,V1,rfl,hp1⟩,hC,hs1⟩:=hr;replace hB:=hB.tr0 (s1.t (s2.t (s3.t (s4.t s5))));replace hB:=hB.chg hC oG (by simp;omega);replace a3:=a3.tr0 (s2.t (s3.t (s4.t s5)));replace a3:=a3.chg hC oG (by simp;omega);replace a4:=a4.tr0 (s3.t (s4.t s5));replace a4:=a4.chg hC oG (by simp;omega);replace a5:=a5.tr0 (s4.t s5);replace a5:=a5.chg hC oG (by simp;omega);replace a1:=a1.tr0 s5;replace a1:=a1.chg hC oG (by simp;omega);rw[Nat.zero_add]at hp1;have bc:=US.first hya;refine⟨_,rfl,?_⟩;refine zn5 ?_;refine wl (xz (v:= .pointer (some _)) rfl) (wmI rfl (wl (xz (v:= .pointer (some _)) rfl) (zn1 ?_)));have hl13:w.heap.size<=b13:=ab;refine qq kR (Lv (n:=ga.length) nt _ hp1 (aI _) hs1 oG (fun w2 hc=>hG2.chgB hB hc oG ab) b3 b2) rfl (fun e' w7 hr=>?_);obtain⟨⟨PA2,TA2,LA2,cp2,ct2,cl2,V2,rfl,hp2⟩,hC,hs2⟩:=hr;replace hB:=hB.chg hC oG (by simp;omega);replace a3:=a3.chg hC oG (by simp;omega)
 replace a4:=a4.chg hC oG (by simp;omega);replace a5:=a5.chg hC oG (by simp;omega);replace a1:=a1.chg hC oG (by simp;omega);have hUl:(ga++gb.map (shN ga.length)).length=ga.length+gb.length:=by simp
 have bb:=(bc.add hyb (fun p hp=>by cases hp)).push (a:=j) (b:=ga.length) oG oG;rw[<- hUl]at hp2;have bg:=H7 (Ek bf) (Ek b3);refine⟨_,rfl,?_⟩;refine qq kR (pjoin_any (U:=(ga++gb.map (shN ga.length))) (J:=[(j,ga.length)]) (nf:=nf) w _ bh hTI hSd hB oG hp2 (aI _) hs2 oG b2 bg oG bb) rfl (fun e' w8 hr=>?_);obtain⟨⟨b,rfl,b9,hno⟩,hC,hs3⟩:=hr;replace hB:=hB.chg hC oG (by simp;omega);replace a3:=a3.chg hC oG (by simp;omega);replace a4:=a4.chg hC oG (by simp;omega);replace a5:=a5.chg hC oG (by simp;omega);replace a1:=a1.chg hC oG (by simp;omega);refine⟨_,rfl,?_⟩;refine zn3 ?_;refine jQ rfl (fun bi=>?_) (fun bi=>?_)
 ·have hbf:b=false:=by simpa using bi
  have be:=hno hbf;refine zn2 ?_;refine wl (gQ (vs:=#[]) (cs:=#[.slice none 0 0]) (by simp) kR) ?_;refine zZ a1 rfl rfl zY rfl qz (fun w9 hq s6=>?_);replace a1:=hq;refine zn5 ?_;refine QK (.inl rfl) rfl (zW U30 rfl rfl a1.range0 zY) rfl ?_;exact⟨⟨none,[],false,rfl,fun w2 _=>ZX w2 none,.inr ⟨rfl,rfl,be⟩⟩,hB.u⟩
 have hbt:b=true:=by simpa using bi
 obtain⟨P3,ac,ρ3,T3,V3,L3,hp3,a2⟩:=b9 hbt;have hz8:=a1.lt;have an:=Bel.size hB;refine zn4 ?_;refine wl (xz (v:= .pointer (some _)) rfl) ?_
 refine qq kR (pgraph_any (r:=0) (nf:=nf) _ hp3 a2.uf (aI _) hs3 oG b2 (Tx a2 oG oG bg) oG (fun i hi hr z hz=>by
   obtain⟨u,hu,_,hm⟩:=a2.val i hi hr z hz;exact a2.ur u hu z hm) (fun i hi hr=>by
   have:=Jz (nf:=nf) (lo:=0) (a2.srt i hi) (fun z hz=>by
    obtain⟨u,hu,_,hm⟩:=a2.val i hi hr z hz
    exact bg u hu z hm) (aM _) oG
   omega)) rfl (fun e' b1 hr=>?_)
 obtain⟨⟨o,AF,hD,rfl,hN⟩,hC,hs4⟩:=hr;replace hB:=hB.chg hC oG (by simp;omega);replace a3:=a3.chg hC oG (by simp;omega);replace a4:=a4.chg hC oG (by simp;omega);replace a5:=a5.chg hC oG (by simp;omega);replace a1:=a1.chg hC oG (by simp;omega);have ao:FrSame (w8).heap.size b1 b1:=FrSame.refl _ _;obtain⟨Z0,hZ0⟩:∃ z,z=(w8).heap.size:=⟨_,rfl⟩
 rw[<- hZ0]at hN ao hz8 an;obtain⟨wZ,hwZ⟩:∃ z,z=b1:=⟨_,rfl⟩
 replace ao:FrSame Z0 wZ b1:=by rw[hwZ];exact FrSame.refl _ _
 rw[<- hwZ]at hN;refine⟨_,rfl,?_⟩;refine zZ a1 rfl rfl zY rfl qz (fun w11 hq s7=>?_);replace ao:=ao.of s7 (fun g hg=>by rw[List.mem_singleton.1 hg];omega);replace a1:=hq;refine zn4 ?_;refine QK (.inl rfl) rfl (zW U30 rfl rfl a1.range0 zY) rfl ?_;have hcl:(yK (yw (ga++gb.map (shN ga.length)).length ac T3 L3) o).length=o.length:=uY _ _;exact⟨⟨AF,_,true,ret_into hcl,fun w2 hf=>hN w2 (ao.then hf an),.inl ⟨rfl,P3,ac,ρ3,T3,L3,o,a2,hD,rfl⟩⟩,hB.u⟩
section
section lub
variable {l:List Ty} {fs:List Ft} {ga gb:List Nd}
structure Lub(l:List Ty)(ga gb X:List Nd):Prop where
 gx:GX l X
 left:Maps l ga X
 right:Maps l gb X
 least:∀ c,GY l c->Maps l ga c->Maps l gb c->Maps l X c
 can:∃ o,DL X [0] [] o/\yK X o=X
theorem Lub.uniq{X Y:List Nd}(h:Lub l ga gb X)(k:Lub l ga gb Y):X=Y:=by
 obtain⟨o,ho,e⟩:=h.can;obtain⟨p,hp,e2⟩:=k.can;have:=can_eq h.gx k.gx (h.least Y k.gx.toGY k.left k.right) (k.least X h.gx.toGY h.left h.right) ho hp;rw[e,e2]at this;exact this.symm
end lub
end
inductive Sm where
 | mk (base:ByteArray) (args:List Sm)
def Sm.base:Sm->ByteArray | .mk b _=>b
def Sm.args:Sm->List Sm | .mk _ a=>a
theorem Sm.eta(s:Sm):s= .mk s.base s.args:=by cases s;rfl
mutual
inductive SimAt(w:World):Nat->Nat->Sm->Prop
 | mk {b o:Nat} {base:ByteArray} {args:List Sm} {A:Option Addr} {c:Nat} (hb:b<w.heap.size) (h:w.rangeAt b o [.string base,.slice A (List.length args) c]) (hs:SimsIn w A args):SimAt w b o (.mk base args)
inductive SimsIn(w:World):Option Addr->List Sm->Prop
 | nil {A:Option Addr}:SimsIn w A []
 | more {b o:Nat} {args:List Sm} (hl:args.length<=vJ) (hb:b<w.heap.size) (h:∀ k (hk:k<args.length),SimAt w b (o+k*2) args[k]):SimsIn w (some ⟨b,o,none⟩) args
end
theorem SimAt.both(hw:Bel w w'):(∀ {b o:Nat} {s:Sm},SimAt w b o s->SimAt w' b o s)/\∀ {A:Option Addr} {l:List Sm},SimsIn w A l->SimsIn w' A l:=by
 have h1:∀ {b o:Nat} {s:Sm} (h:SimAt w b o s),SimAt w' b o s:=fun h=>
  SimAt.rec (motive_1:=fun b o s _=>SimAt w' b o s) (motive_2:=fun A l _=>SimsIn w' A l)
   (fun hb h _ ih=> .mk (nLL hb hw.size) (hw.range hb h) ih) .nil (fun hl hb _ ih=> .more hl (nLL hb hw.size) ih) h
 have h2:∀ {A:Option Addr} {l:List Sm} (h:SimsIn w A l),SimsIn w' A l:=fun h=>
  SimsIn.rec (motive_1:=fun b o s _=>SimAt w' b o s) (motive_2:=fun A l _=>SimsIn w' A l)
   (fun hb h _ ih=> .mk (nLL hb hw.size) (hw.range hb h) ih) .nil (fun hl hb _ ih=> .more hl (nLL hb hw.size) ih) h
 exact⟨h1,h2⟩
theorem SimAt.mono{o:Nat}{s:Sm}(h:SimAt w b o s)(hw:Bel w w'):SimAt w' b o s:=(SimAt.both hw).1 h
theorem SimsIn.mono{l:List Sm}(h:SimsIn w A l)(hw:Bel w w'):SimsIn w' A l:=(SimAt.both hw).2 h
theorem SimsIn.le{l:List Sm}(h:SimsIn w A l):l.length<=vJ:=by
 cases h with
 | nil=>exact ag _
 | more hl=>exact hl
theorem SimsIn.at_{l:List Sm}(h:SimsIn w A l){k:Nat}(hk:k<l.length):∃ b o A' c,A=some ⟨b,o,none⟩/\b<w.heap.size/\w.rangeAt b (o+k*2) [Value.string (l[k]).base,.slice A' (l[k]).args.length c]/\SimsIn w A' (l[k]).args:=by
 cases h with
 | nil=>simp at hk
 | @more b o _ _ hb h=>
  have hx:=h k hk
  generalize l[k]=s at hx
  cases hx with
  | mk _ hr hs=>exact⟨b,o,_,_,rfl,hb,hr,hs⟩
def smE:ByteArray:=⟨#[101]⟩
def smT:ByteArray:=⟨#[116]⟩
def Vk(s:Sm):Prop:=((s.base=smE\/s.base=smT)/\s.args.length=0)\/(s.base=⟨#[]⟩/\s.args.length=2)
instance(s:Sm):Decidable (Vk s):=by unfold Vk;infer_instance
mutual
def swk:Sm->Nat->Nat->Nat×Int
 | .mk b l,d,n=>if 200<n+1\/40<d then (n+1,1)else if Vk (.mk b l)then MQ l (d+1) (n+1)else (n+1,5)
def MQ:List Sm->Nat->Nat->Nat×Int
 | [],_,n=>(n,0)
 | x::r,d,n=>if (swk x d n).2=0 then MQ r d (swk x d n).1 else swk x d n
end
theorem O5(s:Sm)(d n:Nat):swk s d n=if 200<n+1\/40<d then (n+1,1)else if Vk s then MQ s.args (d+1) (n+1)else (n+1,5):=by
 cases s;rw[swk];rfl
def sst:List (Sm×Nat)->Nat->Nat×Int
 | [],n=>(n,0)
 | x::r,n=>if (swk x.1 x.2 n).2=0 then sst r (swk x.1 x.2 n).1 else swk x.1 x.2 n
theorem swks_st(d:Nat):∀(l:List Sm) (n:Nat),MQ l d n=sst (l.map (fun y=>(y,d))) n
 | [],_=>by rw[MQ];rfl
 | x::r,n=>by
  rw[MQ,swks_st d r];rfl
theorem sst_app:∀(l r:List (Sm×Nat)) (n:Nat),sst (l++r) n=if (sst l n).2=0 then sst r (sst l n).1 else sst l n
 | [],_,_=>rfl
 | x::l,r,n=>by
  show (if (swk x.1 x.2 n).2=0 then sst (l++r) (swk x.1 x.2 n).1 else swk x.1 x.2 n)=_
  rw[sst_app l r]
  grind[swk,sst]
theorem sst_out{s:Sm}{r:List (Sm×Nat)}(h:200<n+1\/40<d):sst ((s,d)::r) n=(n+1,1):=by
 have e:swk s d n=(n+1,1):=by rw[O5,if_pos h]
 show (if (swk s d n).2=0 then _ else swk s d n)=_;rw[e];rfl
theorem sst_bad{s:Sm}{r:List (Sm×Nat)}(h:¬(200<n+1\/40<d))(ho:¬Vk s):sst ((s,d)::r) n=(n+1,5):=by
 have e:swk s d n=(n+1,5):=by rw[O5,if_neg h,if_neg ho]
 show (if (swk s d n).2=0 then _ else swk s d n)=_;rw[e];rfl
theorem sst_go{s:Sm}{r:List (Sm×Nat)}(h:¬(200<n+1\/40<d))(ho:Vk s):sst ((s,d)::r) n=sst (s.args.map (fun y=>(y,d+1))++r) (n+1):=by
 grind[swk,sst,O5,swks_st,sst_app]
theorem sst_one(s:Sm)(d n:Nat):sst [(s,d)] n=swk s d n:=by
 show (if (swk s d n).2=0 then ((swk s d n).1,0)else swk s d n)=_
 grind
def smF(s:Sm):Int:=(swk s 1 0).2
inductive Ts where
 | b (t:Bool)
 | f (x y:Ts)
def Ts.sm:Ts->Sm
 | .b t=> .mk (if t then smT else smE) []
 | .f x y=> .mk ⟨#[]⟩ [x.sm,y.sm]
def Ts.size:Ts->Nat
 | .b _=>1
 | .f x y=>x.size+y.size+1
def Ts.eqb:Ts->Ts->Bool
 | .b s,.b t=>s==t
 | .f x y,.f p q=>x.eqb p&&y.eqb q
 | _,_=>false
theorem Ts.eqb_iff:∀ {a b:Ts},a.eqb b=true↔a=b
 | .b s,.b t=>by simp[Ts.eqb]
 | .f x y,.f p q=>by simp[Ts.eqb,Ts.eqb_iff (a:=x),Ts.eqb_iff (a:=y)]
 | .b s,.f p q=>by simp[Ts.eqb]
 | .f x y,.b t=>by simp[Ts.eqb]
theorem smOk_leaf{s:Sm}(h:Vk s)(hl:s.args.length=0):∃ t,s=(Ts.b t).sm:=by
 rcases h with ⟨hb,_⟩|⟨_,h2⟩
 ·have ha:s.args= []:=aK.1 hl
  rcases hb with hb|hb
  ·exact⟨false,by rw[Sm.eta s,hb,ha];rfl⟩
  ·exact⟨true,by rw[Sm.eta s,hb,ha];rfl⟩
 ·omega
mutual
theorem swk_ts:∀(s:Sm) (d n:Nat),(swk s d n).2=0->∃ τ:Ts,s=τ.sm/\(swk s d n).1=n+τ.size/\n+τ.size<=200
 | .mk b l,d,n,h=>by
  rw[swk]at h ⊢
  by_cases h1:200<n+1\/40<d
  ·rw[if_pos h1]at h;cases h
  ·rw[if_neg h1]at h ⊢
   by_cases h2:Vk (.mk b l)
   ·rw[if_pos h2]at h ⊢
    obtain⟨ts,e1,e2,e3⟩:=swks_ts l (d+1) (n+1) h oG
    match l,ts,e1,h2 with
    | [],ts,e1,h2=>
     obtain⟨t,ht⟩:=smOk_leaf h2 rfl
     cases ts with
     | nil=>exact⟨.b t,ht,e2,by simp[Ts.size]at e3 ⊢;omega⟩
     | cons a r=>cases e1
    | [x,y],[p,q],e1,h2=>
     simp only[List.map_cons,List.map_nil,List.cons.injEq,and_true]at e1
     rcases h2 with ⟨_,h2⟩|⟨h2,_⟩
     ·cases h2
     ·have h2:b=⟨#[]⟩:=h2
      simp only[List.map_cons,List.map_nil,List.sum_cons,List.sum_nil]at e2 e3
      refine⟨.f p q,?_,?_,?_⟩
      ·rw[h2,e1.1,e1.2];rfl
      ·rw[e2];show _=n+(p.size+q.size+1);omega
      ·show n+(p.size+q.size+1)<=200;omega
    | [x],ts,_,h2=>rcases h2 with ⟨_,h2⟩|⟨_,h2⟩<;>cases h2
    | x::y::z::r,ts,_,h2=>rcases h2 with ⟨_,h2⟩|⟨_,h2⟩<;>cases h2
   ·rw[if_neg h2]at h;cases h
theorem swks_ts:∀(l:List Sm) (d n:Nat),(MQ l d n).2=0->n<=200->∃ ts:List Ts,l=ts.map Ts.sm/\(MQ l d n).1=n+(ts.map Ts.size).sum/\n+(ts.map Ts.size).sum<=200
 | [],d,n,_,hn=>⟨[],rfl,by rw[MQ];rfl,hn⟩
 | x::r,d,n,h,hn=>by
  rw[MQ]at h ⊢
  by_cases h1:(swk x d n).2=0
  ·rw[if_pos h1]at h ⊢
   obtain⟨τ,e1,e2,e3⟩:=swk_ts x d n h1
   rw[e2]at h ⊢
   obtain⟨ts,k1,k2,k3⟩:=swks_ts r d (n+τ.size) h e3
   exact⟨τ::ts,by rw[e1,k1];rfl,by rw[k2];simp;omega,by simp;omega⟩
  ·rw[if_neg h1]at h;exact absurd h h1
end
theorem smF_ts{s:Sm}(h:smF s=0):∃ τ:Ts,s=τ.sm/\τ.size<=200:=by
 obtain⟨τ,e,_,e2⟩:=swk_ts s 1 0 h;exact⟨τ,e,by omega⟩
theorem Ts.sm_inj:∀ {a b:Ts},a.sm=b.sm->a=b
 | .b s,.b t,h=>by
  cases s<;>cases t<;>first|rfl|(exfalso;revert h;simp[Ts.sm,smE,smT])
 | .b s,.f x y,h=>by exfalso;revert h;cases s<;>simp[Ts.sm]
 | .f x y,.b t,h=>by exfalso;revert h;cases t<;>simp[Ts.sm]
 | .f x y,.f p q,h=>by
  simp only[Ts.sm,Sm.mk.injEq,List.cons.injEq,and_true,true_and]at h
  rw[Ts.sm_inj h.1,Ts.sm_inj h.2]
def Ts.txt:Ts->List UInt8
 | .b t=>if t then [116]else [101]
 | .f x y=>40::(x.txt++32::(y.txt++[41]))
theorem Ts.txt_le:∀ τ:Ts,τ.txt.length<=4*τ.size
 | .b t=>by cases t<;>simp[Ts.txt,Ts.size]
 | .f x y=>by
  have h1:=Ts.txt_le x
  have h2:=Ts.txt_le y
  grind[Ts.txt,Ts.size]
theorem Ts.txt_pre:∀ {a b:Ts} {p q:List UInt8},a.txt++p=b.txt++q->a=b/\p=q
 | .b s,.b t,p,q,h=>by cases s<;>cases t<;>simp_all[Ts.txt]
 | .b s,.f x y,p,q,h=>by cases s<;>simp[Ts.txt]at h
 | .f x y,.b t,p,q,h=>by cases t<;>simp[Ts.txt]at h
 | .f x y,.f u v,p,q,h=>by
  simp only[Ts.txt,List.cons_append,List.append_assoc,List.cons.injEq,true_and,List.nil_append]at h
  obtain⟨rfl,h2⟩:=Ts.txt_pre h
  simp only[List.cons.injEq,true_and]at h2
  obtain⟨rfl,h3⟩:=Ts.txt_pre h2
  grind
theorem Ts.txt_inj{a b:Ts}(h:a.txt=b.txt):a=b:=(Ts.txt_pre (p:=[]) (q:=[]) (by rw[h])).1
inductive Tm where
 | mk (kind:Int) (name:ByteArray) (index:Int) (type:Sm) (args:List Tm)
def Tm.kind:Tm->Int | .mk k _ _ _ _=>k
def Tm.name:Tm->ByteArray | .mk _ n _ _ _=>n
def Tm.index:Tm->Int | .mk _ _ i _ _=>i
def Tm.type:Tm->Sm | .mk _ _ _ t _=>t
def Tm.args:Tm->List Tm | .mk _ _ _ _ a=>a
theorem Tm.eta(t:Tm):t= .mk t.kind t.name t.index t.type t.args:=by cases t;rfl
mutual
inductive TmAt(w:World):Nat->Nat->Tm->Prop
 | mk {b o:Nat} {k i:Int} {nm:ByteArray} {s:Sm} {args:List Tm} {A B:Option Addr} {c d:Nat} (hb:b<w.heap.size) (h:w.rangeAt b o [.int .i64 k,.string nm,.int .i64 i,.string s.base,.slice A s.args.length c,.slice B (List.length args) d]) (hs:SimsIn w A s.args) (ht:TmsIn w B args):TmAt w b o (.mk k nm i s args)
inductive TmsIn(w:World):Option Addr->List Tm->Prop
 | nil {A:Option Addr}:TmsIn w A []
 | more {b o:Nat} {args:List Tm} (hl:args.length<=vJ) (hb:b<w.heap.size) (h:∀ k (hk:k<args.length),TmAt w b (o+k*6) args[k]):TmsIn w (some ⟨b,o,none⟩) args
end
theorem TmAt.both(hw:Bel w w'):(∀ {b o:Nat} {s:Tm},TmAt w b o s->TmAt w' b o s)/\∀ {A:Option Addr} {l:List Tm},TmsIn w A l->TmsIn w' A l:=by
 have h1:∀ {b o:Nat} {s:Tm} (h:TmAt w b o s),TmAt w' b o s:=fun h=>
  TmAt.rec (motive_1:=fun b o s _=>TmAt w' b o s) (motive_2:=fun A l _=>TmsIn w' A l)
   (fun hb h hs _ ih=> .mk (nLL hb hw.size) (hw.range hb h) (hs.mono hw) ih) .nil (fun hl hb _ ih=> .more hl (nLL hb hw.size) ih) h
 have h2:∀ {A:Option Addr} {l:List Tm} (h:TmsIn w A l),TmsIn w' A l:=fun h=>
  TmsIn.rec (motive_1:=fun b o s _=>TmAt w' b o s) (motive_2:=fun A l _=>TmsIn w' A l)
   (fun hb h hs _ ih=> .mk (nLL hb hw.size) (hw.range hb h) (hs.mono hw) ih) .nil (fun hl hb _ ih=> .more hl (nLL hb hw.size) ih) h
 exact⟨h1,h2⟩
theorem TmAt.mono{o:Nat}{s:Tm}(h:TmAt w b o s)(hw:Bel w w'):TmAt w' b o s:=(TmAt.both hw).1 h
theorem TmsIn.mono{l:List Tm}(h:TmsIn w A l)(hw:Bel w w'):TmsIn w' A l:=(TmAt.both hw).2 h
theorem TmsIn.le{l:List Tm}(h:TmsIn w A l):l.length<=vJ:=by
 cases h with
 | nil=>exact ag _
 | more hl=>exact hl
theorem TmsIn.at_{l:List Tm}(h:TmsIn w A l){k:Nat}(hk:k<l.length):∃ b o A' c B d,A=some ⟨b,o,none⟩/\b<w.heap.size/\w.rangeAt b (o+k*6) [Value.int .i64 (l[k]).kind,.string (l[k]).name,.int .i64 (l[k]).index,.string (l[k]).type.base,.slice A' (l[k]).type.args.length c,.slice B (l[k]).args.length d]/\SimsIn w A' (l[k]).type.args/\TmsIn w B (l[k]).args:=by
 cases h with
 | nil=>simp at hk
 | @more b o _ _ hb h=>
  have hx:=h k hk
  generalize l[k]=s at hx
  cases hx with
  | mk _ hr hs ht=>exact⟨b,o,_,_,_,_,rfl,hb,hr,hs,ht⟩
def Mz(s:Sm):Prop:=s.base=⟨#[]⟩/\s.args.length=0
instance(s:Sm):Decidable (Mz s):=by unfold Mz;infer_instance
def ndC(b:Nat)(t:Tm):Int:=
 if t.kind=1 then (if t.index=0/\t.args.length=0 then (if yJ t.name=true then (if smF t.type=0 then 0 else 12)else 10)else 5)
 else if t.kind=2 then (if t.name=⟨#[]⟩/\Mz t.type/\t.args.length=0 then (if t.index<0\/(b:Int)<=t.index then 15 else 0)else 5)
 else if t.kind=3 then (if t.name=⟨#[]⟩/\t.index=0/\t.args.length=1 then (if smF t.type=0 then 0 else 12)else 5)
 else if t.kind=4 then (if t.name=⟨#[]⟩/\t.index=0/\Mz t.type/\t.args.length=2 then 0 else 5)
 else 4
theorem ndC_mk(b:Nat)(k:Int)(nm:ByteArray)(i:Int)(s:Sm)(l:List Tm):ndC b (.mk k nm i s l) =
 if k=1 then (if i=0/\l.length=0 then (if yJ nm=true then (if smF s=0 then 0 else 12)else 10)else 5)
 else if k=2 then (if nm=⟨#[]⟩/\Mz s/\l.length=0 then (if i<0\/(b:Int)<=i then 15 else 0)else 5)
 else if k=3 then (if nm=⟨#[]⟩/\i=0/\l.length=1 then (if smF s=0 then 0 else 12)else 5)
 else if k=4 then (if nm=⟨#[]⟩/\i=0/\Mz s/\l.length=2 then 0 else 5)
 else 4:=rfl
def inB(t:Tm)(b:Nat):Nat:=if t.kind=3 then b+1 else b
mutual
def twk:Tm->Nat->Nat->Nat->Nat×Fl
 | .mk k nm i s l,d,b,n=>if 200<n+1\/40<d then (n+1,(1,(n:Int)))else if ndC b (.mk k nm i s l)=0 then V6 l (d+1) (inB (.mk k nm i s l) b) (n+1)else (n+1,(ndC b (.mk k nm i s l),(n:Int)))
def V6:List Tm->Nat->Nat->Nat->Nat×Fl
 | [],_,_,n=>(n,(0,0))
 | x::r,d,b,n=>if (twk x d b n).2.1=0 then V6 r d b (twk x d b n).1 else twk x d b n
end
theorem J6(t:Tm)(d b n:Nat):twk t d b n=if 200<n+1\/40<d then (n+1,(1,(n:Int)))else if ndC b t=0 then V6 t.args (d+1) (inB t b) (n+1)else (n+1,(ndC b t,(n:Int))):=by
 cases t;rw[twk];rfl
def tst:List (Tm×Nat×Nat)->Nat->Nat×Fl
 | [],n=>(n,(0,0))
 | x::r,n=>if (twk x.1 x.2.1 x.2.2 n).2.1=0 then tst r (twk x.1 x.2.1 x.2.2 n).1 else twk x.1 x.2.1 x.2.2 n
theorem twks_st(d b:Nat):∀(l:List Tm) (n:Nat),V6 l d b n=tst (l.map (fun y=>(y,d,b))) n
 | [],_=>by rw[V6];rfl
 | x::r,n=>by
  rw[V6,twks_st d b r];rfl
theorem tst_app:∀(l r:List (Tm×Nat×Nat)) (n:Nat),tst (l++r) n=if (tst l n).2.1=0 then tst r (tst l n).1 else tst l n
 | [],_,_=>rfl
 | x::l,r,n=>by
  show (if (twk x.1 x.2.1 x.2.2 n).2.1=0 then tst (l++r) (twk x.1 x.2.1 x.2.2 n).1 else twk x.1 x.2.1 x.2.2 n)=_
  rw[tst_app l r]
  show _=if (if (twk x.1 x.2.1 x.2.2 n).2.1=0 then tst l (twk x.1 x.2.1 x.2.2 n).1 else twk x.1 x.2.1 x.2.2 n).2.1=0 then tst r (if (twk x.1 x.2.1 x.2.2 n).2.1=0 then tst l (twk x.1 x.2.1 x.2.2 n).1 else twk x.1 x.2.1 x.2.2 n).1 else (if (twk x.1 x.2.1 x.2.2 n).2.1=0 then tst l (twk x.1 x.2.1 x.2.2 n).1 else twk x.1 x.2.1 x.2.2 n)
  by_cases h:(twk x.1 x.2.1 x.2.2 n).2.1=0
  ·simp only[if_pos h]
  ·simp only[if_neg h]
theorem tst_out{t:Tm}{r:List (Tm×Nat×Nat)}(h:200<n+1\/40<d):tst ((t,d,b)::r) n=(n+1,(1,(n:Int))):=by
 have e:twk t d b n=(n+1,(1,(n:Int))):=by rw[J6,if_pos h]
 show (if (twk t d b n).2.1=0 then _ else twk t d b n)=_;rw[e];rfl
theorem tst_bad{t:Tm}{r:List (Tm×Nat×Nat)}(h:¬(200<n+1\/40<d))(ho:ndC b t≠0):tst ((t,d,b)::r) n=(n+1,(ndC b t,(n:Int))):=by
 have e:twk t d b n=(n+1,(ndC b t,(n:Int))):=by rw[J6,if_neg h,if_neg ho]
 show (if (twk t d b n).2.1=0 then _ else twk t d b n)=_;rw[e,if_neg ho]
theorem twks_z:∀(l:List Tm) (d b n:Nat),(V6 l d b n).2.1=0->(V6 l d b n).2=(0,0)
 | [],_,_,_,_=>by rw[V6]
 | .mk k nm i s a::r,d,b,n,h=>by
  rw[V6]at h ⊢
  by_cases h1:(twk (.mk k nm i s a) d b n).2.1=0
  ·rw[if_pos h1]at h ⊢;exact twks_z r d b _ h
  ·rw[if_neg h1]at h;exact absurd h h1
theorem twk_z{t:Tm}(h:(twk t d b n).2.1=0):(twk t d b n).2=(0,0):=by
 rw[J6]at h ⊢;by_cases h1:200<n+1\/40<d
 ·rw[if_pos h1]at h;cases h
 ·rw[if_neg h1]at h ⊢
  by_cases h2:ndC b t=0
  ·rw[if_pos h2]at h ⊢;exact twks_z _ _ _ _ h
  ·rw[if_neg h2]at h;exact absurd h h2
theorem tst_go{t:Tm}{r:List (Tm×Nat×Nat)}(h:¬(200<n+1\/40<d))(ho:ndC b t=0):tst ((t,d,b)::r) n=tst (t.args.map (fun y=>(y,d+1,inB t b))++r) (n+1):=by
 have e:twk t d b n=tst (t.args.map (fun y=>(y,d+1,inB t b))) (n+1):=by rw[J6,if_neg h,if_pos ho,twks_st]
 rw[tst_app,<- e];rfl
theorem tst_one(t:Tm)(d b n:Nat):tst [(t,d,b)] n=twk t d b n:=by
 show (if (twk t d b n).2.1=0 then ((twk t d b n).1,(0,0))else twk t d b n)=_;by_cases h:(twk t d b n).2.1=0
 ·rw[if_pos h,<- twk_z h]
 ·rw[if_neg h]
inductive Tv where
 | con (nm:ByteArray) (τ:Ts)
 | var (i:Nat)
 | abs (τ:Ts) (x:Tv)
 | app (x y:Tv)
def smZ:Sm:= .mk ⟨#[]⟩ []
def Tv.tm:Tv->Tm
 | .con nm τ=> .mk 1 nm 0 τ.sm []
 | .var i=> .mk 2 ⟨#[]⟩ i smZ []
 | .abs τ x=> .mk 3 ⟨#[]⟩ 0 τ.sm [x.tm]
 | .app x y=> .mk 4 ⟨#[]⟩ 0 smZ [x.tm,y.tm]
def Tv.size:Tv->Nat
 | .con _ _=>1
 | .var _=>1
 | .abs _ x=>x.size+1
 | .app x y=>x.size+y.size+1
theorem Tv.pos(v:Tv):0<v.size:=by cases v<;>simp[Tv.size]
def Tv.ok:Nat->Tv->Prop
 | _,.con _ τ=>τ.size<=200
 | b,.var i=>i<b
 | b,.abs τ x=>τ.size<=200/\x.ok (b+1)
 | b,.app x y=>x.ok b/\y.ok b
theorem smNo_z{s:Sm}(h:Mz s):s=smZ:=by
 rw[Sm.eta s,h.1,List.length_eq_zero_iff.1 h.2];rfl
theorem nil_of{α:Type}{l:List α}(h:l.length=0):l= []:=aK.1 h
mutual
theorem RZ:∀(t:Tm) (d b n:Nat),(twk t d b n).2.1=0->∃ v:Tv,t=v.tm/\v.ok b/\(twk t d b n).1=n+v.size/\n+v.size<=200
 | .mk k nm i s l,d,b,n,h=>by
  rw[twk]at h ⊢
  by_cases h1:200<n+1\/40<d
  ·rw[if_pos h1]at h;cases h
  rw[if_neg h1]at h ⊢
  by_cases h2:ndC b (.mk k nm i s l)=0
  ·rw[if_pos h2]at h ⊢
   obtain⟨vs,e1,e0,e2,e3⟩:=twks_tv l (d+1) (inB (.mk k nm i s l) b) (n+1) h oG
   rw[e2]
   rw[ndC_mk]at h2
   by_cases k1:k=1
   ·subst k1
    rw[if_pos rfl]at h2
    by_cases q:i=0/\l.length=0
    ·rw[if_pos q]at h2
     obtain⟨rfl,q2⟩:=q
     obtain rfl:=nil_of q2
     by_cases q3:yJ nm=true
     ·rw[if_pos q3]at h2
      by_cases q4:smF s=0
      ·obtain⟨τ,rfl,hτ⟩:=smF_ts q4
       obtain rfl:vs= []:=by cases vs with|nil=>rfl|cons a r=>cases e1
       exact⟨.con nm τ,rfl,hτ,by simp[Tv.size],by simp[Tv.size];omega⟩
      ·rw[if_neg q4]at h2;cases h2
     ·rw[if_neg q3]at h2;cases h2
    ·rw[if_neg q]at h2;cases h2
   rw[if_neg k1]at h2
   by_cases k2:k=2
   ·subst k2
    rw[if_pos rfl]at h2
    by_cases q:nm=⟨#[]⟩/\Mz s/\l.length=0
    ·rw[if_pos q]at h2
     obtain⟨rfl,qs,q2⟩:=q
     obtain rfl:=nil_of q2
     obtain rfl:=smNo_z qs
     by_cases q3:i<0\/(b:Int)<=i
     ·rw[if_pos q3]at h2;cases h2
     ·obtain⟨j,rfl⟩:∃ j:Nat,i=j:=⟨i.toNat,by omega⟩
      obtain rfl:vs= []:=by cases vs with|nil=>rfl|cons a r=>cases e1
      exact⟨.var j,rfl,show j<b by omega,by simp[Tv.size],by simp[Tv.size];omega⟩
    ·rw[if_neg q]at h2;cases h2
   rw[if_neg k2]at h2
   by_cases k3:k=3
   ·subst k3
    rw[if_pos rfl]at h2
    by_cases q:nm=⟨#[]⟩/\i=0/\l.length=1
    ·rw[if_pos q]at h2
     obtain⟨rfl,rfl,q2⟩:=q
     by_cases q4:smF s=0
     ·obtain⟨τ,rfl,hτ⟩:=smF_ts q4
      match l,vs,e1,q2 with
      | [x],[v],e1,_=>
       simp only[List.map_cons,List.map_nil,List.cons.injEq,and_true]at e1
       simp only[List.map_cons,List.map_nil,List.sum_cons,List.sum_nil]at e3 ⊢
       have eb:=e0 v (aq.2 rfl)
       have a1:inB (.mk 3 ⟨#[]⟩ 0 τ.sm [x]) b=b+1:=rfl
       rw[a1]at eb
       exact⟨.abs τ v,by rw[e1];rfl,⟨hτ,eb⟩,by simp only[Tv.size];omega,by simp only[Tv.size];omega⟩
     ·rw[if_neg q4]at h2;cases h2
    ·rw[if_neg q]at h2;cases h2
   rw[if_neg k3]at h2
   by_cases k4:k=4
   ·subst k4
    rw[if_pos rfl]at h2
    by_cases q:nm=⟨#[]⟩/\i=0/\Mz s/\l.length=2
    ·obtain⟨rfl,rfl,qs,q2⟩:=q
     obtain rfl:=smNo_z qs
     match l,vs,e1,q2 with
     | [x,y],[v,u],e1,_=>
      simp only[List.map_cons,List.map_nil,List.cons.injEq,and_true]at e1
      simp only[List.map_cons,List.map_nil,List.sum_cons,List.sum_nil]at e3 ⊢
      have eb:=e0 v (by simp)
      have eu:=e0 u (by simp)
      have a1:inB (.mk 4 ⟨#[]⟩ 0 smZ [x,y]) b=b:=rfl
      rw[a1]at eb eu
      exact⟨.app v u,by rw[e1.1,e1.2];rfl,⟨eb,eu⟩,by simp only[Tv.size];omega,by simp only[Tv.size];omega⟩
    ·rw[if_neg q]at h2;cases h2
   ·rw[if_neg k4]at h2;cases h2
  ·rw[if_neg h2]at h;exact absurd h h2
theorem twks_tv:∀(l:List Tm) (d b n:Nat),(V6 l d b n).2.1=0->n<=200->∃ vs:List Tv,l=vs.map Tv.tm/\(∀ v∈vs,v.ok b)/\(V6 l d b n).1=n+(vs.map Tv.size).sum/\n+(vs.map Tv.size).sum<=200
 | [],d,b,n,_,hn=>⟨[],rfl,(fun _ h=>by cases h),(by rw[V6];rfl),hn⟩
 | x::r,d,b,n,h,hn=>by
  rw[V6]at h ⊢
  by_cases h1:(twk x d b n).2.1=0
  ·rw[if_pos h1]at h ⊢
   obtain⟨v,e1,e0,e2,e3⟩:=RZ x d b n h1
   rw[e2]at h ⊢
   obtain⟨vs,k1,k0,k2,k3⟩:=twks_tv r d b (n+v.size) h e3
   refine⟨v::vs,by rw[e1,k1];rfl,fun u hu=>?_,by rw[k2];simp;omega,by simp;omega⟩
   rcases ax.1 hu with rfl|hu
   ·exact e0
   ·exact k0 u hu
  ·rw[if_neg h1]at h;exact absurd h h1
end
theorem Tv.tm_inj:∀ {a b:Tv},a.tm=b.tm->a=b
 | .con n s,.con m t,h=>by
  simp only[Tv.tm,Tm.mk.injEq,and_true,true_and]at h
  rw[h.1,Ts.sm_inj h.2]
 | .var i,.var j,h=>by
  simp only[Tv.tm,Tm.mk.injEq,and_true,true_and]at h
  rw[show i=j by omega]
 | .abs s x,.abs t y,h=>by
  simp only[Tv.tm,Tm.mk.injEq,List.cons.injEq,and_true,true_and]at h
  rw[Ts.sm_inj h.1,Tv.tm_inj h.2]
 | .app x y,.app u v,h=>by
  simp only[Tv.tm,Tm.mk.injEq,List.cons.injEq,and_true,true_and]at h
  rw[Tv.tm_inj h.1,Tv.tm_inj h.2]
 | .con _ _,.var _,h=>by simp[Tv.tm]at h
 | .con _ _,.abs _ _,h=>by simp[Tv.tm]at h
 | .con _ _,.app _ _,h=>by simp[Tv.tm]at h
 | .var _,.con _ _,h=>by simp[Tv.tm]at h
 | .var _,.abs _ _,h=>by simp[Tv.tm]at h
 | .var _,.app _ _,h=>by simp[Tv.tm]at h
 | .abs _ _,.con _ _,h=>by simp[Tv.tm]at h
 | .abs _ _,.var _,h=>by simp[Tv.tm]at h
 | .abs _ _,.app _ _,h=>by simp[Tv.tm]at h
 | .app _ _,.con _ _,h=>by simp[Tv.tm]at h
 | .app _ _,.var _,h=>by simp[Tv.tm]at h
 | .app _ _,.abs _ _,h=>by simp[Tv.tm]at h
def tyv:List Ts->Tv->Option Ts
 | _,.con _ τ=>some τ
 | Γ,.var i=>Γ[i]?
 | Γ,.abs τ x=>(tyv (τ::Γ) x).map (.f τ)
 | Γ,.app x y=>match tyv Γ x,tyv Γ y with
  | some (.f a r),some z=>if a.eqb z=true then some r else none
  | _,_=>none
theorem C1:∀ {v:Tv} {Γ:List Ts} {τ:Ts},v.ok Γ.length->(∀ σ∈Γ,σ.size<=200)->tyv Γ v=some τ->τ.size<=201*v.size
 | .con _ τ,Γ,τ',h,_,e=>by
  obtain rfl:τ=τ':=Option.some.inj e
  have:τ.size<=200:=h
  simp only[Tv.size];omega
 | .var i,Γ,τ,h,hG,e=>by
  have:=hG τ (List.mem_of_getElem? e)
  simp only[Tv.size];omega
 | .abs σ x,Γ,τ,h,hG,e=>by
  simp only[tyv,Option.map_eq_some_iff]at e
  obtain⟨ρ,e1,rfl⟩:=e
  have h1:=C1 (v:=x) (Γ:=σ::Γ) h.2 (fun q hq=>by
   rcases ax.1 hq with rfl|hq
   ·exact h.1
   ·exact hG q hq) e1
  have:=h.1
  simp only[Tv.size,Ts.size];omega
 | .app x y,Γ,τ,h,hG,e=>by
  simp only[tyv]at e
  split at e
  ·rename_i a r z h1 h2
   split at e
   ·obtain rfl:r=τ:=Option.some.inj e
    have h3:=C1 (v:=x) h.1 hG h1
    simp only[Tv.size,Ts.size]at h3 ⊢;omega
   ·cases e
  ·cases e
open Classical in
noncomputable def tmF(t:Tm):Fl:=if (twk t 1 0 0).2.1=0 then (if ∃ v τ,t=Tv.tm v/\tyv [] v=some τ then (0,0)else (12,-1))else (twk t 1 0 0).2
theorem tmF_bad{t:Tm}(h:¬(twk t 1 0 0).2.1=0):tmF t=(twk t 1 0 0).2:=by unfold tmF;rw[if_neg h]
theorem tmF_ok{v:Tv}(h:(twk v.tm 1 0 0).2.1=0):tmF v.tm=if (tyv [] v).isSome then (0,0)else (12,-1):=by
 unfold tmF;rw[if_pos h];cases e:tyv [] v with
 | none=>
  rw[if_neg]
  ·rfl
  ·rintro⟨u,τ,h1,h2⟩
   rw[<- Tv.tm_inj h1,e]at h2;cases h2
 | some τ=>rw[if_pos ⟨v,τ,rfl,e⟩];rfl
end Go.Proofs.YtgcgnkmmbecfmaaGreatDoor
