/- What these functions compute, at every world: (*unify.pool).graph, unify.Into, unify.sized, unify.Unify; and plain laws. -/
import Derived.Test.YtiofaflajkgiaaaGreatDoorU
import Derived.Test.YtiofaflajkgiaaaGreatDoorZst
import Derived.Test.YtiofaflajkgiaaaGreatDoorPJoin
namespace Go.Proofs.YtiofaflajkgiaaaGreatDoor
open Go.RowKit Go.Proofs.Tryz
set_option maxHeartbeats 2000000
theorem pool_gok2{l:List Ty}{U:List Nd}{J:List (Nat×Nat)}{P rep ρ:Nat->Nat}{T:Nat->Int}{L:Nat->List (Int×Int)}{nf:Nat}(h:US l U J P rep ρ T L [])(hp:0<U.length)(hn:U.length<=1000000)(hUf:∀ i,i<U.length->∀ z∈(nd U i).ln,0<=z.1/\z.1<nf):B4 nf (yy U.length rep T L):=by
 have hL:∀ i,i<U.length->rep i=i->∀ z∈L i,0<=z.1/\z.1<nf:=fun i hi hr z hz=>by
  obtain⟨u,hu,_,hm⟩:=h.val i hi hr z hz;exact hUf u hu z hm
 refine⟨by rw[yK];exact hp,by rw[yK];exact hn,fun i hi x hx=>?_,fun i hi=>?_⟩
 ·rw[<- yV hi]at hx
  rw[yK]at hi ⊢;rw[gX hi]at hx
  dsimp only at hx
  split at hx
  ·rename_i hri
   obtain⟨y,hy,rfl⟩:=au.1 hx;obtain⟨u,hu,_,hm⟩:=h.val i hi hri y hy;have h1:=hL i hi hri y hy;have h2:=h.ur u hu y hm;have h3:=h.uf.rl _ h2.2;simp only;omega
  ·cases hx
 ·rw[<- yV hi]
  rw[yK]at hi;rw[gX hi]
  dsimp only
  split
  ·rename_i hri
   rw[List.length_map];have:=N0 (nf:=nf) (lo:=0) (h.srt i hi) (hL i hi hri) (aK _) oG;omega
  ·exact ag _
theorem fromn_any(G:Option Addr)(cg nf:Nat)(gr:List Nd)(r n:Nat)(w:World)(hG:NodesIn w G gr)(hn:gr.length=n)(hk:B4 nf gr)(hnf:nf<=1000)(hr:r<gr.length):Calls Tryz.prog 95 #[.agg #[.slice G n cg],.int .i64 r] w fun e w'=>(∃ o A,DL gr [r] [] o/\OOk gr.length o/\e= .returned (.agg #[.slice A o.length o.length])/\(∀ w2,FrSame w.heap.size w' w2->NodesIn w2 A (yQ gr o)))/\Bel w w':=by
 subst hn;exact Sq G cg nf gr r w hG hk hnf hr
theorem OZ:(Tryz.prog.info? 93).map (fun i=>(i.zero,i.size,i.bytes))=some (some (.agg #[.int .i64 0,.slice none 0 0]),2,32):=by kernel_rfl
set_option maxRecDepth 100000 in
set_option maxHeartbeats 4000000 in
theorem G8{ob bp n nf r:Nat}{c0 c1:Value}{PA TA LA:Option Addr}{cp ct cl:Nat}{P rep ρ:Nat->Nat}{T:Nat->Int}{V:Nat->Value}{L:Nat->List (Int×Int)}(w:World)(hp:PoolAt w ob bp c0 c1 n PA TA LA cp ct cl P T V L)(hu:UF n P rep ρ)(er:bp<ob)(hob:ob<=w.heap.size)(hn:n<=1000000)(hnf:nf<=1000)(hG2:B4 nf (yy n rep T L))(e7:r<n)(hLr:∀ i,i<n->rep i=i->∀ z∈L i,0<=z.2/\z.2.toNat<n)(hLl:∀ i,i<n->rep i=i->(L i).length<=nf):Calls Tryz.prog 66 #[.pointer (some ⟨bp,0,none⟩),.int .i64 (r:Nat)] w fun e w'=>(∃ o A,DL (yy n rep T L) [rep r] [] o/\e= .returned (.agg #[.slice A o.length o.length])/\∀ w2,FrSame w.heap.size w' w2->NodesIn w2 A (yQ (yy n rep T L) o))/\Chg ob [bp] w w'/\ob<=w'.heap.size:=by
 have hlob:w.heap.size<=w.heap.size:=ae _;obtain⟨ad,a2,a5,a6,a9,a8⟩:=hp;obtain⟨qp,rfl,hqp,em,_⟩:=a2.rowc e7;obtain⟨qt,rfl,hqt,el,_⟩:=a5.rowc e7;obtain⟨ql,rfl,hql,en,_⟩:=a6.rowc e7;obtain⟨zb,d5⟩:∃ b,b=w.heap.size:=⟨_,rfl⟩
 rw[<- d5]at a9;have a4:zb<=w.heap.size:=aC d5;have eq:=ad.lt;rw[<- d5]at em el en eq;have a1:Chg ob [bp] w w/\ob<=w.heap.size:=⟨Chg.refl _ _ _,hob⟩
 rw[<- d5];refine enter Tryz.func66 Tryz.ntmps66 rfl (ay rfl) (zn2 ?_);refine qk (cs:=#[.slice none 0 0]) jY rfl (fun b4 w1 b1 t1 hr=>?_);have:=nLL ad.lt hr;have bf:=(fun(g:Nat) hg=>nLL (a2.lt g hg).2 hr)
 have dp:=(fun(g:Nat) hg=>nLL (a5.lt g hg).2 hr)
 have dq:=(fun(g:Nat) hg=>nLL (a6.lt g hg).2 hr)
 have dx:=(nLT a1.2 hr)
 have cn:=(nLT a4 hr)
 replace a9:=fun x hx=>(a9 x hx).tr t1 (by simp)
 replace a1:=And.intro (a1.1.st t1 a1.2 (by simp)) (nLT a1.2 (Same.size t1));replace a4:=nLT a4 (Same.size t1);refine zn4 ?_;refine qk (cs:=#[.slice none 0 0]) jY rfl (fun b5 w2 an t2 hr=>?_);replace ad:=ad.tr0 t1;have:=nLL ad.lt hr;replace a2:=a2.tr0 t1;have b8:=(fun(g:Nat) hg=>nLL (a2.lt g hg).2 hr)
 replace a5:=a5.tr0 t1;have bj:=(fun(g:Nat) hg=>nLL (a5.lt g hg).2 hr)
 replace a6:=a6.tr0 t1;have bn:=(fun(g:Nat) hg=>nLL (a6.lt g hg).2 hr)
 have dw:=(nLT a1.2 hr)
 have bh:=(nLT a4 hr)
 have:=nLL b1.lt hr;replace a9:=fun x hx=>(a9 x hx).tr t2 (by simp)
 replace a1:=And.intro (a1.1.st t2 a1.2 (by simp)) (nLT a1.2 (Same.size t2));replace a4:=nLT a4 (Same.size t2);refine zn4 ?_;have hlo45:=cn;have hlo5b:=bh;have hloN:zb<=b5+1:=aN bh;refine ZV (wl (xz (v:= .pointer (some _)) rfl) (wl (X1 rfl) (zn7 ?_)));replace ad:=ad.tr0 t2;replace a2:=a2.tr0 t2;replace a5:=a5.tr0 t2;replace a6:=a6.tr0 t2;refine qj (rg [6,7,9] 15 48) (fun m g w'=>∃(k:Nat) (AN:Option Addr) (cc:Nat) (Vn:Nat->Value) (P:Nat->Nat),k<=n/\m=n-k/\g 15= .int .i64 k/\Blk w' b4 28 #[.slice none 0 0]/\Blk w' b5 28 #[.slice AN k cc]/\Blk w' bp 128 #[c0,c1,.slice (some ⟨qp,0,none⟩) n cp,.slice (some ⟨qt,0,none⟩) n ct,.slice (some ⟨ql,0,none⟩) n cl]/\Own w' ob 3 1 (some ⟨qp,0,none⟩) n cp (jq n (vN P))/\Own w' ob 3 1 (some ⟨qt,0,none⟩) n ct (jq n (vI T))/\Own w' ob 91 1 (some ⟨ql,0,none⟩) n cl (jq n V)/\(∀ x,x<n->RowO w' ob zb (V x) (L x))/\UF n P rep ρ/\(Chg ob [bp] w w'/\ob<=w'.heap.size)/\zb<=w'.heap.size/\Own w' (b5+1) 93 2 AN k cc (ndV (vI T) Vn k)/\(∀ x,x<k->RowO w' zb w'.heap.size (Vn x) (nd (yy n rep T L) x).ln)) (n) ?_ (fun m g3 w3 hI=>?_)
 ·exact⟨0,none,0,fun _=> .slice none 0 0,P,ag _,rfl,rfl,b1.u,an,ad,a2,a5,a6,a9,hu,a1,a4,Own.nil _ _ _ _,fun x hx=>by omega⟩
 obtain⟨k,AN,cc,Vn,P,hkk,hm,h15,b1,an,ad,a2,a5,a6,a9,hu,a1,a4,a3,b3⟩:=hI;obtain⟨bs,dk⟩:∃ b,b=w3.heap.size:=⟨_,rfl⟩
 rw[<- dk]at b3;have b2:bs<=w3.heap.size:=aC dk;have lu5:=an.lt;have lu4:=b1.lt;have luN:=fun g hg=>(a3.lt g hg).2
 have eh:=a4;rw[<- dk]at lu5 lu4 luN eh;refine zK 15 _ h15 nu (zn6 ?_);refine zV rfl (fun c16=>?_) (fun c16=>?_)
 ·have cy:k<n:=by omega
  refine jz ?_;refine wl (xz (v:= .pointer (some _)) rfl) (wl (X1 rfl) (zn3 ?_));refine wl (xX (i:=k) U68 qV rfl rfl cy rfl) (wl (qW (v:= .int _ _) U3 rfl rfl (a5.rowq cy)) (wl (ZY (v0:= .int _ _) (fun v0=>#[v0,.slice none 0 0]) rfl kR) ?_));refine qk (cs:=#[.int .i64 0,.slice none 0 0]) I2 rfl (fun b7 w4 be t3 hr=>?_);have:=nLL ad.lt hr;have b6:=(fun(g:Nat) hg=>nLL (a2.lt g hg).2 hr)
  have bi:=(fun(g:Nat) hg=>nLL (a5.lt g hg).2 hr)
  have bm:=(fun(g:Nat) hg=>nLL (a6.lt g hg).2 hr)
  have dv:=(nLT a1.2 hr)
  have cm:=(nLT a4 hr)
  have:=nLL b1.lt hr;have:=nLL an.lt hr;have bc:=(fun(g:Nat) hg=>nLL (a3.lt g hg).2 hr)
  have cu:=(nLT b2 hr)
  replace a9:=fun x hx=>(a9 x hx).tr t3 (by simp)
  replace a1:=And.intro (a1.1.st t3 a1.2 (by simp)) (nLT a1.2 (Same.size t3));replace a4:=nLT a4 (Same.size t3);replace b3:=fun x hx=>(b3 x hx).tr t3 (by simp)
  replace b2:=nLT b2 (Same.size t3);refine zk be rfl rfl oK rfl zJ (fun w5 hq t4=>?_);replace a2:=a2.tr0 t3;replace a2:=a2.tr1 t4 (fun g hg=>by have:=(a2.lt g hg).1;(try have:=b6 g hg);omega);replace a5:=a5.tr0 t3;replace a5:=a5.tr1 t4 (fun g hg=>by have:=(a5.lt g hg).1;(try have:=bi g hg);omega);replace a6:=a6.tr0 t3;replace a6:=a6.tr1 t4 (fun g hg=>by have:=(a6.lt g hg).1;(try have:=bm g hg);omega);replace a9:=fun x hx=>(a9 x hx).tr t4 (fun g hg=>by rw[List.mem_singleton.1 hg];first|exact .inr ⟨_,_,be,by decide⟩|exact .inl oG)
  replace a1:=And.intro (a1.1.st t4 a1.2 (fun g hg=>by have h1:=aj.1 hg;first|(left;rw[h1];simp;done)|(right;omega))) (nLT a1.2 (Same.size t4));replace a4:=nLT a4 (Same.size t4);replace a3:=a3.tr0 t3;replace a3:=a3.tr1 t4 (fun g hg=>by have:=(a3.lt g hg).1;(try have:=bc g hg);omega);replace b3:=fun x hx=>(b3 x hx).tr t4 (fun g hg=>by rw[List.mem_singleton.1 hg];first|exact .inr ⟨_,_,be,by decide⟩|exact .inl oG)
  replace b2:=nLT b2 (Same.size t4);replace be:=hq;refine zn4 ?_;have ep:zb<=b7+1:=aN cm;have hbsb7:bs<=b7:=cu;refine ZV (wl (xz (v:= .pointer (some _)) rfl) (wmI rfl ?_));replace ad:=(ad.tr0 t3).tr1 t4 oG;refine zW kR (V0 _ ad a2 er hu cy) rfl (fun e' w6 hr=>?_);obtain⟨P1,rfl,eo,dz,t5⟩:=hr;replace ad:=ad.ta t5 a2;replace a5:=a5.tr t5 (fun g hg hx=>by first|exact xj a5 a2 dE g hg hx|exact a8 g hg hx|exact a8 g hx hg|(have h1:=(a2.lt g hx).1;(try have:=hzz g hg);omega));replace a6:=a6.tr t5 (fun g hg hx=>by first|exact xj a6 a2 dE g hg hx|exact a8 g hg hx|exact a8 g hx hg|(have h1:=(a2.lt g hx).1;(try have:=hzz g hg);omega));replace a9:=fun x hx=>(a9 x hx).tr t5 (fun g hg=>by first|exact .inl (by have:=((a2).lt g hg).1;omega)|(obtain⟨cs,h⟩:=(a2).typ g hg;exact .inr ⟨_,_,h,by decide⟩))
  replace a1:=And.intro (a1.1.st t5 a1.2 (fun g hg=> .inr (by have:=((a2).lt g hg).1;omega))) (nLT a1.2 (Same.size t5));replace a4:=nLT a4 (Same.size t5);replace b1:=(b1.tr0 t3).tr1 t4 oG;replace b1:=b1.tb t5 (fun g hg=>by have:=bf g hg;omega);replace an:=(an.tr0 t3).tr1 t4 oG;replace an:=an.tb t5 (fun g hg=>by have:=b8 g hg;omega);replace a3:=a3.tr t5 (fun g hg hx=>xj a3 a2 dE g hg hx);replace b3:=fun x hx=>(b3 x hx).tr t5 (fun g hg=>by first|exact .inl (by have:=((a2).lt g hg).1;omega)|(obtain⟨cs,h⟩:=(a2).typ g hg;exact .inr ⟨_,_,h,by decide⟩))
  replace b2:=nLT b2 (Same.size t5);replace be:=be.tb t5 (fun g hg=>by have:=b6 g hg;omega);have a2:=eo;refine⟨_,rfl,?_⟩;refine zn4 ?_;refine zV rfl (fun c30=>?_) (fun c30=>?_)
  ·have e8:rep k=k:=by omega
   have eu:(nd (yy n rep T L) k).ln=((L k).map (fun x=>(x.1,((rep x.2.toNat:Nat):Int)))):=by rw[gX cy,if_pos e8]
   obtain⟨Ax,cx,es,hAo,hAb⟩:=a9 k cy;have hLm:=hAo.max;have hLk:=hLl k cy e8;refine zn2 ?_;refine wl (xz (v:= .pointer (some _)) rfl) (wl (X1 rfl) (zn3 ?_));refine wl (xX (i:=k) B3 oW rfl rfl cy rfl) (wl (qW (v:= .slice Ax (L k).length cx) U91 rfl rfl (by have h:=a6.rowq cy;rw[es]at h;exact h)) (zn5 ?_));refine qj (rg [9] 39 17) (fun m g w'=>∃(j:Nat) (A5:Option Addr) (cv:Nat) (P1:Nat->Nat),j<=(L k).length/\m=(L k).length-j/\g 39= .int .i64 j/\Blk w' b4 28 #[.slice none 0 0]/\Blk w' b5 28 #[.slice AN k cc]/\Blk w' bp 128 #[c0,c1,.slice (some ⟨qp,0,none⟩) n cp,.slice (some ⟨qt,0,none⟩) n ct,.slice (some ⟨ql,0,none⟩) n cl]/\Own w' ob 3 1 (some ⟨qp,0,none⟩) n cp (jq n (vN P1))/\Own w' ob 3 1 (some ⟨qt,0,none⟩) n ct (jq n (vI T))/\Own w' ob 91 1 (some ⟨ql,0,none⟩) n cl (jq n V)/\(∀ x,x<n->RowO w' ob zb (V x) (L x))/\UF n P1 rep ρ/\(Chg ob [bp] w w'/\ob<=w'.heap.size)/\zb<=w'.heap.size/\Own w' (b5+1) 93 2 AN k cc (ndV (vI T) Vn k)/\(∀ x,x<k->RowO w' zb bs (Vn x) (nd (yy n rep T L) x).ln)/\bs<=w'.heap.size/\Blk w' b7 93 #[.int .i64 (T k),.slice A5 j cv]/\Own w' (b7+1) 90 2 A5 j cv (lnV (((L k).take j).map (fun x=>(x.1,((rep x.2.toNat:Nat):Int)))))) ((L k).length) ?_ (fun m g8 w7 hI=>?_)
   ·exact⟨0,none,0,P1,ag _,rfl,rfl,b1,an,ad,a2,a5,a6,a9,dz,a1,a4,a3,b3,b2,be,Own.nil _ _ _ _⟩
   obtain⟨j,A5,cv,P1,hj,hmj,h39,b1,an,ad,a2,a5,a6,a9,dz,a1,a4,a3,b3,b2,be,ba⟩:=hI;refine zK 39 _ h39 nu (zn6 ?_);refine zV rfl (fun c40=>?_) (fun c40=>?_)
   ·have d9:j<(L k).length:=by omega
    have hVk2:=es;have hlk:=(a9 k cy)
    rw[es]at hlk;obtain⟨_,hln⟩:=hlk.links;obtain⟨lb,lof,hAx,hlb,hlr⟩:=hln.at_ (Below.refl _ _:Bel w7 w7) d9;subst hAx;have hxr:=hLr k cy e8 _ (ar d9);obtain⟨t,ht⟩:∃ t:Nat,((L k)[j]'d9).2=(t:Int):=⟨(((L k)[j]'d9).2).toNat,by omega⟩
    have htl:t<n:=by omega
    refine zn7 ?_;refine wl (qZ U90 rfl rfl hlr qJ) ?_;refine qk (cs:=#[.int .i64 0,.int .i64 0]) Q3 rfl (fun b9 w8 ck t6 hr=>?_);have:=nLL ad.lt hr;have co:=(fun(g:Nat) hg=>nLL (a5.lt g hg).2 hr)
    have cr:=(fun(g:Nat) hg=>nLL (a6.lt g hg).2 hr)
    have du:=(nLT a1.2 hr)
    have dn:=(nLT a4 hr)
    have:=nLL b1.lt hr;have:=nLL an.lt hr;have cq:=(fun(g:Nat) hg=>nLL (a3.lt g hg).2 hr)
    have dr:=(nLT b2 hr)
    have:=nLL be.lt hr;have bb:=(fun(g:Nat) hg=>nLL (a2.lt g hg).2 hr)
    have bk:=(fun(g:Nat) hg=>nLL (ba.lt g hg).2 hr)
    replace a9:=fun x hx=>(a9 x hx).tr t6 (by simp)
    replace a1:=And.intro (a1.1.st t6 a1.2 (by simp)) (nLT a1.2 (Same.size t6));replace a4:=nLT a4 (Same.size t6);replace b3:=fun x hx=>(b3 x hx).tr t6 (by simp)
    replace b2:=nLT b2 (Same.size t6);refine zk ck rfl rfl qJ rfl zJ (fun w9 hq t7=>?_);replace a5:=a5.tr0 t6;replace a5:=a5.tr1 t7 (fun g hg=>by have:=(a5.lt g hg).1;(try have:=co g hg);omega);replace a6:=a6.tr0 t6;replace a6:=a6.tr1 t7 (fun g hg=>by have:=(a6.lt g hg).1;(try have:=cr g hg);omega);replace a9:=fun x hx=>(a9 x hx).tr t7 (fun g hg=>by rw[List.mem_singleton.1 hg];first|exact .inr ⟨_,_,ck,by decide⟩|exact .inl oG)
    replace a1:=And.intro (a1.1.st t7 a1.2 (fun g hg=>by have h1:=aj.1 hg;first|(left;rw[h1];simp;done)|(right;omega))) (nLT a1.2 (Same.size t7));replace a4:=nLT a4 (Same.size t7);replace a3:=a3.tr0 t6;replace a3:=a3.tr1 t7 (fun g hg=>by have:=(a3.lt g hg).1;(try have:=cq g hg);omega);replace b3:=fun x hx=>(b3 x hx).tr t7 (fun g hg=>by rw[List.mem_singleton.1 hg];first|exact .inr ⟨_,_,ck,by decide⟩|exact .inl oG)
    replace b2:=nLT b2 (Same.size t7);replace a2:=a2.tr0 t6;replace a2:=a2.tr1 t7 (fun g hg=>by have:=(a2.lt g hg).1;(try have:=bb g hg);omega);replace ba:=ba.tr0 t6;replace ba:=ba.tr1 t7 (fun g hg=>by have:=(ba.lt g hg).1;(try have:=bk g hg);omega);replace ck:=hq;refine zQ (e_S ?_);rw[ht]at ck;have zo:=fun g hg=>(a2.lt g hg).2
    replace ad:=(ad.tr0 t6).tr1 t7 oG;refine V8 10 (rg [] 43 10) (aL (some (⟨qp,0,none⟩:Addr))) 7 (fun ix v wv=>match ix with|0=>v= .pointer (some ⟨b7,1,none⟩)|1=>v= .slice A5 j cv|2=>v= .pointer (some ⟨b9,0,none⟩)|3=>v= .int .i64 ((L k)[j]'d9).1|4=>v= .pointer (some ⟨bp,0,none⟩)|5=>v= .pointer (some ⟨b9,1,none⟩)|6=>v= .int .i64 (t:Nat)|7=>∃ Q:Nat->Nat,v= .int .i64 ((rep t:Nat):Int)/\Own wv ob 3 1 (some ⟨qp,0,none⟩) n cp (jq n (vN Q))/\UF n Q rep ρ|8=>v= .agg #[.int .i64 ((L k)[j]'d9).1,.int .i64 ((rep t:Nat):Int)]|9=>∃ b,v= .slice (some ⟨b,0,none⟩) 1 1/\w9.heap.size<=b/\Blk wv b 90 #[.int .i64 ((L k)[j]'d9).1,.int .i64 ((rep t:Nat):Int)]|_=>True) (fun _=>True) kR kR ?_ (fun _ _ _ _=>trivial) ?_ ?_ dE ?_
    ·intro ix v wv wv2 h t8
     match ix,h with
     | 0,h=>exact h
     | 1,h=>exact h
     | 2,h=>exact h
     | 3,h=>exact h
     | 4,h=>exact h
     | 5,h=>exact h
     | 6,h=>exact h
     | 7,h=>
      obtain⟨P3,eb,bg,dh⟩:=h;exact⟨P3,eb,bg.tr0 t8,dh⟩
     | 8,h=>exact h
     | 9,h=>
      obtain⟨ed,ea,d4,cb⟩:=h;exact⟨ed,ea,d4,cb.tr0 t8⟩
     | _+10,h=>exact trivial
    ·intro ix o hix ca bd gg wx t9 hd
     match ix,hix,ca,bd with
     | 0,_,_,bd=>
      cases sI bd;refine qQ (uK U93 oW dE rfl rfl rfl) ⟨Same.refl _ _,?_⟩;exact rfl
     | 1,_,_,bd=>
      cases sI bd;replace be:=(be.tr0 t6).tr1 t7 oG;replace be:=be.tb t9 (fun g hg=>by have:=b6 g hg;omega);refine aW 43 (hd 0 aX) ?_;refine qQ (qW (v:= .slice _ _ _) U91 rfl rfl (be.cell rfl)) ⟨Same.refl _ _,?_⟩;exact rfl
     | 2,_,_,bd=>
      cases sI bd;refine qQ (uK U90 qV dE rfl rfl rfl) ⟨Same.refl _ _,?_⟩;exact rfl
     | 3,_,_,bd=>
      cases sI bd;replace ck:=ck.tb t9 (fun g hg=>by have:=bb g hg;omega);refine aW 45 (hd 2 aX) ?_;refine qQ (qW (v:= .int _ _) U3 rfl rfl (ck.cell rfl)) ⟨Same.refl _ _,?_⟩;exact rfl
     | 4,_,_,bd=>
      cases sI bd;refine qQ (xz (v:= .pointer (some _)) rfl) ⟨Same.refl _ _,?_⟩;exact rfl
     | 5,_,_,bd=>
      cases sI bd;refine qQ (uK U90 qV dE rfl rfl rfl) ⟨Same.refl _ _,?_⟩;exact rfl
     | 6,_,_,bd=>
      cases sI bd;replace ck:=ck.tb t9 (fun g hg=>by have:=bb g hg;omega);refine aW 48 (hd 5 aX) ?_;refine qQ (qW (v:= .int _ _) U3 rfl rfl (ck.cell rfl)) ⟨Same.refl _ _,?_⟩;exact rfl
     | 7,_,ca,_=>exact absurd rfl ca
     | 8,_,_,bd=>
      cases sI bd;obtain⟨P3,eb,bg,dh⟩:=hd 7 (zj kR);refine aW 46 (hd 3 aX) (zz 50 _ eb nu ?_);refine qQ (jk (v0:= .int _ _) (v1:= .int _ _) (fun v0 v1=>#[v0,v1]) rfl rfl kR) ⟨Same.refl _ _,?_⟩;exact rfl
     | 9,_,_,bd=>
      cases sI bd;have hs0:=t9;refine aW 51 (hd 8 aX) ?_;refine jZ (fun ops Q K=>?_);refine qv (cs:=#[_,_]) [(0,.agg _)] rfl U91 qJ Q3 dE dE kR rfl (fun ed w10 cb t10 hr=>?_);exact K _ _ ⟨t10,⟨_,rfl,nLT hs0.size hr,cb⟩⟩
     | _+10,hix,_,_=>exact absurd hix oG
    ·intro o bd gg wx d8 hd;cases sI bd;replace a9:=fun x hx=>(a9 x hx).tr d8 (by simp)
     replace a1:=And.intro (a1.1.st d8 a1.2 (by simp)) (nLT a1.2 (Same.size d8));replace a4:=nLT a4 (Same.size d8);replace b3:=fun x hx=>(b3 x hx).tr d8 (by simp)
     replace b2:=nLT b2 (Same.size d8);refine aW 47 (hd 4 aX) (aW 49 (hd 6 aX) ?_);replace ad:=ad.tr0 d8;replace a2:=a2.tr0 d8;refine vw kR (V0 wx ad a2 er dz htl) rfl (fun e' w2 hr=>?_);obtain⟨Q,rfl,bg,ej,eg⟩:=hr;refine⟨_,rfl,eg,⟨_,rfl,bg,ej⟩,trivial,fun kx v ca h=>?_⟩
     match kx,ca,h with
     | 0,_,h=>exact h
     | 1,_,h=>exact h
     | 2,_,h=>exact h
     | 3,_,h=>exact h
     | 4,_,h=>exact h
     | 5,_,h=>exact h
     | 6,_,h=>exact h
     | 7,ca,_=>exact absurd rfl ca
     | 8,_,h=>exact h
     | 9,_,h=>
      obtain⟨ed,ea,d4,cb⟩:=h;exact⟨ed,ea,d4,cb.tr eg (fun hx=>by have:=zo _ hx;omega)⟩
     | _+10,_,_=>exact trivial
    intro gg w11 bu _ hR;replace ad:=ad.ta bu a2;replace a5:=a5.tr bu (fun g hg hx=>by first|exact xj a5 a2 dE g hg hx|exact a8 g hg hx|exact a8 g hx hg|(have h1:=(a2.lt g hx).1;(try have:=hzz g hg);omega));replace a6:=a6.tr bu (fun g hg hx=>by first|exact xj a6 a2 dE g hg hx|exact a8 g hg hx|exact a8 g hx hg|(have h1:=(a2.lt g hx).1;(try have:=hzz g hg);omega));replace a9:=fun x hx=>(a9 x hx).tr bu (fun g hg=>by first|exact .inl (by have:=((a2).lt g hg).1;omega)|(obtain⟨cs,h⟩:=(a2).typ g hg;exact .inr ⟨_,_,h,by decide⟩))
    replace a1:=And.intro (a1.1.st bu a1.2 (fun g hg=> .inr (by have:=((a2).lt g hg).1;omega))) (nLT a1.2 (Same.size bu));replace a4:=nLT a4 (Same.size bu);replace b1:=(b1.tr0 t6).tr1 t7 oG;replace b1:=b1.tb bu (fun g hg=>by have:=bf g hg;omega);replace an:=(an.tr0 t6).tr1 t7 oG;replace an:=an.tb bu (fun g hg=>by have:=b8 g hg;omega);replace a3:=a3.tr bu (fun g hg hx=>xj a3 a2 dE g hg hx);replace b3:=fun x hx=>(b3 x hx).tr bu (fun g hg=>by first|exact .inl (by have:=((a2).lt g hg).1;omega)|(obtain⟨cs,h⟩:=(a2).typ g hg;exact .inr ⟨_,_,h,by decide⟩))
    replace b2:=nLT b2 (Same.size bu);replace be:=(be.tr0 t6).tr1 t7 oG;replace be:=be.tb bu (fun g hg=>by have:=b6 g hg;omega);replace ba:=ba.tr bu (fun g hg hx=>xj ba a2 dE g hg hx);replace ck:=ck.tb bu (fun g hg=>by have:=bb g hg;omega);obtain⟨P3,eb,bg,dh⟩:=hR 7 dE;obtain⟨ed,ea,d4,cb⟩:=hR 9 dE;have a2:=bg;refine x9 43 _ (hR 0 dE) nu (x9 44 _ (hR 1 dE) nu (x9 50 _ eb nu (x9 52 _ ea nu ?_)));refine jv U91 V7 rfl dE ba cb rfl rfl rfl zJ dE oG oG (nLT (Nat.succ_le_of_lt be.lt) (ae _)) (fun dy ec w12 dj cj hg=>?_);have db:dy≠bp:=neA ba ad.lt hg
    have dg:dy≠b4:=neA ba b1.lt hg
    have df:dy≠b5:=neA ba an.lt hg
    have de:dy≠b7:=neA ba be.lt hg
    have dc:dy≠b9:=neB ck.lt hg (fun g hg=>by have:=bk g hg;omega)
    replace ad:=ad.ta cj ba;replace a5:=a5.tr cj (fun g hg hx=>by first|exact xj a5 ba dE g hg hx|exact a8 g hg hx|exact a8 g hx hg|(have h1:=(ba.lt g hx).1;(try have:=hzz g hg);omega));replace a6:=a6.tr cj (fun g hg hx=>by first|exact xj a6 ba dE g hg hx|exact a8 g hg hx|exact a8 g hx hg|(have h1:=(ba.lt g hx).1;(try have:=hzz g hg);omega));replace a9:=fun x hx=>(a9 x hx).tr cj (fun g hg=>by first|exact .inl (by have:=((ba).lt g hg).1;omega)|(obtain⟨cs,h⟩:=(ba).typ g hg;exact .inr ⟨_,_,h,by decide⟩))
    replace a1:=And.intro (a1.1.st cj a1.2 (fun g hg=> .inr (by have:=((ba).lt g hg).1;omega))) (nLT a1.2 (Same.size cj));replace a4:=nLT a4 (Same.size cj);replace b1:=b1.ta cj ba;replace an:=an.ta cj ba;replace a3:=a3.tr cj (fun g hg hx=>xj a3 ba dE g hg hx);replace b3:=fun x hx=>(b3 x hx).tr cj (fun g hg=>by first|exact .inl (by have:=((ba).lt g hg).1;omega)|(obtain⟨cs,h⟩:=(ba).typ g hg;exact .inr ⟨_,_,h,by decide⟩))
    replace b2:=nLT b2 (Same.size cj);replace be:=be.ta cj ba;replace a2:=a2.tr cj (fun g hg hx=>by first|exact xj a2 ba dE g hg hx|exact a8 g hg hx|exact a8 g hx hg|(have h1:=(ba.lt g hx).1;(try have:=hzz g hg);omega));replace dj:Own w12 (b7+1) 90 2 (some ⟨dy,0,none⟩) (j+1) ec (lnV (((L k).take (j+1)).map (fun x=>(x.1,((rep x.2.toNat:Nat):Int))))):=by
      rw[List.take_succ_eq_append_getElem d9,List.map_append,List.map_cons,List.map_nil,<- WQ];simp only[ht,Int.toNat_natCast];exact dj
    have ba:=dj;refine zn1 ?_;refine xZ (v:= .slice _ _ _) be rfl rfl oW (by first|decide|simp) rfl rfl (fun w13 hq cw=>?_);replace a5:=a5.tr1 cw (fun g hg=>by have:=(a5.lt g hg).1;(try have:=bi g hg);omega);replace a6:=a6.tr1 cw (fun g hg=>by have:=(a6.lt g hg).1;(try have:=bm g hg);omega);replace a9:=fun x hx=>(a9 x hx).tr cw (fun g hg=>by rw[List.mem_singleton.1 hg];first|exact .inr ⟨_,_,be,by decide⟩|exact .inl oG)
    replace a1:=And.intro (a1.1.st cw a1.2 (fun g hg=>by have h1:=aj.1 hg;first|(left;rw[h1];simp;done)|(right;omega))) (nLT a1.2 (Same.size cw));replace a4:=nLT a4 (Same.size cw);replace a3:=a3.tr1 cw (fun g hg=>by have:=(a3.lt g hg).1;(try have:=bc g hg);omega);replace b3:=fun x hx=>(b3 x hx).tr cw (fun g hg=>by rw[List.mem_singleton.1 hg];first|exact .inr ⟨_,_,be,by decide⟩|exact .inl oG)
    replace b2:=nLT b2 (Same.size cw);replace a2:=a2.tr1 cw (fun g hg=>by have:=(a2.lt g hg).1;(try have:=b6 g hg);omega);replace ba:=ba.tr1 cw (fun g hg=>by have:=(ba.lt g hg).1;(try have:=or_ho5_b7 g hg);omega);replace be:=hq;refine zn7 ?_;refine xK ((L k).length-(j+1)) oG agA ?_;replace ad:=ad.tr1 cw oG;exact⟨j+1,_,_,P3,by omega,rfl,rfl,b1.u,an.u,ad,a2,a5,a6,a9,dh,a1,a4,a3,b3,b2,be,ba⟩
   have hjx:j=(L k).length:=by omega
   subst hjx;obtain⟨sv,e5⟩:∃ sv,sv=Value.slice A5 (L k).length cv:=⟨_,rfl⟩
   obtain⟨P2,et⟩:∃ Q,Q=P1:=⟨_,rfl⟩
   subst et;have ek:=dz;have a7:RowO w7 zb w7.heap.size sv (nd (yy n rep T L) k).ln:=by
     rw[List.take_length]at ba;have h:=RowO.of (lo:=zb) (xs:=((L k).map (fun x=>(x.1,((rep x.2.toNat:Nat):Int))))) ep (A:=A5) (cap:=cv) (by rw[List.length_map];exact ba);rw[List.length_map]at h;rw[eu,e5];exact h
   obtain⟨s5,e6⟩:∃ b,b=w7.heap.size:=⟨_,rfl⟩
   rw[<- e6]at a7;have bq:s5<=w7.heap.size:=aC e6;refine zn9 ?_;refine qv (cs:=#[_,_]) [(0,.agg _)] rfl U26 oK I2 dE dE kR rfl (fun b59 w14 dm bt hr=>?_);have:=nLL ad.lt hr;have bx:=(fun(g:Nat) hg=>nLL (a5.lt g hg).2 hr)
   have c3:=(fun(g:Nat) hg=>nLL (a6.lt g hg).2 hr)
   have c5:=(nLT a1.2 hr)
   have bv:=(nLT a4 hr)
   have:=nLL b1.lt hr;have:=nLL an.lt hr;have c2:=(fun(g:Nat) hg=>nLL (a3.lt g hg).2 hr)
   have c4:=(nLT b2 hr)
   have:=nLL be.lt hr;have bz:=(fun(g:Nat) hg=>nLL (a2.lt g hg).2 hr)
   have bw:=(nLT bq hr)
   replace a9:=fun x hx=>(a9 x hx).tr bt (by simp)
   replace a1:=And.intro (a1.1.st bt a1.2 (by simp)) (nLT a1.2 (Same.size bt));replace a4:=nLT a4 (Same.size bt);replace b3:=fun x hx=>(b3 x hx).tr bt (by simp)
   replace b2:=nLT b2 (Same.size bt);replace a7:=a7.tr bt (by simp);replace bq:=nLT bq (Same.size bt);replace a3:=a3.tr0 bt;refine jv U26 OZ rfl dE a3 dm rfl rfl rfl zJ dE oG oG an.u.lt (fun cz d2 w15 di cg hg=>?_);replace ad:=ad.tr0 bt;have c6:cz≠bp:=neA a3 ad.lt hg
   have c9:cz≠b4:=neA a3 b1.u.lt hg
   have c8:cz≠b5:=neA a3 an.u.lt hg
   have c7:cz≠b7:=neB be.u.lt hg (fun g hg=>by have:=bc g hg;omega)
   replace ad:=ad.ta cg a3;replace a5:=a5.tr0 bt;replace a5:=a5.tr cg (fun g hg hx=>by first|exact xj a5 a3 dE g hg hx|exact a8 g hg hx|exact a8 g hx hg|(have h1:=(a3.lt g hx).1;(try have:=hzz g hg);omega));replace a6:=a6.tr0 bt;replace a6:=a6.tr cg (fun g hg hx=>by first|exact xj a6 a3 dE g hg hx|exact a8 g hg hx|exact a8 g hx hg|(have h1:=(a3.lt g hx).1;(try have:=hzz g hg);omega));replace a9:=fun x hx=>(a9 x hx).tr cg (fun g hg=>by first|exact .inl (by have:=((a3).lt g hg).1;omega)|(obtain⟨cs,h⟩:=(a3).typ g hg;exact .inr ⟨_,_,h,by decide⟩))
   replace a1:=And.intro (a1.1.st cg a1.2 (fun g hg=> .inr (by have:=((a3).lt g hg).1;omega))) (nLT a1.2 (Same.size cg));replace a4:=nLT a4 (Same.size cg);replace b1:=b1.tr0 bt;replace b1:=b1.ta cg a3;replace an:=an.tr0 bt;replace an:=an.ta cg a3;replace b3:=fun x hx=>(b3 x hx).tr cg (fun g hg=>by first|exact .inl (by have:=((a3).lt g hg).1;omega)|(obtain⟨cs,h⟩:=(a3).typ g hg;exact .inr ⟨_,_,h,by decide⟩))
   replace b2:=nLT b2 (Same.size cg);replace a2:=a2.tr0 bt;replace a2:=a2.tr cg (fun g hg hx=>by first|exact xj a2 a3 dE g hg hx|exact a8 g hg hx|exact a8 g hx hg|(have h1:=(a3.lt g hx).1;(try have:=hzz g hg);omega));replace a7:=a7.tr cg (fun g hg=>by first|exact .inl (by have:=((a3).lt g hg).1;omega)|(obtain⟨cs,h⟩:=(a3).typ g hg;exact .inr ⟨_,_,h,by decide⟩));replace bq:=nLT bq (Same.size cg);have bo:Own w15 (b5+1) 93 2 (some ⟨cz,0,none⟩) (k+1) d2 (ndV (vI T) (fun x=>if x=k then sv else Vn x) (k+1)):=by
     rw[V4,Q6 (f':=(vI T)) (h':=Vn) (fun x _=>rfl) (fun x hx=>by rw[if_neg (show ¬x=k from by omega)])];simp only[if_true];rw[e5];exact di
   refine zn1 ?_;refine xZ (v:= .slice _ _ _) an rfl rfl Ej (by first|decide|simp) rfl rfl (fun w16 hq cf=>?_);replace a5:=a5.tr1 cf (fun g hg=>by have:=(a5.lt g hg).1;(try have:=bj g hg);omega);replace a6:=a6.tr1 cf (fun g hg=>by have:=(a6.lt g hg).1;(try have:=bn g hg);omega);replace a9:=fun x hx=>(a9 x hx).tr cf (fun g hg=>by rw[List.mem_singleton.1 hg];first|exact .inr ⟨_,_,an,by decide⟩|exact .inl oG)
   replace a1:=And.intro (a1.1.st cf a1.2 (fun g hg=>by have h1:=aj.1 hg;first|(left;rw[h1];simp;done)|(right;omega))) (nLT a1.2 (Same.size cf));replace a4:=nLT a4 (Same.size cf);replace b3:=fun x hx=>(b3 x hx).tr cf (fun g hg=>by rw[List.mem_singleton.1 hg];first|exact .inr ⟨_,_,an,by decide⟩|exact .inl oG)
   replace b2:=nLT b2 (Same.size cf);replace a2:=a2.tr1 cf (fun g hg=>by have:=(a2.lt g hg).1;(try have:=b8 g hg);omega);replace a7:=a7.tr cf (fun g hg=>by rw[List.mem_singleton.1 hg];first|exact .inr ⟨_,_,an,by decide⟩|exact .inl oG);replace bq:=nLT bq (Same.size cf);replace bo:=bo.tr1 cf (fun g hg=>by have:=(bo.lt g hg).1;(try have:=or_hoN2_b5 g hg);omega);replace an:=hq;refine zn7 ?_;refine xK (n-(k+1)) oG agA ?_;replace ad:=ad.tr1 cf oG;replace b1:=b1.tr1 cf oG
   exact⟨k+1,_,_,fun x=>if x=k then sv else Vn x,P2,by omega,rfl,rfl,b1,an,ad,a2,a5,a6,a9,ek,a1,a4,bo,fun x hx=>by
     by_cases e:x=k
     · subst e
       simp only[if_true];exact a7.up bq
     · simp only[if_neg e]
       exact(b3 x oG).up b2⟩
  have e8:¬rep k=k:=fun e=>c30 (by rw[e])
  have eu:(nd (yy n rep T L) k).ln= []:=by rw[gX cy,if_neg e8]
  obtain⟨sv,e5⟩:∃ sv,sv=Value.slice none 0 0:=⟨_,rfl⟩
  obtain⟨P2,et⟩:∃ Q,Q=P1:=⟨_,rfl⟩
  subst et;have ek:=dz;have a7:RowO w6 zb w6.heap.size sv (nd (yy n rep T L) k).ln:=by rw[eu,e5];exact⟨none,0,rfl,Own.nil _ _ _ _,fun g hg=>by cases hg⟩
  obtain⟨s5,e6⟩:∃ b,b=w6.heap.size:=⟨_,rfl⟩
  rw[<- e6]at a7;have bq:s5<=w6.heap.size:=aC e6;refine zn6 ?_;refine qv (cs:=#[_,_]) [(0,.agg _)] rfl U26 oK I2 dE dE kR rfl (fun b59 w17 dm br hr=>?_);have:=nLL ad.lt hr;have bx:=(fun(g:Nat) hg=>nLL (a5.lt g hg).2 hr)
  have c3:=(fun(g:Nat) hg=>nLL (a6.lt g hg).2 hr)
  have c5:=(nLT a1.2 hr)
  have bv:=(nLT a4 hr)
  have:=nLL b1.lt hr;have:=nLL an.lt hr;have c2:=(fun(g:Nat) hg=>nLL (a3.lt g hg).2 hr)
  have c4:=(nLT b2 hr)
  have:=nLL be.lt hr;have bz:=(fun(g:Nat) hg=>nLL (a2.lt g hg).2 hr)
  have bw:=(nLT bq hr)
  replace a9:=fun x hx=>(a9 x hx).tr br (by simp)
  replace a1:=And.intro (a1.1.st br a1.2 (by simp)) (nLT a1.2 (Same.size br));replace a4:=nLT a4 (Same.size br);replace b3:=fun x hx=>(b3 x hx).tr br (by simp)
  replace b2:=nLT b2 (Same.size br);replace a7:=a7.tr br (by simp);replace bq:=nLT bq (Same.size br);replace a3:=a3.tr0 br;refine jv U26 OZ rfl dE a3 dm rfl rfl rfl zJ dE oG oG an.u.lt (fun cz d2 w18 di ce hg=>?_);replace ad:=ad.tr0 br;have c6:cz≠bp:=neA a3 ad.lt hg
  have c9:cz≠b4:=neA a3 b1.u.lt hg
  have c8:cz≠b5:=neA a3 an.u.lt hg
  have c7:cz≠b7:=neB be.u.lt hg (fun g hg=>by have:=bc g hg;omega)
  replace ad:=ad.ta ce a3;replace a5:=a5.tr0 br;replace a5:=a5.tr ce (fun g hg hx=>by first|exact xj a5 a3 dE g hg hx|exact a8 g hg hx|exact a8 g hx hg|(have h1:=(a3.lt g hx).1;(try have:=hzz g hg);omega));replace a6:=a6.tr0 br;replace a6:=a6.tr ce (fun g hg hx=>by first|exact xj a6 a3 dE g hg hx|exact a8 g hg hx|exact a8 g hx hg|(have h1:=(a3.lt g hx).1;(try have:=hzz g hg);omega));replace a9:=fun x hx=>(a9 x hx).tr ce (fun g hg=>by first|exact .inl (by have:=((a3).lt g hg).1;omega)|(obtain⟨cs,h⟩:=(a3).typ g hg;exact .inr ⟨_,_,h,by decide⟩))
  replace a1:=And.intro (a1.1.st ce a1.2 (fun g hg=> .inr (by have:=((a3).lt g hg).1;omega))) (nLT a1.2 (Same.size ce));replace a4:=nLT a4 (Same.size ce);replace b1:=b1.tr0 br;replace b1:=b1.ta ce a3;replace an:=an.tr0 br;replace an:=an.ta ce a3;replace b3:=fun x hx=>(b3 x hx).tr ce (fun g hg=>by first|exact .inl (by have:=((a3).lt g hg).1;omega)|(obtain⟨cs,h⟩:=(a3).typ g hg;exact .inr ⟨_,_,h,by decide⟩))
  replace b2:=nLT b2 (Same.size ce);replace a2:=a2.tr0 br;replace a2:=a2.tr ce (fun g hg hx=>by first|exact xj a2 a3 dE g hg hx|exact a8 g hg hx|exact a8 g hx hg|(have h1:=(a3.lt g hx).1;(try have:=hzz g hg);omega));replace a7:=a7.tr ce (fun g hg=>by first|exact .inl (by have:=((a3).lt g hg).1;omega)|(obtain⟨cs,h⟩:=(a3).typ g hg;exact .inr ⟨_,_,h,by decide⟩));replace bq:=nLT bq (Same.size ce);have bo:Own w18 (b5+1) 93 2 (some ⟨cz,0,none⟩) (k+1) d2 (ndV (vI T) (fun x=>if x=k then sv else Vn x) (k+1)):=by
    rw[V4,Q6 (f':=(vI T)) (h':=Vn) (fun x _=>rfl) (fun x hx=>by rw[if_neg (show ¬x=k from by omega)])];simp only[if_true];rw[e5];exact di
  refine zn1 ?_;refine xZ (v:= .slice _ _ _) an rfl rfl Ej (by first|decide|simp) rfl rfl (fun w19 hq cd=>?_);replace a5:=a5.tr1 cd (fun g hg=>by have:=(a5.lt g hg).1;(try have:=bj g hg);omega);replace a6:=a6.tr1 cd (fun g hg=>by have:=(a6.lt g hg).1;(try have:=bn g hg);omega);replace a9:=fun x hx=>(a9 x hx).tr cd (fun g hg=>by rw[List.mem_singleton.1 hg];first|exact .inr ⟨_,_,an,by decide⟩|exact .inl oG)
  replace a1:=And.intro (a1.1.st cd a1.2 (fun g hg=>by have h1:=aj.1 hg;first|(left;rw[h1];simp;done)|(right;omega))) (nLT a1.2 (Same.size cd));replace a4:=nLT a4 (Same.size cd);replace b3:=fun x hx=>(b3 x hx).tr cd (fun g hg=>by rw[List.mem_singleton.1 hg];first|exact .inr ⟨_,_,an,by decide⟩|exact .inl oG)
  replace b2:=nLT b2 (Same.size cd);replace a2:=a2.tr1 cd (fun g hg=>by have:=(a2.lt g hg).1;(try have:=b8 g hg);omega);replace a7:=a7.tr cd (fun g hg=>by rw[List.mem_singleton.1 hg];first|exact .inr ⟨_,_,an,by decide⟩|exact .inl oG);replace bq:=nLT bq (Same.size cd);replace bo:=bo.tr1 cd (fun g hg=>by have:=(bo.lt g hg).1;(try have:=or_hoN2_b5 g hg);omega);replace an:=hq;refine zn7 ?_;refine xK (n-(k+1)) oG agA ?_;replace ad:=ad.tr1 cd oG;replace b1:=b1.tr1 cd oG
  exact⟨k+1,_,_,fun x=>if x=k then sv else Vn x,P2,by omega,rfl,rfl,b1,an,ad,a2,a5,a6,a9,ek,a1,a4,bo,fun x hx=>by
    by_cases e:x=k
    · subst e
      simp only[if_true];exact a7.up bq
    · simp only[if_neg e]
      exact(b3 x oG).up b2⟩
 have hke:k=n:=by omega
 rw[hke]at a3 b3 an;refine zn6 ?_;refine V8 4 [63,64,65,66] (aL (some (⟨qp,0,none⟩:Addr))) 3 (fun ix v wv=>match ix with|0=>v= .agg #[.slice AN n cc]|1=>v= .pointer (some ⟨bp,0,none⟩)|2=>v= .int .i64 (r:Nat)|3=>∃ Q:Nat->Nat,v= .int .i64 ((rep r:Nat):Int)/\Own wv ob 3 1 (some ⟨qp,0,none⟩) n cp (jq n (vN Q))/\UF n Q rep ρ|_=>True) (fun _=>True) kR kR ?_ (fun _ _ _ _=>trivial) ?_ ?_ dE ?_
 ·intro ix v wv wv2 h t21
  match ix,h with
  | 0,h=>exact h
  | 1,h=>exact h
  | 2,h=>exact h
  | 3,h=>
   obtain⟨P3,ew,bg,dh⟩:=h;exact⟨P3,ew,bg.tr0 t21,dh⟩
  | _+4,h=>exact trivial
 ·intro ix o hix ca bd gg wx t22 hd
  match ix,hix,ca,bd with
  | 0,_,_,bd=>
   cases sI bd;replace an:=an.tb t22 (fun g hg=>by have:=b8 g hg;omega);refine qQ (qZ U28 rfl rfl an.range0 qX) ⟨Same.refl _ _,?_⟩;exact rfl
  | 1,_,_,bd=>
   cases sI bd;refine qQ (xz (v:= .pointer (some _)) rfl) ⟨Same.refl _ _,?_⟩;exact rfl
  | 2,_,_,bd=>
   cases sI bd;refine qQ (xz (v:= .int _ _) rfl) ⟨Same.refl _ _,?_⟩;exact rfl
  | 3,_,ca,_=>exact absurd rfl ca
  | _+4,hix,_,_=>exact absurd hix oG
 ·intro o bd gg wx d7 hd;cases sI bd;replace a9:=fun x hx=>(a9 x hx).tr d7 (by simp)
  replace a1:=And.intro (a1.1.st d7 a1.2 (by simp)) (nLT a1.2 (Same.size d7));replace a4:=nLT a4 (Same.size d7);replace b3:=fun x hx=>(b3 x hx).tr d7 (by simp)
  replace b2:=nLT b2 (Same.size d7);refine aW 64 (hd 1 aX) (aW 65 (hd 2 aX) ?_);replace ad:=ad.tr0 d7;replace a2:=a2.tr0 d7;refine vw kR (V0 wx ad a2 er hu e7) rfl (fun e' w2 hr=>?_);obtain⟨Q,rfl,bg,ej,eg⟩:=hr;refine⟨_,rfl,eg,⟨_,rfl,bg,ej⟩,trivial,fun kx v ca h=>?_⟩
  match kx,ca,h with
  | 0,_,h=>exact h
  | 1,_,h=>exact h
  | 2,_,h=>exact h
  | 3,ca,_=>exact absurd rfl ca
  | _+4,_,_=>exact trivial
 intro gg ef d6 _ hR;replace a9:=fun x hx=>(a9 x hx).tr d6 (fun g hg=>by first|exact .inl (by have:=((a2).lt g hg).1;omega)|(obtain⟨cs,h⟩:=(a2).typ g hg;exact .inr ⟨_,_,h,by decide⟩))
 replace a1:=And.intro (a1.1.st d6 a1.2 (fun g hg=> .inr (by have:=((a2).lt g hg).1;omega))) (nLT a1.2 (Same.size d6));replace a4:=nLT a4 (Same.size d6);replace b1:=b1.tb d6 (fun g hg=>by have:=bf g hg;omega);replace a3:=a3.tr d6 (fun g hg hx=>xj a3 a2 dE g hg hx);replace b3:=fun x hx=>(b3 x hx).tr d6 (fun g hg=>by first|exact .inl (by have:=((a2).lt g hg).1;omega)|(obtain⟨cs,h⟩:=(a2).typ g hg;exact .inr ⟨_,_,h,by decide⟩))
 replace b2:=nLT b2 (Same.size d6);obtain⟨P3,ew,bg,dh⟩:=hR 3 dE;have a2:=bg
 have hNG:NodesIn ef AN (yy n rep T L):=S4 (lo:=zb) (bs:=bs) a3 (yK _ _ _ _) (fun x hx=>by
   have ei:x<n:=by rw[<- yK n rep T L];exact hx
   rw[<- yV hx,gX ei];rfl) (fun x hx=>by
   have ei:x<n:=by rw[<- yK n rep T L];exact hx
   have h:=b3 x ei
   rw[<- yV hx];exact h)
 have hrl:=hu.rl r e7;have z4:=b1.lt;refine x9 63 _ (hR 0 dE) nu (x9 66 _ ew nu ?_);have hzq:=a4;refine zW kR (fromn_any AN cc nf (yy n rep T L) (rep r) n _ hNG (yK _ _ _ _) hG2 hnf (by rw[yK];exact hrl)) rfl (fun e' ee hr=>?_);obtain⟨⟨o,AF,hD,hok,rfl,hN⟩,d3⟩:=hr;replace d3:=sB d3;replace a9:=fun x hx=>(a9 x hx).tr d3 (by simp)
 replace a1:=And.intro (a1.1.st d3 a1.2 (by simp)) (nLT a1.2 (Same.size d3));replace a4:=nLT a4 (Same.size d3);replace b3:=fun x hx=>(b3 x hx).tr d3 (by simp)
 replace b2:=nLT b2 (Same.size d3);have e9:FrSame (ef).heap.size ee ee:=FrSame.refl _ _;have hzV:zb<=(ef).heap.size:=hzq;obtain⟨Z0,hZ0⟩:∃ z,z=(ef).heap.size:=⟨_,rfl⟩
 rw[<- hZ0]at hN e9 z4 hzV;obtain⟨wZ,hwZ⟩:∃ z,z=ee:=⟨_,rfl⟩
 replace e9:FrSame Z0 wZ ee:=by rw[hwZ];exact FrSame.refl _ _
 rw[<- hwZ]at hN;refine⟨_,rfl,?_⟩;refine zk b1.u rfl rfl qX rfl zJ (fun w22 hq da=>?_);replace b1:=b1.tr0 d3;replace a9:=fun x hx=>(a9 x hx).tr da (fun g hg=>by rw[List.mem_singleton.1 hg];first|exact .inr ⟨_,_,b1,by decide⟩|exact .inl oG)
 replace a1:=And.intro (a1.1.st da a1.2 (fun g hg=>by have h1:=aj.1 hg;first|(left;rw[h1];simp;done)|(right;omega))) (nLT a1.2 (Same.size da));replace a4:=nLT a4 (Same.size da);replace b3:=fun x hx=>(b3 x hx).tr da (fun g hg=>by rw[List.mem_singleton.1 hg];first|exact .inr ⟨_,_,b1,by decide⟩|exact .inl oG)
 replace b2:=nLT b2 (Same.size da);replace e9:=e9.of da (fun g hg=>by rw[List.mem_singleton.1 hg];omega);replace b1:=hq;refine zn3 ?_;refine yx (.inl rfl) rfl (zZ U28 rfl rfl b1.range0 qX) ?_;exact⟨⟨o,AF,hD,rfl,fun w2 hf=>hN w2 (e9.then hf hzV)⟩,a1.1,a1.2⟩
def QV(l:List Ty)(U:List Nd)(J:List (Nat×Nat))(X:List Nd):Prop:=∃ P rep ρ T L o,US l U J P rep ρ T L []/\DL (yy U.length rep T L) [rep 0] [] o/\X=yQ (yy U.length rep T L) o
theorem shN_zero(g:List Nd):g.map (shN 0)=g:=by
 have h:∀ x:Nd,shN 0 x=x:=fun x=>by
  refine VW rfl ?_;simp[shN]
 rw[List.map_congr_left (g:=id) (fun x _=>h x),List.map_id]
theorem two_feat{nf:Nat}{U g:List Nd}(hU:∀ i,i<U.length->∀ z∈(nd U i).ln,0<=z.1/\z.1<nf)(hg:∀ i,i<g.length->∀ z∈(nd g i).ln,0<=z.1/\z.1<nf):∀ i,i<(U++g.map (shN U.length)).length->∀ z∈(nd (U++g.map (shN U.length)) i).ln,0<=z.1/\z.1<nf:=fun i hi z hz=>by
 by_cases e:i<U.length
 ·rw[uQ e]at hz;exact hU i e z hz
 ·have hl:i-U.length<g.length:=by simp at hi;omega
  have h:=oz (U:=U) hl
  rw[show U.length+(i-U.length)=i by omega]at h
  rw[h]at hz
  obtain⟨y,hy,rfl⟩:=au.1 hz
  exact hg _ hl y hy
theorem H6{nt nf:Nat}{g:List Nd}(h:GOk nt nf g):∀ i,i<g.length->∀ z∈(nd g i).ln,0<=z.1/\z.1<nf:=fun i hi z hz=>by
 rw[yV hi]at hz
 have:=h.ln i hi z hz
 omega
theorem pool_nil{w:World}{ob bp cp ct cl:Nat}{c0 c1:Value}(h:Blk w bp 128 #[c0,c1,.slice none 0 cp,.slice none 0 ct,.slice none 0 cl])(hp:cp=0)(ht:ct=0)(hl:cl=0):PoolAt w ob bp c0 c1 0 none none none cp ct cl (fun x=>x) (fun _=>0) (fun _=> .slice none 0 0) (fun _=>[]):=by
 subst hp ht hl;exact⟨h,Own.nil _ _ _ _,Own.nil _ _ _ _,Own.nil _ _ _ _,fun x hx=>absurd hx (aA _),fun g hg=>by cases hg⟩
theorem US.first{l:List Ty}{g:List Nd}(hg:GY l g):US l g [] (Rq 0 (fun x=>x)) (fun x=>if x<0 then x else x) (fun _=>0) (CW 0 (fun _=>0) g) (HW 0 (fun _=>[]) g) []:=by
 have h:=(US.nil (l:=l) (P:=fun x=>x) (rep:=fun x=>x) (ρ:=fun _=>0) (T:=fun _=>0) (L:=fun _=>[])).add hg (fun p hp=>by cases hp);rw[List.nil_append,show ([]:List Nd).length=0 from rfl,shN_zero]at h;exact h
theorem NodesIn.chgB{w0 w w2:World}{ob b:Nat}{G:Option Addr}{g:List Nd}(h:NodesIn w0 G g)(hB:Bel w0 w)(hc:Chg ob [b] w w2)(h1:w0.heap.size<=ob)(h2:w0.heap.size<=b):NodesIn w2 G g:=h.mono (hB.chg hc h1 (fun g hg=>by rw[List.mem_singleton.1 hg];exact h2))
theorem ret_into{A:Option Addr}{n:Nat}{X:List Nd}(h:X.length=n):Ending.returned (.tuple #[.agg #[.slice A n n],.bool true])= .returned (.tuple #[.agg #[.slice A X.length X.length],.bool true]):=by rw[h]
def SizedS(A:Option Addr)(n c:Nat)(b:Bool)(A':Option Addr)(n' c':Nat)(ok:Bool)(x y:Int):Prop:=(b=false/\A'=none/\n'=0/\c'=0/\ok=false/\x=0/\y=0)\/(b=true/\60<n/\A'=none/\n'=0/\c'=0/\ok=false/\x=17/\y= -1)\/(b=true/\n<=60/\A'=A/\n'=n/\c'=c/\ok=true/\x=0/\y=0)
def UnifyS(l:List Ty)(fs:List Ft)(ga gb:List Nd)(ok:Bool)(f:Fl)(X:List Nd):Prop:=
 (¬(uj l fs ga gb).1=0/\ok=false/\f=uj l fs ga gb/\X= [])\/((uj l fs ga gb).1=0/\ok=false/\f=(0,0)/\X= []/\¬M1 l (ga++gb.map (shN ga.length)) [(0,ga.length)])\/((uj l fs ga gb).1=0/\ok=false/\f=(17,-1)/\X= []/\∃ Y,QV l (ga++gb.map (shN ga.length)) [(0,ga.length)] Y/\60<Y.length)\/((uj l fs ga gb).1=0/\ok=true/\f=(0,0)/\QV l (ga++gb.map (shN ga.length)) [(0,ga.length)] X/\X.length<=60)
theorem ret_un{A:Option Addr}{n c:Nat}{ok:Bool}{f:Fl}{x y:Int}{X:List Nd}(hn:X.length=n)(hc:X.length=c)(hx:f=(x,y)):Ending.returned (.tuple #[.agg #[.slice A n c],.bool ok,.agg #[.int .i64 x,.int .i64 y]])= .returned (.tuple #[.agg #[.slice A X.length X.length],.bool ok,.agg #[.int .i64 f.1,.int .i64 f.2]]):=by
 subst hn hx;rw[<- hc]
theorem un_fin{l:List Ty}{fs:List Ft}{ga gb X:List Nd}{A A2:Option Addr}{ok ok2:Bool}{n2 c2 lo:Nat}{x y:Int}{w:World}(h0:(uj l fs ga gb).1=0)(hc:(ok=true/\QV l (ga++gb.map (shN ga.length)) [(0,ga.length)] X)\/(ok=false/\X= []/\¬M1 l (ga++gb.map (shN ga.length)) [(0,ga.length)]))(hs:SizedS A X.length X.length ok A2 n2 c2 ok2 x y)(hN:∀ w2,FrSame lo w w2->NodesIn w2 A X):∃ X2:List Nd,X2.length=n2/\c2=n2/\(∀ w2,FrSame lo w w2->NodesIn w2 A2 X2)/\UnifyS l fs ga gb ok2 (x,y) X2:=by
 rcases hs with ⟨a1,rfl,rfl,rfl,rfl,rfl,rfl⟩|⟨a1,a2,rfl,rfl,rfl,rfl,rfl,rfl⟩|⟨a1,a2,rfl,rfl,rfl,rfl,rfl,rfl⟩
 ·rcases hc with ⟨b1,_⟩|⟨_,_,b3⟩
  ·rw[a1]at b1;cases b1
  ·exact⟨[],rfl,rfl,fun w2 _=>uZ w2 none,.inr (.inl ⟨h0,rfl,rfl,rfl,b3⟩)⟩
 ·rcases hc with ⟨_,b2⟩|⟨b1,_⟩
  ·exact⟨[],rfl,rfl,fun w2 _=>uZ w2 none,.inr (.inr (.inl ⟨h0,rfl,rfl,rfl,X,b2,a2⟩))⟩
  ·rw[a1]at b1;cases b1
 ·rcases hc with ⟨_,b2⟩|⟨b1,_⟩
  ·exact⟨X,rfl,rfl,hN,.inr (.inr (.inr ⟨h0,rfl,rfl,b2,a2⟩))⟩
  ·rw[a1]at b1;cases b1
set_option maxRecDepth 100000 in
theorem WY{nt nf bu bd j c1 c2:Nat}{G1 G2:Option Addr}{l:List Ty}{ga gb:List Nd}(w:World)(bf:TabIn w)(hTI:TableIn w l bu bd)(hSd:Cz l)(hG1:NodesIn w G1 ga)(hG2:NodesIn w G2 gb)(bc:GOk nt nf ga)(b2:GOk nt nf gb)(hya:GY l ga)(hyb:GY l gb)(b1:nf<=1000)(hj:j<ga.length):Calls prog 42 #[.agg #[.slice (some ⟨bu,0,none⟩) l.length l.length,.slice (some ⟨bd,0,none⟩) l.length l.length],.agg #[.slice G1 ga.length c1],.int .i64 (j:Nat),.agg #[.slice G2 gb.length c2]] w fun e w'=>(∃ A X ok,e= .returned (.tuple #[.agg #[.slice A (List.length X) X.length],.bool ok])/\(∀ w2,FrSame w.heap.size w' w2->NodesIn w2 A X)/\((ok=true/\QV l (ga++gb.map (shN ga.length)) [(j,ga.length)] X)\/(ok=false/\X= []/\¬M1 l (ga++gb.map (shN ga.length)) [(j,ga.length)])))/\Bel w w':=by
 have hna:=bc.le;have hnb:=b2.le;have hpb:=b2.pos;refine enT func42 ntmps42 rfl rfl fun hB=>?_;refine zn2 ?_;refine qY (v:= .agg #[_,_]) (cs:=#[_,_]) rfl rfl (fun b4 w1 a3 s1 hr=>?_);have lo4:=nLT (Bel.size hB) hr;refine qY (v:= .agg #[_]) (cs:=#[_]) rfl rfl (fun b5 w2 a4 s2 hr=>?_);have:=nLL a3.lt hr;have lo5:=nLT (Bel.size hB.u) hr;refine qY (v:= .agg #[_]) (cs:=#[_]) rfl rfl (fun b7 w3 a5 s3 hr=>?_);have:=nLL a3.u.lt hr;have:=nLL a4.lt hr;have lo7:=nLT (Bel.size hB.u) hr;refine qk (cs:=#[.slice none 0 0]) jY rfl (fun b8 w4 a1 s4 hr=>?_);have:=nLL a3.u.lt hr;have:=nLL a4.u.lt hr;have:=nLL a5.lt hr;have lo8:=nLT (Bel.size hB.u) hr;refine zn6 ?_;refine wl (ZY (v0:= .agg _) (fun v0=>#[(qz v0 0),(qz v0 1),.slice none 0 0,.slice none 0 0,.slice none 0 0]) rfl kR) ?_;refine qY (v:= .agg #[_,_,_,_,_]) (cs:=#[_,_,_,_,_]) rfl rfl (fun b13 w5 a6 s5 hr=>?_);have:=nLL a3.u.lt hr;have:=nLL a4.u.lt hr;have:=nLL a5.u.lt hr;have:=nLL a1.lt hr;have a7:=nLT (Bel.size hB.u) hr;refine wl (gk (v:= .pointer (some _)) rfl) (zn3 ?_);replace a6:Blk w5 b13 128 #[.slice (some ⟨bu,0,none⟩) l.length l.length,.slice (some ⟨bd,0,none⟩) l.length l.length,.slice none 0 0,.slice none 0 0,.slice none 0 0]:=a6;have b3:=a6.lt;refine ZV (wl (xz (v:= .pointer (some _)) rfl) (zn1 ?_));refine zW kR (W9 (n:=0) nt _ (pool_nil a6 rfl rfl rfl) (aG _) b3 oG (fun w2 hc=>hG1.chgB hB.u hc oG a7) bc b1) rfl (fun e' w6 hr=>?_);obtain⟨⟨PA1,TA1,LA1,cp1,ct1,cl1,V1,rfl,hp1⟩,hC,hs1⟩:=hr;replace hB:=hB.tr0 (s1.t (s2.t (s3.t (s4.t s5))));replace hB:=hB.chg hC oG (by simp;omega);replace a3:=a3.tr0 (s2.t (s3.t (s4.t s5)));replace a3:=a3.chg hC oG (by simp;omega);replace a4:=a4.tr0 (s3.t (s4.t s5));replace a4:=a4.chg hC oG (by simp;omega);replace a5:=a5.tr0 (s4.t s5);replace a5:=a5.chg hC oG (by simp;omega);replace a1:=a1.tr0 s5;replace a1:=a1.chg hC oG (by simp;omega);rw[Nat.zero_add]at hp1;have ba:=US.first hya;refine⟨_,rfl,?_⟩;refine zn5 ?_;refine wl (xz (v:= .pointer (some _)) rfl) (wmI rfl (wl (xz (v:= .pointer (some _)) rfl) (zn1 ?_)));have hl13:w.heap.size<=b13:=a7;refine zW kR (W9 (n:=ga.length) nt _ hp1 (aG _) hs1 oG (fun w2 hc=>hG2.chgB hB hc oG a7) b2 b1) rfl (fun e' w7 hr=>?_);obtain⟨⟨PA2,TA2,LA2,cp2,ct2,cl2,V2,rfl,hp2⟩,hC,hs2⟩:=hr
 replace hB:=hB.chg hC oG (by simp;omega);replace a3:=a3.chg hC oG (by simp;omega);replace a4:=a4.chg hC oG (by simp;omega);replace a5:=a5.chg hC oG (by simp;omega);replace a1:=a1.chg hC oG (by simp;omega);have hUl:(ga++gb.map (shN ga.length)).length=ga.length+gb.length:=by simp
 have b9:=(ba.add hyb (fun p hp=>by cases hp)).push (a:=j) (b:=ga.length) oG oG;rw[<- hUl]at hp2;have be:=two_feat (H6 bc) (H6 b2);refine⟨_,rfl,?_⟩;refine zW kR (pjoin_any (U:=(ga++gb.map (shN ga.length))) (J:=[(j,ga.length)]) (nf:=nf) w _ bf hTI hSd hB oG hp2 (aG _) hs2 oG b1 be oG b9) rfl (fun e' w8 hr=>?_);obtain⟨⟨b,rfl,b6,hno⟩,hC,hs3⟩:=hr;replace hB:=hB.chg hC oG (by simp;omega);replace a3:=a3.chg hC oG (by simp;omega);replace a4:=a4.chg hC oG (by simp;omega);replace a5:=a5.chg hC oG (by simp;omega);replace a1:=a1.chg hC oG (by simp;omega);refine⟨_,rfl,?_⟩;refine zn3 ?_;refine ky rfl (fun bg=>?_) (fun bg=>?_)
 ·have hbf:b=false:=by simpa using bg
  have bb:=hno hbf;refine zn2 ?_;refine wl (kK (vs:=#[]) (cs:=#[.slice none 0 0]) (by simp) kR) ?_;refine zk a1 rfl rfl qX rfl zJ (fun w9 hq s6=>?_);replace a1:=hq;refine zn5 ?_;refine kY (.inl rfl) rfl (zZ U28 rfl rfl a1.range0 qX) rfl ?_;exact⟨⟨none,[],false,rfl,fun w2 _=>uZ w2 none,.inr ⟨rfl,rfl,bb⟩⟩,hB.u⟩
 have hbt:b=true:=by simpa using bg
 obtain⟨P3,a8,ρ3,T3,V3,L3,hp3,a2⟩:=b6 hbt;have hz8:=a1.lt;have a9:=Bel.size hB;refine zn4 ?_;refine wl (xz (v:= .pointer (some _)) rfl) ?_
 refine zW kR (G8 (r:=0) (nf:=nf) _ hp3 a2.uf (aG _) hs3 oG b1 (pool_gok2 a2 oG oG be) oG (fun i hi hr z hz=>by
   obtain⟨u,hu,_,hm⟩:=a2.val i hi hr z hz;exact a2.ur u hu z hm) (fun i hi hr=>by
   have:=N0 (nf:=nf) (lo:=0) (a2.srt i hi) (fun z hz=>by
    obtain⟨u,hu,_,hm⟩:=a2.val i hi hr z hz
    exact be u hu z hm) (aK _) oG
   omega)) rfl (fun e' an hr=>?_)
 obtain⟨⟨o,AF,hD,rfl,hN⟩,hC,hs4⟩:=hr;replace hB:=hB.chg hC oG (by simp;omega);replace a3:=a3.chg hC oG (by simp;omega);replace a4:=a4.chg hC oG (by simp;omega);replace a5:=a5.chg hC oG (by simp;omega);replace a1:=a1.chg hC oG (by simp;omega);have ad:FrSame (w8).heap.size an an:=FrSame.refl _ _;obtain⟨Z0,hZ0⟩:∃ z,z=(w8).heap.size:=⟨_,rfl⟩
 rw[<- hZ0]at hN ad hz8 a9;obtain⟨wZ,hwZ⟩:∃ z,z=an:=⟨_,rfl⟩
 replace ad:FrSame Z0 wZ an:=by rw[hwZ];exact FrSame.refl _ _
 rw[<- hwZ]at hN;refine⟨_,rfl,?_⟩;refine zk a1 rfl rfl qX rfl zJ (fun w11 hq s7=>?_);replace ad:=ad.of s7 (fun g hg=>by rw[List.mem_singleton.1 hg];omega);replace a1:=hq;refine zn4 ?_;refine kY (.inl rfl) rfl (zZ U28 rfl rfl a1.range0 qX) rfl ?_;have hcl:(yQ (yy (ga++gb.map (shN ga.length)).length a8 T3 L3) o).length=o.length:=oQ _ _;exact⟨⟨AF,_,true,ret_into hcl,fun w2 hf=>hN w2 (ad.then hf a9),.inl ⟨rfl,P3,a8,ρ3,T3,L3,o,a2,hD,rfl⟩⟩,hB.u⟩
theorem sized_any(A:Option Addr)(n c:Nat)(b:Bool)(w:World):Calls prog 41 #[.agg #[.slice A n c],.bool b] w fun e w'=>(∃ A' n' c' ok x y,e= .returned (.tuple #[.agg #[.slice A' n' c'],.bool ok,.agg #[.int .i64 x,.int .i64 y]])/\SizedS A n c b A' n' c' ok x y)/\Bel w w':=by
 refine enT func41 ntmps41 rfl rfl fun hB=>?_;refine zn2 ?_;refine qY (v:= .agg #[_]) (cs:=#[_]) rfl rfl (fun b2 w1 hb2 s1 hr=>?_);refine qk (cs:=#[.slice none 0 0]) jY rfl (fun b4 w2 a1 s2 hr=>?_);have lo4:=nLT (Bel.size hB.u) hr;refine waB rfl ?_;refine qk (cs:=#[.int .i64 0,.int .i64 0]) uV rfl (fun b6 w3 a2 s3 hr=>?_);have:=nLL a1.lt hr;have lo6:=nLT (Bel.size hB.u) hr;refine zn9 ?_;refine ky rfl (fun c8=>?_) (fun c8=>?_)
 ·have hbf:b=false:=by simpa using c8
  refine zn2 ?_;refine wl (kK (vs:=#[]) (cs:=#[.slice none 0 0]) (by simp) kR) (wl (kK (vs:=#[]) (cs:=#[.int .i64 0,.int .i64 0]) (by simp) kR) ?_);refine zk a1.u rfl rfl qX rfl zJ (fun w4 hq s4=>?_);replace a1:=hq;refine waB rfl ?_;refine zk a2.u rfl rfl qy rfl zJ (fun w5 hq s5=>?_);replace a2:=hq;refine zn4 ?_;refine P4 (.inl rfl) rfl (zZ U28 rfl rfl a1.u.range0 qX) rfl (zZ U45 rfl rfl a2.range0 qy) ?_;exact⟨⟨_,_,_,_,_,_,rfl,.inl ⟨hbf,rfl,rfl,rfl,rfl,rfl,rfl⟩⟩,hB.u⟩
 have hbt:b=true:=by simpa using c8
 refine kQ ?_;refine zV rfl (fun c14=>?_) (fun c14=>?_)
 ·have a3:60<n:=by omega
  refine zn2 ?_;refine wl (kK (vs:=#[]) (cs:=#[.slice none 0 0]) (by simp) kR) (wl (jk (v0:= .int _ _) (v1:= .int _ _) (fun v0 v1=>#[v0,v1]) rfl rfl kR) ?_);refine zk a1.u rfl rfl qX rfl zJ (fun w6 hq s6=>?_);replace a1:=hq;refine waB rfl ?_;refine zk a2.u rfl rfl qy rfl zJ (fun w7 hq s7=>?_);replace a2:=hq;refine zn4 ?_;refine P4 (.inl rfl) rfl (zZ U28 rfl rfl a1.u.range0 qX) rfl (zZ U45 rfl rfl a2.range0 qy) ?_;exact⟨⟨_,_,_,_,_,_,rfl,.inr (.inl ⟨hbt,a3,rfl,rfl,rfl,rfl,rfl,rfl⟩)⟩,hB.u⟩
 have a3:n<=60:=by omega
 refine zn5 ?_;refine wl (kK (vs:=#[]) (cs:=#[.int .i64 0,.int .i64 0]) (by simp) kR) ?_;refine zk a1.u rfl rfl qX rfl zJ (fun w8 hq s8=>?_);replace a1:=hq;refine waB rfl ?_;refine zk a2.u rfl rfl qy rfl zJ (fun w9 hq s9=>?_);replace a2:=hq;refine zn3 ?_;refine P4 (.inl rfl) rfl (zZ U28 rfl rfl a1.u.range0 qX) rfl (zZ U45 rfl rfl a2.range0 qy) ?_;exact⟨⟨_,_,_,_,_,_,rfl,.inr (.inr ⟨hbt,a3,rfl,rfl,rfl,rfl,rfl,rfl⟩)⟩,hB.u⟩
theorem unify_any(A B G1 G2:Option Addr)(c d c1 c2:Nat)(l:List Ty)(fs:List Ft)(ga gb:List Nd)(w:World)(b1:TabIn w)(hT:TypesIn w A l)(hF:FeatsIn w B fs)(hG1:NodesIn w G1 ga)(hG2:NodesIn w G2 gb):Calls prog 11 #[.agg #[.slice A l.length c,.slice B fs.length d],.agg #[.slice G1 ga.length c1],.agg #[.slice G2 gb.length c2]] w fun e w'=>(∃ A X ok f,e= .returned (.tuple #[.agg #[.slice A (List.length X) X.length],.bool ok,.agg #[.int .i64 (Prod.fst f),.int .i64 f.2]])/\(∀ w2,FrSame w.heap.size w' w2->NodesIn w2 A X)/\UnifyS l fs ga gb ok f X)/\Bel w w':=by
 refine enT func11 ntmps11 rfl rfl fun hB=>?_;refine zn2 ?_;refine qY (v:= .agg #[_,_]) (cs:=#[_,_]) rfl rfl (fun b3 w1 hb3 s1 hr=>?_);refine qY (v:= .agg #[_]) (cs:=#[_]) rfl rfl (fun b4 w2 hb4 s2 hr=>?_);refine qY (v:= .agg #[_]) (cs:=#[_]) rfl rfl (fun b5 w3 hb5 s3 hr=>?_);refine qk (cs:=#[.slice none 0 0]) jY rfl (fun b6 w4 a3 s4 hr=>?_);have lo6:=nLT (Bel.size hB.u) hr;refine waB rfl ?_;refine qk (cs:=#[.int .i64 0,.int .i64 0]) uV rfl (fun b8 w5 a2 s5 hr=>?_);have:=nLL a3.lt hr;have lo8:=nLT (Bel.size hB.u) hr;refine zn7 ?_;refine zW kR (HJ A B G1 G2 c d c1 c2 l fs ga gb _ (b1.mono hB.u) (hT.mono hB.u) (hF.mono hB.u) (hG1.mono hB.u) (hG2.mono hB.u)) rfl (fun e' w6 hr=>?_);obtain⟨⟨U,D,n1,k1,n2,k2,rfl,hTB⟩,s6⟩:=hr;replace s6:=sB s6;have b2:Bel w6 w6:=Below.refl _ _;refine⟨_,rfl,?_⟩;refine wmT rfl (wl (y8 (v:=_) rfl rfl) (wl (y8 (v:=_) rfl rfl) ?_));refine qk (cs:=#[.slice none 0 0,.slice none 0 0]) Vz rfl (fun b9 w7 be s7 hr=>?_);have:=nLL hb4.u.lt hr;have:=nLL hb5.u.lt hr;have:=nLL a3.u.lt hr;have:=nLL a2.u.lt hr;have lo9:=nLT (Bel.size hB.u) hr;have a5:=nLT (Bel.size b2) hr;refine qk (cs:=#[.int .i64 0,.int .i64 0]) uV rfl (fun b10 w8 an s8 hr=>?_);have:=nLL hb4.u.lt hr;have:=nLL hb5.u.lt hr;have:=nLL a3.u.lt hr;have:=nLL a2.u.lt hr;have:=nLL be.lt hr;have bc:=nLT (Bel.size hB.u) hr;have a4:=nLT (Bel.size b2.u) hr;refine zk be.u rfl rfl yv rfl zJ (fun w9 hq s9=>?_);replace be:=hq;refine zk an.u rfl rfl qy rfl zJ (fun w10 hq ba=>?_);replace an:=hq;refine vy ?_;refine zV rfl (fun a7=>?_) (fun a7=>?_)
 ·refine xy ?_;refine c_all #[false,false,false,false,false] kR (by rfl) (fun w11 s11=>?_);refine xJ [0,1] kR rfl ⟨fun o a1=>?_,fun o a1=>?_,trivial⟩
  ·cases sI a1;refine wl (kK (vs:=#[]) (cs:=#[.slice none 0 0]) (by simp) kR) (zQ (e_A (listed':=#[true,false,false,false,false]) (by rfl) ?_));refine xJ [1,2] kR rfl ⟨fun o a1=>?_,fun o a1=>?_,trivial⟩
   ·cases sI a1;refine zn2 ?_;refine e_A (listed':=#[true,true,false,false,false]) (by rfl) ?_;refine xJ [2] kR rfl ⟨fun o a1=>?_,trivial⟩;cases sI a1;refine zk a3.u rfl rfl qX rfl zJ (fun w12 hq s12=>?_);replace a3:=hq;refine zQ (e_A (listed':=#[true,true,true,false,false]) (by rfl) ?_);refine xJ [3] kR rfl ⟨fun o a1=>?_,trivial⟩;cases sI a1;refine zn2 ?_;refine e_A (listed':=#[true,true,true,true,false]) (by rfl) ?_;refine xJ [4] kR rfl ⟨fun o a1=>?_,trivial⟩;cases sI a1;refine zk a2.u rfl rfl qy rfl zJ (fun w13 hq s13=>?_);replace a2:=hq;refine zQ (e_A (listed':=#[true,true,true,true,true]) (by rfl) (Q1 kR (zn3 ?_)));refine P4 (.inl rfl) rfl (zZ U28 rfl rfl a3.u.range0 qX) rfl (zZ U45 rfl rfl a2.range0 qy) ?_;exact⟨⟨none,[],false,uj l fs ga gb,rfl,fun w2 _=>uZ w2 none,.inl ⟨a7,rfl,rfl,rfl⟩⟩,hB.u⟩
   cases sI a1;refine zk a3.u rfl rfl qX rfl zJ (fun w14 hq s14=>?_);replace a3:=hq;refine zQ (e_A (listed':=#[true,false,true,false,false]) (by rfl) ?_);refine xJ [1,3] kR rfl ⟨fun o a1=>?_,fun o a1=>?_,trivial⟩
   ·cases sI a1;refine zn2 ?_;refine e_A (listed':=#[true,true,true,false,false]) (by rfl) ?_;refine xJ [3] kR rfl ⟨fun o a1=>?_,trivial⟩;cases sI a1;refine zn2 ?_;refine e_A (listed':=#[true,true,true,true,false]) (by rfl) ?_;refine xJ [4] kR rfl ⟨fun o a1=>?_,trivial⟩;cases sI a1;refine zk a2.u rfl rfl qy rfl zJ (fun w15 hq s15=>?_);replace a2:=hq;refine zQ (e_A (listed':=#[true,true,true,true,true]) (by rfl) (Q1 kR (zn3 ?_)));refine P4 (.inl rfl) rfl (zZ U28 rfl rfl a3.u.range0 qX) rfl (zZ U45 rfl rfl a2.range0 qy) ?_;exact⟨⟨none,[],false,uj l fs ga gb,rfl,fun w2 _=>uZ w2 none,.inl ⟨a7,rfl,rfl,rfl⟩⟩,hB.u⟩
   cases sI a1;refine zn2 ?_;refine e_A (listed':=#[true,false,true,true,false]) (by rfl) ?_;refine xJ [1] kR rfl ⟨fun o a1=>?_,trivial⟩;cases sI a1;refine zn2 ?_;refine e_A (listed':=#[true,true,true,true,false]) (by rfl) ?_;refine xJ [4] kR rfl ⟨fun o a1=>?_,trivial⟩;cases sI a1;refine zk a2.u rfl rfl qy rfl zJ (fun w16 hq s16=>?_);replace a2:=hq;refine zQ (e_A (listed':=#[true,true,true,true,true]) (by rfl) (Q1 kR (zn3 ?_)));refine P4 (.inl rfl) rfl (zZ U28 rfl rfl a3.u.range0 qX) rfl (zZ U45 rfl rfl a2.range0 qy) ?_;exact⟨⟨none,[],false,uj l fs ga gb,rfl,fun w2 _=>uZ w2 none,.inl ⟨a7,rfl,rfl,rfl⟩⟩,hB.u⟩
  cases sI a1;refine zn2 ?_;refine e_A (listed':=#[false,true,false,false,false]) (by rfl) ?_;refine xJ [0] kR rfl ⟨fun o a1=>?_,trivial⟩;cases sI a1;refine wl (kK (vs:=#[]) (cs:=#[.slice none 0 0]) (by simp) kR) (zQ (e_A (listed':=#[true,true,false,false,false]) (by rfl) ?_));refine xJ [2] kR rfl ⟨fun o a1=>?_,trivial⟩;cases sI a1;refine zk a3.u rfl rfl qX rfl zJ (fun w17 hq s17=>?_);replace a3:=hq;refine zQ (e_A (listed':=#[true,true,true,false,false]) (by rfl) ?_);refine xJ [3] kR rfl ⟨fun o a1=>?_,trivial⟩;cases sI a1;refine zn2 ?_;refine e_A (listed':=#[true,true,true,true,false]) (by rfl) ?_;refine xJ [4] kR rfl ⟨fun o a1=>?_,trivial⟩;cases sI a1;refine zk a2.u rfl rfl qy rfl zJ (fun w18 hq s18=>?_);replace a2:=hq;refine zQ (e_A (listed':=#[true,true,true,true,true]) (by rfl) (Q1 kR (zn3 ?_)));refine P4 (.inl rfl) rfl (zZ U28 rfl rfl a3.u.range0 qX) rfl (zZ U45 rfl rfl a2.range0 qy) ?_;exact⟨⟨none,[],false,uj l fs ga gb,rfl,fun w2 _=>uZ w2 none,.inl ⟨a7,rfl,rfl,rfl⟩⟩,hB.u⟩
 have h0:=ak.1 a7;obtain⟨⟨a8,hvb⟩,_⟩:=SY h0;have hzz:=two_zz h0;obtain⟨bu,bd,⟨rfl,rfl,rfl,rfl,rfl,rfl⟩,hTI⟩:=hTB h0;refine zn7 ?_;replace a3:=((a3.tr0 (s5.t (s6.t (s7.t s8)))).tr1 s9 oG).tr1 ba oG;have z6:=a3.lt;replace a2:=((a2.tr0 (s6.t (s7.t s8))).tr1 s9 oG).tr1 ba oG;have z8:=a2.lt;replace hB:=((hB.tr0 (s1.t (s2.t (s3.t (s4.t (s5.t (s6.t (s7.t s8)))))))).tr1 s9 lo9).tr1 ba bc;have a9:=Bel.size hB;replace b2:=((b2.tr0 (s7.t s8)).tr1 s9 a5).tr1 ba a4;refine zW kR (WY (nt:=l.length) (nf:=fs.length) (j:=0) (l:=l) _ (b1.mono hB) (hTI.mono b2) a8.s (hG1.mono hB) (hG2.mono hB) a8.gok hvb.gok a8.gx.toGY hvb.gx.toGY (by have:=a8.few;omega) a8.gok.pos) rfl (fun e' b7 hr=>?_);obtain⟨⟨AX,X,ok,rfl,bf,ad⟩,s19⟩:=hr;replace s19:=sB s19;have a6:FrSame (w10).heap.size b7 b7:=FrSame.refl _ _;obtain⟨Z0,hZ0⟩:∃ z,z=(w10).heap.size:=⟨_,rfl⟩
 rw[<- hZ0]at bf a6 z6 z8 a9;obtain⟨wZ,hwZ⟩:∃ z,z=b7:=⟨_,rfl⟩
 replace a6:FrSame Z0 wZ b7:=by rw[hwZ];exact FrSame.refl _ _
 rw[<- hwZ]at bf;refine⟨_,rfl,?_⟩;refine wl (y8 (v:=_) rfl rfl) (wl (y8 (v:=_) rfl rfl) ?_);refine zW kR (sized_any _ _ _ _ _) rfl (fun e' w20 hr=>?_);obtain⟨⟨A2,n2,c2_,ok2,x2,y2,rfl,hsz⟩,bb⟩:=hr;replace bb:=sB bb;replace a6:=a6.of bb (by simp);refine⟨_,rfl,?_⟩;refine wl (y8 (v:=_) rfl rfl) (wl (y8 (v:=_) rfl rfl) (wl (y8 (v:=_) rfl rfl) ?_));refine zk a3.u rfl rfl qX rfl zJ (fun w21 hq s21=>?_);replace a6:=a6.of s21 (fun g hg=>by rw[List.mem_singleton.1 hg];omega);replace a3:=hq;refine waB rfl ?_;refine zk a2.u rfl rfl qy rfl zJ (fun w22 hq s22=>?_);replace a6:=a6.of s22 (fun g hg=>by rw[List.mem_singleton.1 hg];omega);replace a2:=hq;refine zn3 ?_;refine P4 (.inl rfl) rfl (zZ U28 rfl rfl a3.u.range0 qX) rfl (zZ U45 rfl rfl a2.range0 qy) ?_;obtain⟨X2,hn2,hc2,hN2,hU2⟩:=un_fin h0 ad hsz (fun w2 hf=>bf w2 (a6.then hf a9));exact⟨⟨A2,X2,ok2,(x2,y2),ret_un hn2 (hn2.trans (hc2.symm)) rfl,hN2,hU2⟩,hB.u⟩
end Go.Proofs.YtiofaflajkgiaaaGreatDoor
