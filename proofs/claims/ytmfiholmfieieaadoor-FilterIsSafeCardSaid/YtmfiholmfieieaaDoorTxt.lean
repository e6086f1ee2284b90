/- What these functions compute, at every world: (*unify.pool).graph, unify.Into, unify.sized, unify.Unify; and plain laws. -/
import Derived.Test.YtmfiholmfieieaaDoorU
import Derived.Test.YtmfiholmfieieaaDoorZst
import Derived.Test.YtmfiholmfieieaaDoorPJoin
import Derived.Test.YtmfiholmfieieaaDoorTables
import Derived.Test.YtmfiholmfieieaaDoorGro
import Derived.Laws.CopyRow
import Derived.Laws.Externs
import Derived.Lib.Overlaps
import Derived.Lib.Builder
import Derived.Lib.AppendStr
import Derived.Lib.UnsafeStr
import Derived.Lib.Bytealg
namespace Go.Proofs.YtmfiholmfieieaaDoor
open Go.RowKit
variable {A:Option Addr}{X g:List Nd}{b k n nf ob:Nat}{l:List Ty}{w w':World}
theorem pool_gok2{U:List Nd}{J:List (Nat×Nat)}{P rep ρ:Nat->Nat}{T:Nat->Int}{L:Nat->List (Int×Int)}(h:US l U J P rep ρ T L [])(hp:0<U.length)(hn:U.length<=1000000)(hUf:∀ i,i<U.length->∀ z∈(nd U i).ln,0<=z.1/\z.1<nf):CW nf (y9 U.length rep T L):=by
 have hL:∀ i,i<U.length->rep i=i->∀ z∈L i,0<=z.1/\z.1<nf:=fun i hi hr z hz=>by
  obtain⟨u,hu,_,hm⟩:=h.val i hi hr z hz;exact hUf u hu z hm
 refine⟨by rw[vz];exact hp,by rw[vz];exact hn,fun i hi x hx=>?_,fun i hi=>?_⟩
 ·rw[<- yv hi]at hx
  rw[vz]at hi ⊢;rw[o7 hi]at hx
  dsimp only at hx
  split at hx
  ·rename_i hri
   obtain⟨y,hy,rfl⟩:=ar.1 hx;obtain⟨u,hu,_,hm⟩:=h.val i hi hri y hy;have h1:=hL i hi hri y hy;have h2:=h.ur u hu y hm;have h3:=h.uf.rl _ h2.2;simp only;omega
  ·cases hx
 ·rw[<- yv hi]
  rw[vz]at hi;rw[o7 hi]
  dsimp only
  split
  ·rename_i hri
   rw[List.length_map];have:=IW (nf:=nf) (lo:=0) (h.srt i hi) (hL i hi hri) (aH _) oG;omega
  ·exact ad _
theorem fromn_any(G:Option Addr)(cg nf:Nat)(gr:List Nd)(r n:Nat)(w:World)(hG:NodesIn w G gr)(hn:gr.length=n)(hk:CW nf gr)(hnf:nf<=1000)(hr:r<gr.length):Calls Tryd.prog 55 #[.agg #[.slice G n cg],.int .i64 r] w fun e w'=>(∃ o A,DL gr [r] [] o/\OOk gr.length o/\e= .returned (.agg #[.slice A o.length o.length])/\(∀ w2,FrSame w.heap.size w' w2->NodesIn w2 A (xJ gr o)))/\Bel w w':=by
 subst hn;exact EZ G cg nf gr r w hG hk hnf hr
theorem N0:(Tryd.prog.info? 107).map (fun i=>(i.zero,i.size,i.bytes))=some (some (.agg #[.int .i64 0,.slice none 0 0]),2,32):=by kernel_rfl
set_option maxRecDepth 100000 in
set_option maxHeartbeats 4000000 in
theorem G5{bp r:Nat}{c0 c1:Value}{PA TA LA:Option Addr}{cp ct cl:Nat}{P rep ρ:Nat->Nat}{T:Nat->Int}{V:Nat->Value}{L:Nat->List (Int×Int)}(w:World)(hp:PoolAt w ob bp c0 c1 n PA TA LA cp ct cl P T V L)(hu:UF n P rep ρ)(ep:bp<ob)(hob:ob<=w.heap.size)(hn:n<=1000000)(hnf:nf<=1000)(hG2:CW nf (y9 n rep T L))(e5:r<n)(hLr:∀ i,i<n->rep i=i->∀ z∈L i,0<=z.2/\z.2.toNat<n)(hLl:∀ i,i<n->rep i=i->(L i).length<=nf):Calls Tryd.prog 59 #[.pointer (some ⟨bp,0,none⟩),.int .i64 (r:Nat)] w fun e w'=>(∃ o A,DL (y9 n rep T L) [rep r] [] o/\e= .returned (.agg #[.slice A o.length o.length])/\∀ w2,FrSame w.heap.size w' w2->NodesIn w2 A (xJ (y9 n rep T L) o))/\Chg ob [bp] w w'/\ob<=w'.heap.size:=by
 have hlob:w.heap.size<=w.heap.size:=ae _;obtain⟨a6,a3,a7,a8,a5,hdis⟩:=hp;obtain⟨qp,rfl,hqp,ek,_⟩:=a3.rowc e5;obtain⟨qt,rfl,hqt,ej,_⟩:=a7.rowc e5;obtain⟨ql,rfl,hql,el,_⟩:=a8.rowc e5;obtain⟨zb,cq⟩:∃ b,b=w.heap.size:=⟨_,rfl⟩
 rw[<- cq]at a5;have a1:zb<=w.heap.size:=aF cq;have eo:=a6.lt;rw[<- cq]at ek ej el eo;have a2:Chg ob [bp] w w/\ob<=w.heap.size:=⟨Chg.refl _ _ _,hob⟩
 rw[<- cq];refine enter Tryd.func59 Tryd.ntmps59 rfl (aE rfl) (zn2 ?_);refine qw (cs:=#[.slice none 0 0]) kJ rfl (fun b4 w1 ao t1 hr=>?_);have:=a6.ob hr;have ba:=a3.ob hr;have dh:=a7.ob hr;have dn:=a8.ob hr;have dv:=(nLT a2.2 hr)
 have cc:=(nLT a1 hr)
 replace a5:=qq a5 t1;replace a2:=xx a2 t1;replace a1:=zV a1 t1;refine zn4 ?_;refine qw (cs:=#[.slice none 0 0]) kJ rfl (fun b5 w2 b1 t2 hr=>?_);replace a6:=a6.tr0 t1;have:=a6.ob hr;replace a3:=a3.tr0 t1;have b8:=a3.ob hr;replace a7:=a7.tr0 t1;have dg:=a7.ob hr;replace a8:=a8.tr0 t1;have dm:=a8.ob hr;have du:=(nLT a2.2 hr)
 have be:=(nLT a1 hr)
 have:=ao.ob hr;replace a5:=qq a5 t2;replace a2:=xx a2 t2;replace a1:=zV a1 t2;refine zn4 ?_;have hlo45:=cc;have hlo5b:=be;have hloN:zb<=b5+1:=aD be;refine Zx (wl (x7 (v:= .pointer (some _)) rfl) (wl (Qk rfl) (zn7 ?_)));replace a6:=a6.tr0 t2;replace a3:=a3.tr0 t2;replace a7:=a7.tr0 t2;replace a8:=a8.tr0 t2;refine qk (rgq [6,7,9] 15 48) (fun m g w'=>∃(k:Nat) (AN:Option Addr) (c2:Nat) (Vn:Nat->Value) (P:Nat->Nat),k<=n/\m=n-k/\g 15= .int .i64 k/\Blk w' b4 30 #[.slice none 0 0]/\Blk w' b5 30 #[.slice AN k c2]/\Blk w' bp 132 #[c0,c1,.slice (some ⟨qp,0,none⟩) n cp,.slice (some ⟨qt,0,none⟩) n ct,.slice (some ⟨ql,0,none⟩) n cl]/\Own w' ob 3 1 (some ⟨qp,0,none⟩) n cp (vQ n (vN P))/\Own w' ob 3 1 (some ⟨qt,0,none⟩) n ct (vQ n (vI T))/\Own w' ob 105 1 (some ⟨ql,0,none⟩) n cl (vQ n V)/\(∀ x,x<n->RowO w' ob zb (V x) (L x))/\UF n P rep ρ/\(Chg ob [bp] w w'/\ob<=w'.heap.size)/\zb<=w'.heap.size/\Own w' (b5+1) 107 2 AN k c2 (ndV (vI T) Vn k)/\(∀ x,x<k->RowO w' zb w'.heap.size (Vn x) (nd (y9 n rep T L) x).ln)) (n) ?_ (fun m g3 w3 hI=>?_)
 ·exact⟨0,none,0,fun _=> .slice none 0 0,P,ad _,rfl,rfl,ao.u,b1,a6,a3,a7,a8,a5,hu,a2,a1,Own.nil _ _ _ _,fun x hx=>by omega⟩
 obtain⟨k,AN,c2,Vn,P,hkk,hm,h15,ao,b1,a6,a3,a7,a8,a5,hu,a2,a1,an,ab⟩:=hI;obtain⟨bs,d9⟩:∃ b,b=w3.heap.size:=⟨_,rfl⟩
 rw[<- d9]at ab;have a9:bs<=w3.heap.size:=aF d9;have lu5:=b1.lt;have lu4:=ao.lt;have luN:=fun g hg=>(an.lt g hg).2
 have ef:=a1;rw[<- d9]at lu5 lu4 luN ef;refine zZ 15 _ h15 nu (zn6 ?_);refine zK rfl (fun c16=>?_) (fun c16=>?_)
 ·have ck:k<n:=by omega
  refine jJ ?_;refine wl (x7 (v:= .pointer (some _)) rfl) (wl (Qk rfl) (zn3 ?_));refine wl (xW (i:=k) U36 xv rfl rfl ck rfl) (wl (qW (v:= .int _ _) U3 rfl rfl (a7.rowq ck)) (wl (MZ (v0:= .int _ _) (fun v0=>#[v0,.slice none 0 0]) rfl kR) ?_));refine qw (cs:=#[.int .i64 0,.slice none 0 0]) Yw rfl (fun b7 w4 bb t3 hr=>?_);have:=a6.ob hr;have b6:=a3.ob hr;have df:=a7.ob hr;have dk:=a8.ob hr;have dr:=(nLT a2.2 hr)
  have cb:=(nLT a1 hr)
  have:=ao.ob hr;have:=b1.ob hr;have bf:=an.ob hr;have ce:=(nLT a9 hr)
  replace a5:=qq a5 t3;replace a2:=xx a2 t3;replace a1:=zV a1 t3;replace ab:=qq ab t3;replace a9:=zV a9 t3;refine zJ bb (fun w5 hq t4=>?_);replace a3:=a3.tr0 t3;replace a3:=a3.cB t4;replace a7:=a7.tr0 t3;replace a7:=a7.cB t4;replace a8:=a8.tr0 t3;replace a8:=a8.cB t4;replace a5:=qq a5 t4;replace a2:=xx a2 t4;replace a1:=zV a1 t4;replace an:=an.tr0 t3;replace an:=an.cB t4;replace ab:=qq ab t4;replace a9:=zV a9 t4;replace bb:=hq;refine zn4 ?_;have en:zb<=b7+1:=aD cb;have hbsb7:bs<=b7:=ce;refine Zx (wl (x7 (v:= .pointer (some _)) rfl) (wmI rfl ?_));replace a6:=(a6.tr0 t3).tr1 t4 oG;refine zX kR (Y9 _ a6 a3 ep hu ck) rfl (fun e' w6 hr=>?_);obtain⟨P1,rfl,em,dx,t5⟩:=hr;replace a6:=a6.ta t5 a3;replace a7:=a7.c t5;replace a8:=a8.c t5;replace a5:=qq a5 t5;replace a2:=xx a2 t5;replace a1:=zV a1 t5;replace ao:=(ao.tr0 t3).tr1 t4 oG;replace ao:=ao.tb t5 (fun g hg=>by have:=ba g hg;omega);replace b1:=(b1.tr0 t3).tr1 t4 oG;replace b1:=b1.tb t5 (fun g hg=>by have:=b8 g hg;omega);replace an:=an.c t5;replace ab:=qq ab t5;replace a9:=zV a9 t5;replace bb:=bb.tb t5 (fun g hg=>by have:=b6 g hg;omega);have a3:=em;refine⟨_,rfl,?_⟩;refine zn4 ?_;refine zK rfl (fun c30=>?_) (fun c30=>?_)
  ·have e6:rep k=k:=by omega
   have es:(nd (y9 n rep T L) k).ln=((L k).map (fun x=>(x.1,((rep x.2.toNat:Nat):Int)))):=by rw[o7 ck,if_pos e6]
   obtain⟨Ax,cx,eq,hAo,hAb⟩:=a5 k ck;have hLm:=hAo.max;have hLk:=hLl k ck e6;refine zn2 ?_;refine wl (x7 (v:= .pointer (some _)) rfl) (wl (Qk rfl) (zn3 ?_));refine wl (xW (i:=k) CV kK rfl rfl ck rfl) (wl (qW (v:= .slice Ax (L k).length cx) jx rfl rfl (by have h:=a8.rowq ck;rw[eq]at h;exact h)) (zn5 ?_));refine qk (rgq [9] 39 17) (fun m g w'=>∃(j:Nat) (A5:Option Addr) (cf:Nat) (P1:Nat->Nat),j<=(L k).length/\m=(L k).length-j/\g 39= .int .i64 j/\Blk w' b4 30 #[.slice none 0 0]/\Blk w' b5 30 #[.slice AN k c2]/\Blk w' bp 132 #[c0,c1,.slice (some ⟨qp,0,none⟩) n cp,.slice (some ⟨qt,0,none⟩) n ct,.slice (some ⟨ql,0,none⟩) n cl]/\Own w' ob 3 1 (some ⟨qp,0,none⟩) n cp (vQ n (vN P1))/\Own w' ob 3 1 (some ⟨qt,0,none⟩) n ct (vQ n (vI T))/\Own w' ob 105 1 (some ⟨ql,0,none⟩) n cl (vQ n V)/\(∀ x,x<n->RowO w' ob zb (V x) (L x))/\UF n P1 rep ρ/\(Chg ob [bp] w w'/\ob<=w'.heap.size)/\zb<=w'.heap.size/\Own w' (b5+1) 107 2 AN k c2 (ndV (vI T) Vn k)/\(∀ x,x<k->RowO w' zb bs (Vn x) (nd (y9 n rep T L) x).ln)/\bs<=w'.heap.size/\Blk w' b7 107 #[.int .i64 (T k),.slice A5 j cf]/\Own w' (b7+1) 109 2 A5 j cf (lnV (((L k).take j).map (fun x=>(x.1,((rep x.2.toNat:Nat):Int)))))) ((L k).length) ?_ (fun m g8 w7 hI=>?_)
   ·exact⟨0,none,0,P1,ad _,rfl,rfl,ao,b1,a6,a3,a7,a8,a5,dx,a2,a1,an,ab,a9,bb,Own.nil _ _ _ _⟩
   obtain⟨j,A5,cf,P1,hj,hmj,h39,ao,b1,a6,a3,a7,a8,a5,dx,a2,a1,an,ab,a9,bb,bd⟩:=hI;refine zZ 39 _ h39 nu (zn6 ?_);refine zK rfl (fun c40=>?_) (fun c40=>?_)
   ·have cu:j<(L k).length:=by omega
    have hVk2:=eq;have hlk:=(a5 k ck)
    rw[eq]at hlk;obtain⟨_,hln⟩:=hlk.links;obtain⟨lb,lof,hAx,hlb,hlr⟩:=hln.at_ (Below.refl _ _:Bel w7 w7) cu;subst hAx;have hxr:=hLr k ck e6 _ (ap cu);obtain⟨t,ht⟩:∃ t:Nat,((L k)[j]'cu).2=(t:Int):=⟨(((L k)[j]'cu).2).toNat,by omega⟩
    have htl:t<n:=by omega
    refine zn7 ?_;refine wl (qK Y2 rfl rfl hlr qy) ?_;refine qw (cs:=#[.int .i64 0,.int .i64 0]) ZQ rfl (fun b9 w8 cg t6 hr=>?_);have:=a6.ob hr;have de:=a7.ob hr;have dj:=a8.ob hr;have dq:=(nLT a2.2 hr)
    have dc:=(nLT a1 hr)
    have:=ao.ob hr;have:=b1.ob hr;have di:=an.ob hr;have dp:=(nLT a9 hr)
    have:=bb.ob hr;have b3:=a3.ob hr;have cd:=bd.ob hr;replace a5:=qq a5 t6;replace a2:=xx a2 t6;replace a1:=zV a1 t6;replace ab:=qq ab t6;replace a9:=zV a9 t6;refine zJ cg (fun w9 hq t7=>?_);replace a7:=a7.tr0 t6;replace a7:=a7.cB t7;replace a8:=a8.tr0 t6;replace a8:=a8.cB t7;replace a5:=qq a5 t7;replace a2:=xx a2 t7;replace a1:=zV a1 t7;replace an:=an.tr0 t6;replace an:=an.cB t7;replace ab:=qq ab t7;replace a9:=zV a9 t7;replace a3:=a3.tr0 t6;replace a3:=a3.cB t7;replace bd:=bd.tr0 t6;replace bd:=bd.cB t7;replace cg:=hq;refine x6 (e_S ?_);rw[ht]at cg;have zo:=fun g hg=>(a3.lt g hg).2
    replace a6:=(a6.tr0 t6).tr1 t7 oG;refine Yk 10 (rgq [] 43 10) (aL (some (⟨qp,0,none⟩:Addr))) 7 (fun ix v wv=>match ix with|0=>v= .pointer (some ⟨b7,1,none⟩)|1=>v= .slice A5 j cf|2=>v= .pointer (some ⟨b9,0,none⟩)|3=>v= .int .i64 ((L k)[j]'cu).1|4=>v= .pointer (some ⟨bp,0,none⟩)|5=>v= .pointer (some ⟨b9,1,none⟩)|6=>v= .int .i64 (t:Nat)|7=>∃ Q:Nat->Nat,v= .int .i64 ((rep t:Nat):Int)/\Own wv ob 3 1 (some ⟨qp,0,none⟩) n cp (vQ n (vN Q))/\UF n Q rep ρ|8=>v= .agg #[.int .i64 ((L k)[j]'cu).1,.int .i64 ((rep t:Nat):Int)]|9=>∃ b,v= .slice (some ⟨b,0,none⟩) 1 1/\w9.heap.size<=b/\Blk wv b 109 #[.int .i64 ((L k)[j]'cu).1,.int .i64 ((rep t:Nat):Int)]|_=>True) (fun _=>True) kR kR ?_ (fun _ _ _ _=>trivial) ?_ ?_ dE ?_
    ·intro ix v wv wv2 h t8
     match ix,h with
     | 0,h=>exact h
     | 1,h=>exact h
     | 2,h=>exact h
     | 3,h=>exact h
     | 4,h=>exact h
     | 5,h=>exact h
     | 6,h=>exact h
     | 7,h=>
      obtain⟨P3,e9,bc,d6⟩:=h;exact⟨P3,e9,bc.tr0 t8,d6⟩
     | 8,h=>exact h
     | 9,h=>
      obtain⟨eb,e8,co,bz⟩:=h;exact⟨eb,e8,co,bz.tr0 t8⟩
     | _+10,h=>exact trivial
    ·intro ix o hix bx b2 gg wx t9 hd
     match ix,hix,bx,b2 with
     | 0,_,_,b2=>
      cases sI b2;refine qV (Z5 EJ kK dE rfl rfl rfl) ⟨Same.refl _ _,?_⟩;exact rfl
     | 1,_,_,b2=>
      cases sI b2;replace bb:=(bb.tr0 t6).tr1 t7 oG;replace bb:=bb.tb t9 (fun g hg=>by have:=b6 g hg;omega);refine aX 43 (hd 0 aY) ?_;refine qV (qW (v:= .slice _ _ _) jx rfl rfl (bb.cell rfl)) ⟨Same.refl _ _,?_⟩;exact rfl
     | 2,_,_,b2=>
      cases sI b2;refine qV (Z5 Y2 xv dE rfl rfl rfl) ⟨Same.refl _ _,?_⟩;exact rfl
     | 3,_,_,b2=>
      cases sI b2;replace cg:=cg.tb t9 (fun g hg=>by have:=b3 g hg;omega);refine aX 45 (hd 2 aY) ?_;refine qV (qW (v:= .int _ _) U3 rfl rfl (cg.cell rfl)) ⟨Same.refl _ _,?_⟩;exact rfl
     | 4,_,_,b2=>
      cases sI b2;refine qV (x7 (v:= .pointer (some _)) rfl) ⟨Same.refl _ _,?_⟩;exact rfl
     | 5,_,_,b2=>
      cases sI b2;refine qV (Z5 Y2 xv dE rfl rfl rfl) ⟨Same.refl _ _,?_⟩;exact rfl
     | 6,_,_,b2=>
      cases sI b2;replace cg:=cg.tb t9 (fun g hg=>by have:=b3 g hg;omega);refine aX 48 (hd 5 aY) ?_;refine qV (qW (v:= .int _ _) U3 rfl rfl (cg.cell rfl)) ⟨Same.refl _ _,?_⟩;exact rfl
     | 7,_,bx,_=>exact absurd rfl bx
     | 8,_,_,b2=>
      cases sI b2;obtain⟨P3,e9,bc,d6⟩:=hd 7 (zq kR);refine aX 46 (hd 3 aY) (zz 50 _ e9 nu ?_);refine qV (My (v0:= .int _ _) (v1:= .int _ _) (fun v0 v1=>#[v0,v1]) rfl rfl kR) ⟨Same.refl _ _,?_⟩;exact rfl
     | 9,_,_,b2=>
      cases sI b2;have hs0:=t9;refine aX 51 (hd 8 aY) ?_;refine jK (fun ops Q K=>?_);refine qj (cs:=#[_,_]) [(0,.agg _)] rfl jx qy ZQ dE dE kR rfl (fun eb w10 bz t10 hr=>?_);exact K _ _ ⟨t10,⟨_,rfl,nLT hs0.size hr,bz⟩⟩
     | _+10,hix,_,_=>exact absurd hix oG
    ·intro o b2 gg wx cy hd;cases sI b2;replace a5:=qq a5 cy;replace a2:=xx a2 cy;replace a1:=zV a1 cy;replace ab:=qq ab cy;replace a9:=zV a9 cy;refine aX 47 (hd 4 aY) (aX 49 (hd 6 aY) ?_);replace a6:=a6.tr0 cy;replace a3:=a3.tr0 cy;refine yK kR (Y9 wx a6 a3 ep dx htl) rfl (fun e' w2 hr=>?_);obtain⟨Q,rfl,bc,eh,ee⟩:=hr;refine⟨_,rfl,ee,⟨_,rfl,bc,eh⟩,trivial,fun kx v bx h=>?_⟩
     match kx,bx,h with
     | 0,_,h=>exact h
     | 1,_,h=>exact h
     | 2,_,h=>exact h
     | 3,_,h=>exact h
     | 4,_,h=>exact h
     | 5,_,h=>exact h
     | 6,_,h=>exact h
     | 7,bx,_=>exact absurd rfl bx
     | 8,_,h=>exact h
     | 9,_,h=>
      obtain⟨eb,e8,co,bz⟩:=h;exact⟨eb,e8,co,bz.tr ee (fun hx=>by have:=zo _ hx;omega)⟩
     | _+10,_,_=>exact trivial
    intro gg w11 c5 _ hR;replace a6:=a6.ta c5 a3;replace a7:=a7.c c5;replace a8:=a8.c c5;replace a5:=qq a5 c5;replace a2:=xx a2 c5;replace a1:=zV a1 c5;replace ao:=(ao.tr0 t6).tr1 t7 oG;replace ao:=ao.tb c5 (fun g hg=>by have:=ba g hg;omega);replace b1:=(b1.tr0 t6).tr1 t7 oG;replace b1:=b1.tb c5 (fun g hg=>by have:=b8 g hg;omega);replace an:=an.c c5;replace ab:=qq ab c5;replace a9:=zV a9 c5;replace bb:=(bb.tr0 t6).tr1 t7 oG;replace bb:=bb.tb c5 (fun g hg=>by have:=b6 g hg;omega);replace bd:=bd.c c5;replace cg:=cg.tb c5 (fun g hg=>by have:=b3 g hg;omega);obtain⟨P3,e9,bc,d6⟩:=hR 7 dE;obtain⟨eb,e8,co,bz⟩:=hR 9 dE;have a3:=bc;refine xz 43 _ (hR 0 dE) nu (xz 44 _ (hR 1 dE) nu (xz 50 _ e9 nu (xz 52 _ e8 nu ?_)));refine vZ jx X5 rfl dE bd bz rfl rfl rfl y5 dE oG oG (nLT (Nat.succ_le_of_lt bb.lt) (ae _)) (fun dw ea w12 d8 ca hg=>?_);have cz:dw≠bp:=neA bd a6.lt hg
    have d5:dw≠b4:=neA bd ao.lt hg
    have d4:dw≠b5:=neA bd b1.lt hg
    have d3:dw≠b7:=neA bd bb.lt hg
    have d2:dw≠b9:=neB cg.lt hg (fun g hg=>by have:=cd g hg;omega)
    replace a6:=a6.ta ca bd;replace a7:=a7.c ca;replace a8:=a8.c ca;replace a5:=qq a5 ca;replace a2:=xx a2 ca;replace a1:=zV a1 ca;replace ao:=ao.ta ca bd;replace b1:=b1.ta ca bd;replace an:=an.c ca;replace ab:=qq ab ca;replace a9:=zV a9 ca;replace bb:=bb.ta ca bd;replace a3:=a3.c ca;replace d8:Own w12 (b7+1) 109 2 (some ⟨dw,0,none⟩) (j+1) ea (lnV (((L k).take (j+1)).map (fun x=>(x.1,((rep x.2.toNat:Nat):Int))))):=by
      rw[List.take_succ_eq_append_getElem cu,List.map_append,List.map_cons,List.map_nil,<- Wj];simp only[ht,Int.toNat_natCast];exact d8
    have bd:=d8;refine zn1 ?_;refine xj (v:= .slice _ _ _) bb rfl rfl kK (by first|decide|simp) rfl rfl (fun w13 hq cj=>?_);replace a7:=a7.cB cj;replace a8:=a8.cB cj;replace a5:=qq a5 cj;replace a2:=xx a2 cj;replace a1:=zV a1 cj;replace an:=an.cB cj;replace ab:=qq ab cj;replace a9:=zV a9 cj;replace a3:=a3.cB cj;replace bd:=bd.cB cj;replace bb:=hq;refine zn7 ?_;refine xY ((L k).length-(j+1)) oG agA ?_;replace a6:=a6.tr1 cj oG;exact⟨j+1,_,_,P3,by omega,rfl,rfl,ao.u,b1.u,a6,a3,a7,a8,a5,d6,a2,a1,an,ab,a9,bb,bd⟩
   have hjx:j=(L k).length:=by omega
   subst hjx;obtain⟨sv,dy⟩:∃ sv,sv=Value.slice A5 (L k).length cf:=⟨_,rfl⟩
   obtain⟨P2,er⟩:∃ Q,Q=P1:=⟨_,rfl⟩
   subst er;have ei:=dx;have a4:RowO w7 zb w7.heap.size sv (nd (y9 n rep T L) k).ln:=by
     rw[List.take_length]at bd;have h:=RowO.of (lo:=zb) (xs:=((L k).map (fun x=>(x.1,((rep x.2.toNat:Nat):Int))))) en (A:=A5) (cap:=cf) (by rw[List.length_map];exact bd);rw[List.length_map]at h;rw[es,dy];exact h
   obtain⟨s5,dz⟩:∃ b,b=w7.heap.size:=⟨_,rfl⟩
   rw[<- dz]at a4;have bg:s5<=w7.heap.size:=aF dz;refine zn9 ?_;refine qj (cs:=#[_,_]) [(0,.agg _)] rfl U28 ZX Yw dE dE kR rfl (fun b59 w14 da c4 hr=>?_);have:=a6.ob hr;have bj:=a7.ob hr;have bn:=a8.ob hr;have bq:=(nLT a2.2 hr)
   have bh:=(nLT a1 hr)
   have:=ao.ob hr;have:=b1.ob hr;have bm:=an.ob hr;have bo:=(nLT a9 hr)
   have:=bb.ob hr;have bk:=a3.ob hr;have bi:=(nLT bg hr)
   replace a5:=qq a5 c4;replace a2:=xx a2 c4;replace a1:=zV a1 c4;replace ab:=qq ab c4;replace a9:=zV a9 c4;replace a4:=a4.tr c4 (by simp);replace bg:=zV bg c4;replace an:=an.tr0 c4;refine vZ U28 N0 rfl dE an da rfl rfl rfl y5 dE oG oG b1.u.lt (fun cm cn w15 d7 c9 hg=>?_);replace a6:=a6.tr0 c4;have br:cm≠bp:=neA an a6.lt hg
   have bv:cm≠b4:=neA an ao.u.lt hg
   have bu:cm≠b5:=neA an b1.u.lt hg
   have bt:cm≠b7:=neB bb.u.lt hg (fun g hg=>by have:=bf g hg;omega)
   replace a6:=a6.ta c9 an;replace a7:=a7.tr0 c4;replace a7:=a7.c c9;replace a8:=a8.tr0 c4;replace a8:=a8.c c9;replace a5:=qq a5 c9;replace a2:=xx a2 c9;replace a1:=zV a1 c9;replace ao:=ao.tr0 c4;replace ao:=ao.ta c9 an;replace b1:=b1.tr0 c4;replace b1:=b1.ta c9 an;replace ab:=qq ab c9;replace a9:=zV a9 c9;replace a3:=a3.tr0 c4;replace a3:=a3.c c9;replace a4:=a4.c c9;replace bg:=zV bg c9;have bw:Own w15 (b5+1) 107 2 (some ⟨cm,0,none⟩) (k+1) cn (ndV (vI T) (fun x=>if x=k then sv else Vn x) (k+1)):=by
     rw[Yz,ZV (f':=(vI T)) (h':=Vn) (fun x _=>rfl) (fun x hx=>by rw[if_neg (show ¬x=k from by omega)])];simp only[if_true];rw[dy];exact d7
   refine zn1 ?_;refine xj (v:= .slice _ _ _) b1 rfl rfl NQ (by first|decide|simp) rfl rfl (fun w16 hq c8=>?_);replace a7:=a7.cB c8;replace a8:=a8.cB c8;replace a5:=qq a5 c8;replace a2:=xx a2 c8;replace a1:=zV a1 c8;replace ab:=qq ab c8;replace a9:=zV a9 c8;replace a3:=a3.cB c8;replace a4:=a4.c c8;replace bg:=zV bg c8;replace bw:=bw.cB c8;replace b1:=hq;refine zn7 ?_;refine xY (n-(k+1)) oG agA ?_;replace a6:=a6.tr1 c8 oG;replace ao:=ao.tr1 c8 oG
   exact⟨k+1,_,_,fun x=>if x=k then sv else Vn x,P2,by omega,rfl,rfl,ao,b1,a6,a3,a7,a8,a5,ei,a2,a1,bw,fun x hx=>by
     by_cases e:x=k
     · subst e
       simp only[if_true];exact a4.up bg
     · simp only[if_neg e]
       exact(ab x oG).up a9⟩
  have e6:¬rep k=k:=fun e=>c30 (by rw[e])
  have es:(nd (y9 n rep T L) k).ln= []:=by rw[o7 ck,if_neg e6]
  obtain⟨sv,dy⟩:∃ sv,sv=Value.slice none 0 0:=⟨_,rfl⟩
  obtain⟨P2,er⟩:∃ Q,Q=P1:=⟨_,rfl⟩
  subst er;have ei:=dx;have a4:RowO w6 zb w6.heap.size sv (nd (y9 n rep T L) k).ln:=by rw[es,dy];exact⟨none,0,rfl,Own.nil _ _ _ _,fun g hg=>by cases hg⟩
  obtain⟨s5,dz⟩:∃ b,b=w6.heap.size:=⟨_,rfl⟩
  rw[<- dz]at a4;have bg:s5<=w6.heap.size:=aF dz;refine zn6 ?_;refine qj (cs:=#[_,_]) [(0,.agg _)] rfl U28 ZX Yw dE dE kR rfl (fun b59 w17 da c3 hr=>?_);have:=a6.ob hr;have bj:=a7.ob hr;have bn:=a8.ob hr;have bq:=(nLT a2.2 hr)
  have bh:=(nLT a1 hr)
  have:=ao.ob hr;have:=b1.ob hr;have bm:=an.ob hr;have bo:=(nLT a9 hr)
  have:=bb.ob hr;have bk:=a3.ob hr;have bi:=(nLT bg hr)
  replace a5:=qq a5 c3;replace a2:=xx a2 c3;replace a1:=zV a1 c3;replace ab:=qq ab c3;replace a9:=zV a9 c3;replace a4:=a4.tr c3 (by simp);replace bg:=zV bg c3;replace an:=an.tr0 c3;refine vZ U28 N0 rfl dE an da rfl rfl rfl y5 dE oG oG b1.u.lt (fun cm cn w18 d7 c7 hg=>?_);replace a6:=a6.tr0 c3;have br:cm≠bp:=neA an a6.lt hg
  have bv:cm≠b4:=neA an ao.u.lt hg
  have bu:cm≠b5:=neA an b1.u.lt hg
  have bt:cm≠b7:=neB bb.u.lt hg (fun g hg=>by have:=bf g hg;omega)
  replace a6:=a6.ta c7 an;replace a7:=a7.tr0 c3;replace a7:=a7.c c7;replace a8:=a8.tr0 c3;replace a8:=a8.c c7;replace a5:=qq a5 c7;replace a2:=xx a2 c7;replace a1:=zV a1 c7;replace ao:=ao.tr0 c3;replace ao:=ao.ta c7 an;replace b1:=b1.tr0 c3;replace b1:=b1.ta c7 an;replace ab:=qq ab c7;replace a9:=zV a9 c7;replace a3:=a3.tr0 c3;replace a3:=a3.c c7;replace a4:=a4.c c7;replace bg:=zV bg c7;have bw:Own w18 (b5+1) 107 2 (some ⟨cm,0,none⟩) (k+1) cn (ndV (vI T) (fun x=>if x=k then sv else Vn x) (k+1)):=by
    rw[Yz,ZV (f':=(vI T)) (h':=Vn) (fun x _=>rfl) (fun x hx=>by rw[if_neg (show ¬x=k from by omega)])];simp only[if_true];rw[dy];exact d7
  refine zn1 ?_;refine xj (v:= .slice _ _ _) b1 rfl rfl NQ (by first|decide|simp) rfl rfl (fun w19 hq c6=>?_);replace a7:=a7.cB c6;replace a8:=a8.cB c6;replace a5:=qq a5 c6;replace a2:=xx a2 c6;replace a1:=zV a1 c6;replace ab:=qq ab c6;replace a9:=zV a9 c6;replace a3:=a3.cB c6;replace a4:=a4.c c6;replace bg:=zV bg c6;replace bw:=bw.cB c6;replace b1:=hq;refine zn7 ?_;refine xY (n-(k+1)) oG agA ?_;replace a6:=a6.tr1 c6 oG;replace ao:=ao.tr1 c6 oG
  exact⟨k+1,_,_,fun x=>if x=k then sv else Vn x,P2,by omega,rfl,rfl,ao,b1,a6,a3,a7,a8,a5,ei,a2,a1,bw,fun x hx=>by
    by_cases e:x=k
    · subst e
      simp only[if_true];exact a4.up bg
    · simp only[if_neg e]
      exact(ab x oG).up a9⟩
 have hke:k=n:=by omega
 rw[hke]at an ab b1;refine zn6 ?_;refine Yk 4 [63,64,65,66] (aL (some (⟨qp,0,none⟩:Addr))) 3 (fun ix v wv=>match ix with|0=>v= .agg #[.slice AN n c2]|1=>v= .pointer (some ⟨bp,0,none⟩)|2=>v= .int .i64 (r:Nat)|3=>∃ Q:Nat->Nat,v= .int .i64 ((rep r:Nat):Int)/\Own wv ob 3 1 (some ⟨qp,0,none⟩) n cp (vQ n (vN Q))/\UF n Q rep ρ|_=>True) (fun _=>True) kR kR ?_ (fun _ _ _ _=>trivial) ?_ ?_ dE ?_
 ·intro ix v wv wv2 h t21
  match ix,h with
  | 0,h=>exact h
  | 1,h=>exact h
  | 2,h=>exact h
  | 3,h=>
   obtain⟨P3,et,bc,d6⟩:=h;exact⟨P3,et,bc.tr0 t21,d6⟩
  | _+4,h=>exact trivial
 ·intro ix o hix bx b2 gg wx t22 hd
  match ix,hix,bx,b2 with
  | 0,_,_,b2=>
   cases sI b2;replace b1:=b1.tb t22 (fun g hg=>by have:=b8 g hg;omega);refine qV (qK U30 rfl rfl b1.range0 yj) ⟨Same.refl _ _,?_⟩;exact rfl
  | 1,_,_,b2=>
   cases sI b2;refine qV (x7 (v:= .pointer (some _)) rfl) ⟨Same.refl _ _,?_⟩;exact rfl
  | 2,_,_,b2=>
   cases sI b2;refine qV (x7 (v:= .int _ _) rfl) ⟨Same.refl _ _,?_⟩;exact rfl
  | 3,_,bx,_=>exact absurd rfl bx
  | _+4,hix,_,_=>exact absurd hix oG
 ·intro o b2 gg wx cw hd;cases sI b2;replace a5:=qq a5 cw;replace a2:=xx a2 cw;replace a1:=zV a1 cw;replace ab:=qq ab cw;replace a9:=zV a9 cw;refine aX 64 (hd 1 aY) (aX 65 (hd 2 aY) ?_);replace a6:=a6.tr0 cw;replace a3:=a3.tr0 cw;refine yK kR (Y9 wx a6 a3 ep hu e5) rfl (fun e' w2 hr=>?_);obtain⟨Q,rfl,bc,eh,ee⟩:=hr;refine⟨_,rfl,ee,⟨_,rfl,bc,eh⟩,trivial,fun kx v bx h=>?_⟩
  match kx,bx,h with
  | 0,_,h=>exact h
  | 1,_,h=>exact h
  | 2,_,h=>exact h
  | 3,bx,_=>exact absurd rfl bx
  | _+4,_,_=>exact trivial
 intro gg ed cv _ hR;replace a5:=qq a5 cv;replace a2:=xx a2 cv;replace a1:=zV a1 cv;replace ao:=ao.tb cv (fun g hg=>by have:=ba g hg;omega);replace an:=an.c cv;replace ab:=qq ab cv;replace a9:=zV a9 cv;obtain⟨P3,et,bc,d6⟩:=hR 3 dE;have a3:=bc
 have hNG:NodesIn ed AN (y9 n rep T L):=BY (lo:=zb) (bs:=bs) an (vz _ _ _ _) (fun x hx=>by
   have eg:x<n:=by rw[<- vz n rep T L];exact hx
   rw[<- yv hx,o7 eg];rfl) (fun x hx=>by
   have eg:x<n:=by rw[<- vz n rep T L];exact hx
   have h:=ab x eg
   rw[<- yv hx];exact h)
 have hrl:=hu.rl r e5;have z4:=ao.lt;refine xz 63 _ (hR 0 dE) nu (xz 66 _ et nu ?_);have hzq:=a1;refine zX kR (fromn_any AN c2 nf (y9 n rep T L) (rep r) n _ hNG (vz _ _ _ _) hG2 hnf (by rw[vz];exact hrl)) rfl (fun e' ec hr=>?_);obtain⟨⟨o,AF,hD,hok,rfl,hN⟩,cr⟩:=hr;replace cr:=sB cr;replace a5:=qq a5 cr;replace a2:=xx a2 cr;replace a1:=zV a1 cr;replace ab:=qq ab cr;replace a9:=zV a9 cr;have e7:FrSame (ed).heap.size ec ec:=FrSame.refl _ _;have hzV:zb<=(ed).heap.size:=hzq;obtain⟨Z0,hZ0⟩:∃ z,z=(ed).heap.size:=⟨_,rfl⟩
 rw[<- hZ0]at hN e7 z4 hzV;obtain⟨wZ,hwZ⟩:∃ z,z=ec:=⟨_,rfl⟩
 replace e7:FrSame Z0 wZ ec:=by rw[hwZ];exact FrSame.refl _ _
 rw[<- hwZ]at hN;refine⟨_,rfl,?_⟩;refine zJ ao.u (fun w22 hq db=>?_);replace ao:=ao.tr0 cr;replace a5:=qq a5 db;replace a2:=xx a2 db;replace a1:=zV a1 db;replace ab:=qq ab db;replace a9:=zV a9 db;replace e7:=e7.of db (fun g hg=>by rw[List.mem_singleton.1 hg];omega);replace ao:=hq;refine zn3 ?_;refine xX (.inl rfl) rfl (zw U30 rfl rfl ao.range0 yj) ?_;exact⟨⟨o,AF,hD,rfl,fun w2 hf=>hN w2 (e7.then hf hzV)⟩,a2.1,a2.2⟩
def Xx(l:List Ty)(U:List Nd)(J:List (Nat×Nat))(X:List Nd):Prop:=∃ P rep ρ T L o,US l U J P rep ρ T L []/\DL (y9 U.length rep T L) [rep 0] [] o/\X=xJ (y9 U.length rep T L) o
theorem shN_zero(g:List Nd):g.map (shN 0)=g:=by
 have h:∀ x:Nd,shN 0 x=x:=fun x=>by
  refine V7 rfl ?_;simp[shN]
 rw[List.map_congr_left (g:=id) (fun x _=>h x),List.map_id]
theorem two_feat{U:List Nd}(hU:∀ i,i<U.length->∀ z∈(nd U i).ln,0<=z.1/\z.1<nf)(hg:∀ i,i<g.length->∀ z∈(nd g i).ln,0<=z.1/\z.1<nf):∀ i,i<(U++g.map (shN U.length)).length->∀ z∈(nd (U++g.map (shN U.length)) i).ln,0<=z.1/\z.1<nf:=fun i hi z hz=>by
 by_cases e:i<U.length
 ·rw[oZ e]at hz;exact hU i e z hz
 ·have hl:i-U.length<g.length:=by simp at hi;omega
  have h:=Z6 (U:=U) hl
  rw[show U.length+(i-U.length)=i by omega]at h
  rw[h]at hz
  obtain⟨y,hy,rfl⟩:=ar.1 hz
  exact hg _ hl y hy
theorem WK{nt:Nat}(h:GOk nt nf g):∀ i,i<g.length->∀ z∈(nd g i).ln,0<=z.1/\z.1<nf:=fun i hi z hz=>by
 rw[yv hi]at hz
 have:=h.ln i hi z hz
 omega
theorem pool_nil{bp cp ct cl:Nat}{c0 c1:Value}(h:Blk w bp 132 #[c0,c1,.slice none 0 cp,.slice none 0 ct,.slice none 0 cl])(hp:cp=0)(ht:ct=0)(hl:cl=0):PoolAt w ob bp c0 c1 0 none none none cp ct cl (fun x=>x) (fun _=>0) (fun _=> .slice none 0 0) (fun _=>[]):=by
 subst hp ht hl;exact⟨h,Own.nil _ _ _ _,Own.nil _ _ _ _,Own.nil _ _ _ _,fun x hx=>absurd hx (aw _),fun g hg=>by cases hg⟩
theorem US.first(hg:GY l g):US l g [] (R3 0 (fun x=>x)) (fun x=>if x<0 then x else x) (fun _=>0) (CJ 0 (fun _=>0) g) (Hx 0 (fun _=>[]) g) []:=by
 have h:=(US.nil (l:=l) (P:=fun x=>x) (rep:=fun x=>x) (ρ:=fun _=>0) (T:=fun _=>0) (L:=fun _=>[])).add hg (fun p hp=>by cases hp);rw[List.nil_append,show ([]:List Nd).length=0 from rfl,shN_zero]at h;exact h
theorem NodesIn.chgB{w0 w2:World}{G:Option Addr}(h:NodesIn w0 G g)(hB:Bel w0 w)(hc:Chg ob [b] w w2)(h1:w0.heap.size<=ob)(h2:w0.heap.size<=b):NodesIn w2 G g:=h.mono (hB.chg hc h1 (fun g hg=>by rw[List.mem_singleton.1 hg];exact h2))
theorem ret_into(h:X.length=n):Ending.returned (.tuple #[.agg #[.slice A n n],.bool true])= .returned (.tuple #[.agg #[.slice A X.length X.length],.bool true]):=by rw[h]
set_option maxRecDepth 100000 in
set_option maxHeartbeats 2000000 in
theorem Dk{nt bu bd j c1 c2:Nat}{G1 G2:Option Addr}{ga gb:List Nd}(w:World)(be:TabIn w)(hTI:TableIn w l bu bd)(hSd:I6 l)(hG1:NodesIn w G1 ga)(hG2:NodesIn w G2 gb)(bb:GOk nt nf ga)(b1:GOk nt nf gb)(hya:GY l ga)(hyb:GY l gb)(ao:nf<=1000)(hj:j<ga.length):Calls Tryd.prog 35 #[.agg #[.slice (some ⟨bu,0,none⟩) l.length l.length,.slice (some ⟨bd,0,none⟩) l.length l.length],.agg #[.slice G1 ga.length c1],.int .i64 (j:Nat),.agg #[.slice G2 gb.length c2]] w fun e w'=>(∃ A X ok,e= .returned (.tuple #[.agg #[.slice A (List.length X) X.length],.bool ok])/\(∀ w2,FrSame w.heap.size w' w2->NodesIn w2 A X)/\((ok=true/\Xx l (ga++gb.map (shN ga.length)) [(j,ga.length)] X)\/(ok=false/\X= []/\¬K9 l (ga++gb.map (shN ga.length)) [(j,ga.length)])))/\Bel w w':=by
 have hna:=bb.le;have hnb:=b1.le;have hpb:=b1.pos;refine enT Tryd.func35 Tryd.ntmps35 rfl rfl fun hB=>?_;refine zn2 ?_;refine qZ (cs:=#[_,_]) rfl (fun b4 w1 a3 s1 hr=>?_);have lo4:=hB.ob hr;refine qZ (cs:=#[_]) rfl (fun b5 w2 a4 s2 hr=>?_);have:=a3.ob hr;have lo5:=hB.u.ob hr;refine qZ (cs:=#[_]) rfl (fun b7 w3 a5 s3 hr=>?_);have:=a3.u.ob hr;have:=a4.ob hr;have lo7:=hB.u.ob hr;refine qw (cs:=#[.slice none 0 0]) kJ rfl (fun b8 w4 a1 s4 hr=>?_);have:=a3.u.ob hr;have:=a4.u.ob hr;have:=a5.ob hr;have lo8:=hB.u.ob hr;refine zn6 ?_;refine wl (MZ (v0:= .agg _) (fun v0=>#[(x9 v0 0),(x9 v0 1),.slice none 0 0,.slice none 0 0,.slice none 0 0]) rfl kR) ?_;refine qZ (cs:=#[_,_,_,_,_]) rfl (fun b13 w5 a6 s5 hr=>?_);have:=a3.u.ob hr;have:=a4.u.ob hr;have:=a5.u.ob hr;have:=a1.ob hr;have a7:=hB.u.ob hr;refine wl (uJ (v:= .pointer (some _)) rfl) (zn3 ?_);replace a6:Blk w5 b13 132 #[.slice (some ⟨bu,0,none⟩) l.length l.length,.slice (some ⟨bd,0,none⟩) l.length l.length,.slice none 0 0,.slice none 0 0,.slice none 0 0]:=a6;have b2:=a6.lt;refine Zx (wl (x7 (v:= .pointer (some _)) rfl) (zn1 ?_));refine zX kR (W4 (n:=0) nt _ (pool_nil a6 rfl rfl rfl) (ax _) b2 oG (fun w2 hc=>hG1.chgB hB.u hc oG a7) bb ao) rfl (fun e' w6 hr=>?_);obtain⟨⟨PA1,TA1,LA1,cp1,ct1,cl1,V1,rfl,hp1⟩,hC,hs1⟩:=hr;replace hB:=hB.tr0 (s1.t (s2.t (s3.t (s4.t s5))));replace hB:=hB.chg hC oG (by simp;omega);replace a3:=a3.tr0 (s2.t (s3.t (s4.t s5)));replace a3:=a3.chg hC oG (by simp;omega);replace a4:=a4.tr0 (s3.t (s4.t s5));replace a4:=a4.chg hC oG (by simp;omega);replace a5:=a5.tr0 (s4.t s5);replace a5:=a5.chg hC oG (by simp;omega);replace a1:=a1.tr0 s5;replace a1:=a1.chg hC oG (by simp;omega);rw[Nat.zero_add]at hp1;have b9:=US.first hya;refine⟨_,rfl,?_⟩;refine zn5 ?_;refine wl (x7 (v:= .pointer (some _)) rfl) (wmI rfl (wl (x7 (v:= .pointer (some _)) rfl) (zn1 ?_)));have hl13:w.heap.size<=b13:=a7;refine zX kR (W4 (n:=ga.length) nt _ hp1 (ax _) hs1 oG (fun w2 hc=>hG2.chgB hB hc oG a7) b1 ao) rfl (fun e' w7 hr=>?_);obtain⟨⟨PA2,TA2,LA2,cp2,ct2,cl2,V2,rfl,hp2⟩,hC,hs2⟩:=hr;replace hB:=hB.chg hC oG (by simp;omega);replace a3:=a3.chg hC oG (by simp;omega);replace a4:=a4.chg hC oG (by simp;omega);replace a5:=a5.chg hC oG (by simp;omega);replace a1:=a1.chg hC oG (by simp;omega)
 have hUl:(ga++gb.map (shN ga.length)).length=ga.length+gb.length:=by simp
 have b6:=(b9.add hyb (fun p hp=>by cases hp)).push (a:=j) (b:=ga.length) oG oG;rw[<- hUl]at hp2;have bc:=two_feat (WK bb) (WK b1);refine⟨_,rfl,?_⟩;refine zX kR (pjoin_any (U:=(ga++gb.map (shN ga.length))) (J:=[(j,ga.length)]) (nf:=nf) w _ be hTI hSd hB oG hp2 (ax _) hs2 oG ao bc oG b6) rfl (fun e' w8 hr=>?_);obtain⟨⟨b,rfl,b3,hno⟩,hC,hs3⟩:=hr;replace hB:=hB.chg hC oG (by simp;omega);replace a3:=a3.chg hC oG (by simp;omega);replace a4:=a4.chg hC oG (by simp;omega);replace a5:=a5.chg hC oG (by simp;omega);replace a1:=a1.chg hC oG (by simp;omega);refine⟨_,rfl,?_⟩;refine zn3 ?_;refine jW rfl (fun bf=>?_) (fun bf=>?_)
 ·have hbf:b=false:=by simpa using bf
  have ba:=hno hbf;refine zn2 ?_;refine uW (cs:=#[.slice none 0 0]) ?_;refine zJ a1 (fun w9 hq s6=>?_);replace a1:=hq;refine zn5 ?_;refine Qq (.inl rfl) rfl (zw U30 rfl rfl a1.range0 yj) rfl ?_;exact⟨⟨none,[],false,rfl,fun w2 _=>KJ w2 none,.inr ⟨rfl,rfl,ba⟩⟩,hB.u⟩
 have hbt:b=true:=by simpa using bf
 obtain⟨P3,a8,ρ3,T3,V3,L3,hp3,a2⟩:=b3 hbt;have hz8:=a1.lt;have a9:=Bel.size hB;refine zn4 ?_;refine wl (x7 (v:= .pointer (some _)) rfl) ?_
 refine zX kR (G5 (r:=0) (nf:=nf) _ hp3 a2.uf (ax _) hs3 oG ao (pool_gok2 a2 oG oG bc) oG (fun i hi hr z hz=>by
   obtain⟨u,hu,_,hm⟩:=a2.val i hi hr z hz;exact a2.ur u hu z hm) (fun i hi hr=>by
   have:=IW (nf:=nf) (lo:=0) (a2.srt i hi) (fun z hz=>by
    obtain⟨u,hu,_,hm⟩:=a2.val i hi hr z hz
    exact bc u hu z hm) (aH _) oG
   omega)) rfl (fun e' an hr=>?_)
 obtain⟨⟨o,AF,hD,rfl,hN⟩,hC,hs4⟩:=hr;replace hB:=hB.chg hC oG (by simp;omega);replace a3:=a3.chg hC oG (by simp;omega);replace a4:=a4.chg hC oG (by simp;omega);replace a5:=a5.chg hC oG (by simp;omega);replace a1:=a1.chg hC oG (by simp;omega);have ab:FrSame (w8).heap.size an an:=FrSame.refl _ _;obtain⟨Z0,hZ0⟩:∃ z,z=(w8).heap.size:=⟨_,rfl⟩
 rw[<- hZ0]at hN ab hz8 a9;obtain⟨wZ,hwZ⟩:∃ z,z=an:=⟨_,rfl⟩
 replace ab:FrSame Z0 wZ an:=by rw[hwZ];exact FrSame.refl _ _
 rw[<- hwZ]at hN;refine⟨_,rfl,?_⟩;refine zJ a1 (fun w11 hq s7=>?_);replace ab:=ab.of s7 (fun g hg=>by rw[List.mem_singleton.1 hg];omega);replace a1:=hq;refine zn4 ?_;refine Qq (.inl rfl) rfl (zw U30 rfl rfl a1.range0 yj) rfl ?_;have hcl:(xJ (y9 (ga++gb.map (shN ga.length)).length a8 T3 L3) o).length=o.length:=kw _ _;exact⟨⟨AF,_,true,ret_into hcl,fun w2 hf=>hN w2 (ab.then hf a9),.inl ⟨rfl,P3,a8,ρ3,T3,L3,o,a2,hD,rfl⟩⟩,hB.u⟩
section
section lub
variable {l:List Ty} {fs:List Ft} {ga gb:List Nd}
theorem W3{c:List Nd}{φ ψ:Nat->Nat}(hφ:Hom l ga c φ)(hψ:Hom l gb c ψ)(hya:GY l ga)(hyb:GY l gb):Adm l (ga++gb.map (shN ga.length)) c (fun i=>if i<ga.length then φ i else ψ (i-ga.length)):=by
 have a2:(ga++gb.map (shN ga.length)).length=ga.length+gb.length:=by simp
 have a1:∀ i,i<ga.length+gb.length->¬i<ga.length->nd (ga++gb.map (shN ga.length)) i=shN ga.length (nd gb (i-ga.length))/\i-ga.length<gb.length:=fun i hi hn=>by
  have hl:i-ga.length<gb.length:=by omega
  have h:=Z6 (U:=ga) hl;rw[show ga.length+(i-ga.length)=i by omega]at h;exact⟨h,hl⟩
 refine⟨fun i hi=>?_,fun i hi=>?_,fun i hi x hx=>?_⟩<;>rw[a2]at hi<;>by_cases e:i<ga.length
 ·simp only[if_pos e];exact hφ.lt i e
 ·simp only[if_neg e];exact hψ.lt _ (a1 i hi e).2
 ·simp only[if_pos e];rw[oZ e];exact hφ.ty i e
 ·simp only[if_neg e];rw[(a1 i hi e).1];exact hψ.ty _ (a1 i hi e).2
 ·simp only[if_pos e]
  rw[oZ e]at hx;have h1:=hya.lr i e x hx;rw[if_pos h1.2];exact hφ.ln i e x hx
 ·simp only[if_neg e]
  rw[(a1 i hi e).1]at hx;obtain⟨y,hy,rfl⟩:=ar.1 hx;have h1:=hyb.lr _ (a1 i hi e).2 y hy;have e1:(y.2+(ga.length:Int)).toNat=y.2.toNat+ga.length:=by omega
  simp only[e1];rw[if_neg oG,show y.2.toNat+ga.length-ga.length=y.2.toNat by omega];exact hψ.ln _ (a1 i hi e).2 y hy
theorem Gz{c:List Nd}(hc:GY l c)(ha:Maps l ga c)(hb:Maps l gb c)(hya:GY l ga)(hyb:GY l gb):K9 l (ga++gb.map (shN ga.length)) [(0,ga.length)]:=by
 obtain⟨φ,hφ⟩:=ha;obtain⟨ψ,hψ⟩:=hb;refine⟨c,_,hc.tr,W3 hφ hψ hya hyb,fun p hp=>?_⟩;rw[List.mem_singleton.1 hp];have:=hya.pos;simp[this,hφ.zero,hψ.zero]
structure Lub(l:List Ty)(ga gb X:List Nd):Prop where
 gx:GX l X
 left:Maps l ga X
 right:Maps l gb X
 least:∀ c,GY l c->Maps l ga c->Maps l gb c->Maps l X c
 can:∃ o,DL X [0] [] o/\xJ X o=X
theorem uni_lub(a2:GX l ga)(a5:GX l gb)(h:Xx l (ga++gb.map (shN ga.length)) [(0,ga.length)] X):Lub l ga gb X:=by
 obtain⟨P,rep,ρ,T,L,o,a1,hd,rfl⟩:=h;have hlen:(ga++gb.map (shN ga.length)).length=ga.length+gb.length:=by simp
 have hp:=a2.pos;have hpb:=a5.pos;have h0:0<(ga++gb.map (shN ga.length)).length:=by omega
 have hgy:=a1.gy a2.vt h0;have hr:=a1.uf.rl 0 h0;have a3:=a1.uf.two h0;have t:=hgy.trr (r:=rep 0) (by rw[vz];exact hr) hd;have hj:rep 0=rep ga.length:=a1.jcov (0,ga.length) (by simp) rep ⟨fun i hi=>(a1.uf.two hi).symm,fun w hw=>by cases hw⟩;have z0:∀ x:Nd,shN 0 x=x:=fun x=>V7 rfl (by simp[shN])
 refine⟨t.gx hgy,?_,?_,fun c hc ha hb=>?_,⟨_,?_,t.can2 t.has t.dl⟩⟩
 ·obtain⟨φ,h1,h2,h3,h4,h5⟩:=a1.into a2.vt hr a3 t (g:=ga) (s:=0) a2 (fun i hi=>by
   rw[Nat.zero_add,z0]
   exact⟨by omega,oZ hi⟩) t.has
  exact⟨φ,by rw[h1];exact t.zero,h3,h4,h5⟩
 ·obtain⟨φ,h1,h2,h3,h4,h5⟩:=a1.into a2.vt hr a3 t (g:=gb) (s:=ga.length) a5 (fun i hi=>⟨by omega,Z6 hi⟩) (by rw[<- hj];exact t.has)
  exact⟨φ,by rw[h1,<- hj];exact t.zero,h3,h4,h5⟩
 ·obtain⟨φ,hφ⟩:=ha
  obtain⟨ψ,hψ⟩:=hb;have hA:=W3 hφ hψ a2.toGY a5.toGY;have hJ:∀ p∈[((0:Nat),ga.length)],(fun i=>if i<ga.length then φ i else ψ (i-ga.length)) p.1=(fun i=>if i<ga.length then φ i else ψ (i-ga.length)) p.2:=fun p hpm=>by
   rw[List.mem_singleton.1 hpm];simp[hp,hφ.zero,hψ.zero]
  have a4:=(a1.only c _ hc.tr hA hJ).1.1 0 h0;refine a1.least hr a3 t hc.tr hA hJ ?_;exact a4.symm.trans (by simp[hp,hφ.zero])
 ·have:=t.dl2 t.has t.dl
  rw[t.zero]at this;exact this
theorem Lub.uniq{Y:List Nd}(h:Lub l ga gb X)(k:Lub l ga gb Y):X=Y:=by
 obtain⟨o,ho,e⟩:=h.can;obtain⟨p,hp,e2⟩:=k.can;have:=can_eq h.gx k.gx (h.least Y k.gx.toGY k.left k.right) (k.least X h.gx.toGY h.left h.right) ho hp;rw[e,e2]at this;exact this.symm
end lub
end
inductive Sm where
 | mk (base:ByteArray) (args:List Sm)
def Sm.base:Sm->ByteArray | .mk b _=>b
def Sm.args:Sm->List Sm | .mk _ a=>a
theorem Sm.eta(s:Sm):s= .mk s.base s.args:=by cases s;rfl
mutual
inductive SimAt(w:World):Nat->Nat->Sm->Prop
 | mk {b o:Nat} {base:ByteArray} {args:List Sm} {A:Option Addr} {c:Nat} (hb:b<w.heap.size) (h:w.rangeAt b o [.string base,.slice A (List.length args) c]) (hs:SimsIn w A args):SimAt w b o (.mk base args)
inductive SimsIn(w:World):Option Addr->List Sm->Prop
 | nil {A:Option Addr}:SimsIn w A []
 | more {b o:Nat} {args:List Sm} (hl:args.length<=vJ) (hb:b<w.heap.size) (h:∀ k (hk:k<args.length),SimAt w b (o+k*2) args[k]):SimsIn w (some ⟨b,o,none⟩) args
end
theorem SimAt.both(hw:Bel w w'):(∀ {b o:Nat} {s:Sm},SimAt w b o s->SimAt w' b o s)/\∀ {A:Option Addr} {l:List Sm},SimsIn w A l->SimsIn w' A l:=by
 have h1:∀ {b o:Nat} {s:Sm} (h:SimAt w b o s),SimAt w' b o s:=fun h=>
  SimAt.rec (motive_1:=fun b o s _=>SimAt w' b o s) (motive_2:=fun A l _=>SimsIn w' A l)
   (fun hb h _ ih=> .mk (nLL hb hw.size) (hw.range hb h) ih) .nil (fun hl hb _ ih=> .more hl (nLL hb hw.size) ih) h
 have h2:∀ {A:Option Addr} {l:List Sm} (h:SimsIn w A l),SimsIn w' A l:=fun h=>
  SimsIn.rec (motive_1:=fun b o s _=>SimAt w' b o s) (motive_2:=fun A l _=>SimsIn w' A l)
   (fun hb h _ ih=> .mk (nLL hb hw.size) (hw.range hb h) ih) .nil (fun hl hb _ ih=> .more hl (nLL hb hw.size) ih) h
 exact⟨h1,h2⟩
theorem SimAt.mono{o:Nat}{s:Sm}(h:SimAt w b o s)(hw:Bel w w'):SimAt w' b o s:=(SimAt.both hw).1 h
theorem SimsIn.mono{l:List Sm}(h:SimsIn w A l)(hw:Bel w w'):SimsIn w' A l:=(SimAt.both hw).2 h
theorem SimsIn.le{l:List Sm}(h:SimsIn w A l):l.length<=vJ:=by
 cases h with
 | nil=>exact ad _
 | more hl=>exact hl
theorem SimsIn.at_{l:List Sm}(h:SimsIn w A l)(hk:k<l.length):∃ b o A' c,A=some ⟨b,o,none⟩/\b<w.heap.size/\w.rangeAt b (o+k*2) [Value.string (l[k]).base,.slice A' (l[k]).args.length c]/\SimsIn w A' (l[k]).args:=by
 cases h with
 | nil=>simp at hk
 | @more b o _ _ hb h=>
  have hx:=h k hk
  generalize l[k]=s at hx
  cases hx with
  | mk _ hr hs=>exact⟨b,o,_,_,rfl,hb,hr,hs⟩
def smE:ByteArray:=⟨#[101]⟩
def smT:ByteArray:=⟨#[116]⟩
def Oj(s:Sm):Prop:=((s.base=smE\/s.base=smT)/\s.args.length=0)\/(s.base=⟨#[]⟩/\s.args.length=2)
instance(s:Sm):Decidable (Oj s):=by unfold Oj;infer_instance
mutual
def swk:Sm->Nat->Nat->Nat×Int
 | .mk b l,d,n=>if 200<n+1\/40<d then (n+1,1)else if Oj (.mk b l)then Ox l (d+1) (n+1)else (n+1,5)
def Ox:List Sm->Nat->Nat->Nat×Int
 | [],_,n=>(n,0)
 | x::r,d,n=>if (swk x d n).2=0 then Ox r d (swk x d n).1 else swk x d n
end
theorem Lq(s:Sm)(d n:Nat):swk s d n=if 200<n+1\/40<d then (n+1,1)else if Oj s then Ox s.args (d+1) (n+1)else (n+1,5):=by
 cases s;rw[swk];rfl
def smF(s:Sm):Int:=(swk s 1 0).2
inductive Ts where
 | b (t:Bool)
 | f (x y:Ts)
def Ts.sm:Ts->Sm
 | .b t=> .mk (if t then smT else smE) []
 | .f x y=> .mk ⟨#[]⟩ [x.sm,y.sm]
def Ts.size:Ts->Nat
 | .b _=>1
 | .f x y=>x.size+y.size+1
def Ts.eqb:Ts->Ts->Bool
 | .b s,.b t=>s==t
 | .f x y,.f p q=>x.eqb p&&y.eqb q
 | _,_=>false
theorem Ts.eqb_iff:∀ {a b:Ts},a.eqb b=true↔a=b
 | .b s,.b t=>by simp[Ts.eqb]
 | .f x y,.f p q=>by simp[Ts.eqb,Ts.eqb_iff (a:=x),Ts.eqb_iff (a:=y)]
 | .b s,.f p q=>by simp[Ts.eqb]
 | .f x y,.b t=>by simp[Ts.eqb]
theorem smOk_leaf{s:Sm}(h:Oj s)(hl:s.args.length=0):∃ t,s=(Ts.b t).sm:=by
 rcases h with ⟨hb,_⟩|⟨_,h2⟩
 ·have ha:s.args= []:=aI.1 hl
  rcases hb with hb|hb
  ·exact⟨false,by rw[Sm.eta s,hb,ha];rfl⟩
  ·exact⟨true,by rw[Sm.eta s,hb,ha];rfl⟩
 ·omega
mutual
theorem Lz:∀(s:Sm) (d n:Nat),(swk s d n).2=0->∃ τ:Ts,s=τ.sm/\(swk s d n).1=n+τ.size/\n+τ.size<=200
 | .mk b l,d,n,h=>by
  rw[swk]at h ⊢
  by_cases h1:200<n+1\/40<d
  ·rw[if_pos h1]at h;cases h
  ·rw[if_neg h1]at h ⊢
   by_cases h2:Oj (.mk b l)
   ·rw[if_pos h2]at h ⊢
    obtain⟨ts,e1,e2,e3⟩:=swks_ts l (d+1) (n+1) h oG
    match l,ts,e1,h2 with
    | [],ts,e1,h2=>
     obtain⟨t,ht⟩:=smOk_leaf h2 rfl
     cases ts with
     | nil=>exact⟨.b t,ht,e2,by simp[Ts.size]at e3 ⊢;omega⟩
     | cons a r=>cases e1
    | [x,y],[p,q],e1,h2=>
     simp only[List.map_cons,List.map_nil,List.cons.injEq,and_true]at e1
     rcases h2 with ⟨_,h2⟩|⟨h2,_⟩
     ·cases h2
     ·have h2:b=⟨#[]⟩:=h2
      simp only[List.map_cons,List.map_nil,List.sum_cons,List.sum_nil]at e2 e3
      refine⟨.f p q,?_,?_,?_⟩
      ·rw[h2,e1.1,e1.2];rfl
      ·rw[e2];show _=n+(p.size+q.size+1);omega
      ·show n+(p.size+q.size+1)<=200;omega
    | [x],ts,_,h2=>rcases h2 with ⟨_,h2⟩|⟨_,h2⟩<;>cases h2
    | x::y::z::r,ts,_,h2=>rcases h2 with ⟨_,h2⟩|⟨_,h2⟩<;>cases h2
   ·rw[if_neg h2]at h;cases h
theorem swks_ts:∀(l:List Sm) (d n:Nat),(Ox l d n).2=0->n<=200->∃ ts:List Ts,l=ts.map Ts.sm/\(Ox l d n).1=n+(ts.map Ts.size).sum/\n+(ts.map Ts.size).sum<=200
 | [],d,n,_,hn=>⟨[],rfl,by rw[Ox];rfl,hn⟩
 | x::r,d,n,h,hn=>by
  rw[Ox]at h ⊢
  by_cases h1:(swk x d n).2=0
  ·rw[if_pos h1]at h ⊢
   obtain⟨τ,e1,e2,e3⟩:=Lz x d n h1
   rw[e2]at h ⊢
   obtain⟨ts,k1,k2,k3⟩:=swks_ts r d (n+τ.size) h e3
   exact⟨τ::ts,by rw[e1,k1];rfl,by rw[k2];simp;omega,by simp;omega⟩
  ·rw[if_neg h1]at h;exact absurd h h1
end
theorem smF_ts{s:Sm}(h:smF s=0):∃ τ:Ts,s=τ.sm/\τ.size<=200:=by
 obtain⟨τ,e,_,e2⟩:=Lz s 1 0 h;exact⟨τ,e,by omega⟩
theorem Ts.sm_inj:∀ {a b:Ts},a.sm=b.sm->a=b
 | .b s,.b t,h=>by
  cases s<;>cases t<;>first|rfl|(exfalso;revert h;simp[Ts.sm,smE,smT])
 | .b s,.f x y,h=>by exfalso;revert h;cases s<;>simp[Ts.sm]
 | .f x y,.b t,h=>by exfalso;revert h;cases t<;>simp[Ts.sm]
 | .f x y,.f p q,h=>by
  simp only[Ts.sm,Sm.mk.injEq,List.cons.injEq,and_true,true_and]at h
  rw[Ts.sm_inj h.1,Ts.sm_inj h.2]
def Ts.txt:Ts->List UInt8
 | .b t=>if t then [116]else [101]
 | .f x y=>40::(x.txt++32::(y.txt++[41]))
inductive Tm where
 | mk (kind:Int) (name:ByteArray) (index:Int) (type:Sm) (args:List Tm)
def Tm.kind:Tm->Int | .mk k _ _ _ _=>k
def Tm.name:Tm->ByteArray | .mk _ n _ _ _=>n
def Tm.index:Tm->Int | .mk _ _ i _ _=>i
def Tm.type:Tm->Sm | .mk _ _ _ t _=>t
def Tm.args:Tm->List Tm | .mk _ _ _ _ a=>a
theorem Tm.eta(t:Tm):t= .mk t.kind t.name t.index t.type t.args:=by cases t;rfl
mutual
inductive TmAt(w:World):Nat->Nat->Tm->Prop
 | mk {b o:Nat} {k i:Int} {nm:ByteArray} {s:Sm} {args:List Tm} {A B:Option Addr} {c d:Nat} (hb:b<w.heap.size) (h:w.rangeAt b o [.int .i64 k,.string nm,.int .i64 i,.string s.base,.slice A s.args.length c,.slice B (List.length args) d]) (hs:SimsIn w A s.args) (ht:TmsIn w B args):TmAt w b o (.mk k nm i s args)
inductive TmsIn(w:World):Option Addr->List Tm->Prop
 | nil {A:Option Addr}:TmsIn w A []
 | more {b o:Nat} {args:List Tm} (hl:args.length<=vJ) (hb:b<w.heap.size) (h:∀ k (hk:k<args.length),TmAt w b (o+k*6) args[k]):TmsIn w (some ⟨b,o,none⟩) args
end
theorem TmAt.both(hw:Bel w w'):(∀ {b o:Nat} {s:Tm},TmAt w b o s->TmAt w' b o s)/\∀ {A:Option Addr} {l:List Tm},TmsIn w A l->TmsIn w' A l:=by
 have h1:∀ {b o:Nat} {s:Tm} (h:TmAt w b o s),TmAt w' b o s:=fun h=>
  TmAt.rec (motive_1:=fun b o s _=>TmAt w' b o s) (motive_2:=fun A l _=>TmsIn w' A l)
   (fun hb h hs _ ih=> .mk (nLL hb hw.size) (hw.range hb h) (hs.mono hw) ih) .nil (fun hl hb _ ih=> .more hl (nLL hb hw.size) ih) h
 have h2:∀ {A:Option Addr} {l:List Tm} (h:TmsIn w A l),TmsIn w' A l:=fun h=>
  TmsIn.rec (motive_1:=fun b o s _=>TmAt w' b o s) (motive_2:=fun A l _=>TmsIn w' A l)
   (fun hb h hs _ ih=> .mk (nLL hb hw.size) (hw.range hb h) (hs.mono hw) ih) .nil (fun hl hb _ ih=> .more hl (nLL hb hw.size) ih) h
 exact⟨h1,h2⟩
theorem TmAt.mono{o:Nat}{s:Tm}(h:TmAt w b o s)(hw:Bel w w'):TmAt w' b o s:=(TmAt.both hw).1 h
theorem TmsIn.mono{l:List Tm}(h:TmsIn w A l)(hw:Bel w w'):TmsIn w' A l:=(TmAt.both hw).2 h
theorem TmsIn.le{l:List Tm}(h:TmsIn w A l):l.length<=vJ:=by
 cases h with
 | nil=>exact ad _
 | more hl=>exact hl
theorem TmsIn.at_{l:List Tm}(h:TmsIn w A l)(hk:k<l.length):∃ b o A' c B d,A=some ⟨b,o,none⟩/\b<w.heap.size/\w.rangeAt b (o+k*6) [Value.int .i64 (l[k]).kind,.string (l[k]).name,.int .i64 (l[k]).index,.string (l[k]).type.base,.slice A' (l[k]).type.args.length c,.slice B (l[k]).args.length d]/\SimsIn w A' (l[k]).type.args/\TmsIn w B (l[k]).args:=by
 cases h with
 | nil=>simp at hk
 | @more b o _ _ hb h=>
  have hx:=h k hk
  generalize l[k]=s at hx
  cases hx with
  | mk _ hr hs ht=>exact⟨b,o,_,_,_,_,rfl,hb,hr,hs,ht⟩
def NW(s:Sm):Prop:=s.base=⟨#[]⟩/\s.args.length=0
instance(s:Sm):Decidable (NW s):=by unfold NW;infer_instance
def ndC(b:Nat)(t:Tm):Int:=
 if t.kind=1 then (if t.index=0/\t.args.length=0 then (if yQ t.name=true then (if smF t.type=0 then 0 else 12)else 10)else 5)
 else if t.kind=2 then (if t.name=⟨#[]⟩/\NW t.type/\t.args.length=0 then (if t.index<0\/(b:Int)<=t.index then 15 else 0)else 5)
 else if t.kind=3 then (if t.name=⟨#[]⟩/\t.index=0/\t.args.length=1 then (if smF t.type=0 then 0 else 12)else 5)
 else if t.kind=4 then (if t.name=⟨#[]⟩/\t.index=0/\NW t.type/\t.args.length=2 then 0 else 5)
 else 4
theorem ndC_mk(b:Nat)(k:Int)(nm:ByteArray)(i:Int)(s:Sm)(l:List Tm):ndC b (.mk k nm i s l) =
 if k=1 then (if i=0/\l.length=0 then (if yQ nm=true then (if smF s=0 then 0 else 12)else 10)else 5)
 else if k=2 then (if nm=⟨#[]⟩/\NW s/\l.length=0 then (if i<0\/(b:Int)<=i then 15 else 0)else 5)
 else if k=3 then (if nm=⟨#[]⟩/\i=0/\l.length=1 then (if smF s=0 then 0 else 12)else 5)
 else if k=4 then (if nm=⟨#[]⟩/\i=0/\NW s/\l.length=2 then 0 else 5)
 else 4:=rfl
def inB(t:Tm)(b:Nat):Nat:=if t.kind=3 then b+1 else b
mutual
def twk:Tm->Nat->Nat->Nat->Nat×Fl
 | .mk k nm i s l,d,b,n=>if 200<n+1\/40<d then (n+1,(1,(n:Int)))else if ndC b (.mk k nm i s l)=0 then VX l (d+1) (inB (.mk k nm i s l) b) (n+1)else (n+1,(ndC b (.mk k nm i s l),(n:Int)))
def VX:List Tm->Nat->Nat->Nat->Nat×Fl
 | [],_,_,n=>(n,(0,0))
 | x::r,d,b,n=>if (twk x d b n).2.1=0 then VX r d b (twk x d b n).1 else twk x d b n
end
theorem Ny(t:Tm)(d b n:Nat):twk t d b n=if 200<n+1\/40<d then (n+1,(1,(n:Int)))else if ndC b t=0 then VX t.args (d+1) (inB t b) (n+1)else (n+1,(ndC b t,(n:Int))):=by
 cases t;rw[twk];rfl
theorem twks_z:∀(l:List Tm) (d b n:Nat),(VX l d b n).2.1=0->(VX l d b n).2=(0,0)
 | [],_,_,_,_=>by rw[VX]
 | .mk k nm i s a::r,d,b,n,h=>by
  rw[VX]at h ⊢
  by_cases h1:(twk (.mk k nm i s a) d b n).2.1=0
  ·rw[if_pos h1]at h ⊢;exact twks_z r d b _ h
  ·rw[if_neg h1]at h;exact absurd h h1
theorem twk_z{t:Tm}{d:Nat}(h:(twk t d b n).2.1=0):(twk t d b n).2=(0,0):=by
 rw[Ny]at h ⊢;by_cases h1:200<n+1\/40<d
 ·rw[if_pos h1]at h;cases h
 ·rw[if_neg h1]at h ⊢
  by_cases h2:ndC b t=0
  ·rw[if_pos h2]at h ⊢;exact twks_z _ _ _ _ h
  ·rw[if_neg h2]at h;exact absurd h h2
inductive Tv where
 | con (nm:ByteArray) (τ:Ts)
 | var (i:Nat)
 | abs (τ:Ts) (x:Tv)
 | app (x y:Tv)
def smZ:Sm:= .mk ⟨#[]⟩ []
def Tv.tm:Tv->Tm
 | .con nm τ=> .mk 1 nm 0 τ.sm []
 | .var i=> .mk 2 ⟨#[]⟩ i smZ []
 | .abs τ x=> .mk 3 ⟨#[]⟩ 0 τ.sm [x.tm]
 | .app x y=> .mk 4 ⟨#[]⟩ 0 smZ [x.tm,y.tm]
def Tv.size:Tv->Nat
 | .con _ _=>1
 | .var _=>1
 | .abs _ x=>x.size+1
 | .app x y=>x.size+y.size+1
theorem Tv.pos(v:Tv):0<v.size:=by cases v<;>simp[Tv.size]
def Tv.ok:Nat->Tv->Prop
 | _,.con _ τ=>τ.size<=200
 | b,.var i=>i<b
 | b,.abs τ x=>τ.size<=200/\x.ok (b+1)
 | b,.app x y=>x.ok b/\y.ok b
theorem smNo_z{s:Sm}(h:NW s):s=smZ:=by
 rw[Sm.eta s,h.1,List.length_eq_zero_iff.1 h.2];rfl
theorem nil_of{α:Type}{l:List α}(h:l.length=0):l= []:=aI.1 h
mutual
theorem L0:∀(t:Tm) (d b n:Nat),(twk t d b n).2.1=0->∃ v:Tv,t=v.tm/\v.ok b/\(twk t d b n).1=n+v.size/\n+v.size<=200
 | .mk k nm i s l,d,b,n,h=>by
  rw[twk]at h ⊢
  by_cases h1:200<n+1\/40<d
  ·rw[if_pos h1]at h;cases h
  rw[if_neg h1]at h ⊢
  by_cases h2:ndC b (.mk k nm i s l)=0
  ·rw[if_pos h2]at h ⊢
   obtain⟨vs,e1,e0,e2,e3⟩:=twks_tv l (d+1) (inB (.mk k nm i s l) b) (n+1) h oG
   rw[e2]
   rw[ndC_mk]at h2
   by_cases k1:k=1
   ·subst k1
    rw[if_pos rfl]at h2
    by_cases q:i=0/\l.length=0
    ·rw[if_pos q]at h2
     obtain⟨rfl,q2⟩:=q
     obtain rfl:=nil_of q2
     by_cases q3:yQ nm=true
     ·rw[if_pos q3]at h2
      by_cases q4:smF s=0
      ·obtain⟨τ,rfl,hτ⟩:=smF_ts q4
       obtain rfl:vs= []:=by cases vs with|nil=>rfl|cons a r=>cases e1
       exact⟨.con nm τ,rfl,hτ,by simp[Tv.size],by simp[Tv.size];omega⟩
      ·rw[if_neg q4]at h2;cases h2
     ·rw[if_neg q3]at h2;cases h2
    ·rw[if_neg q]at h2;cases h2
   rw[if_neg k1]at h2
   by_cases k2:k=2
   ·subst k2
    rw[if_pos rfl]at h2
    by_cases q:nm=⟨#[]⟩/\NW s/\l.length=0
    ·rw[if_pos q]at h2
     obtain⟨rfl,qs,q2⟩:=q
     obtain rfl:=nil_of q2
     obtain rfl:=smNo_z qs
     by_cases q3:i<0\/(b:Int)<=i
     ·rw[if_pos q3]at h2;cases h2
     ·obtain⟨j,rfl⟩:∃ j:Nat,i=j:=⟨i.toNat,by omega⟩
      obtain rfl:vs= []:=by cases vs with|nil=>rfl|cons a r=>cases e1
      exact⟨.var j,rfl,show j<b by omega,by simp[Tv.size],by simp[Tv.size];omega⟩
    ·rw[if_neg q]at h2;cases h2
   rw[if_neg k2]at h2
   by_cases k3:k=3
   ·subst k3
    rw[if_pos rfl]at h2
    by_cases q:nm=⟨#[]⟩/\i=0/\l.length=1
    ·rw[if_pos q]at h2
     obtain⟨rfl,rfl,q2⟩:=q
     by_cases q4:smF s=0
     ·obtain⟨τ,rfl,hτ⟩:=smF_ts q4
      match l,vs,e1,q2 with
      | [x],[v],e1,_=>
       simp only[List.map_cons,List.map_nil,List.cons.injEq,and_true]at e1
       simp only[List.map_cons,List.map_nil,List.sum_cons,List.sum_nil]at e3 ⊢
       have eb:=e0 v (aj.2 rfl)
       have a1:inB (.mk 3 ⟨#[]⟩ 0 τ.sm [x]) b=b+1:=rfl
       rw[a1]at eb
       exact⟨.abs τ v,by rw[e1];rfl,⟨hτ,eb⟩,by simp only[Tv.size];omega,by simp only[Tv.size];omega⟩
     ·rw[if_neg q4]at h2;cases h2
    ·rw[if_neg q]at h2;cases h2
   rw[if_neg k3]at h2
   by_cases k4:k=4
   ·subst k4
    rw[if_pos rfl]at h2
    by_cases q:nm=⟨#[]⟩/\i=0/\NW s/\l.length=2
    ·obtain⟨rfl,rfl,qs,q2⟩:=q
     obtain rfl:=smNo_z qs
     match l,vs,e1,q2 with
     | [x,y],[v,u],e1,_=>
      simp only[List.map_cons,List.map_nil,List.cons.injEq,and_true]at e1
      simp only[List.map_cons,List.map_nil,List.sum_cons,List.sum_nil]at e3 ⊢
      have eb:=e0 v (by simp)
      have eu:=e0 u (by simp)
      have a1:inB (.mk 4 ⟨#[]⟩ 0 smZ [x,y]) b=b:=rfl
      rw[a1]at eb eu
      exact⟨.app v u,by rw[e1.1,e1.2];rfl,⟨eb,eu⟩,by simp only[Tv.size];omega,by simp only[Tv.size];omega⟩
    ·rw[if_neg q]at h2;cases h2
   ·rw[if_neg k4]at h2;cases h2
  ·rw[if_neg h2]at h;exact absurd h h2
theorem twks_tv:∀(l:List Tm) (d b n:Nat),(VX l d b n).2.1=0->n<=200->∃ vs:List Tv,l=vs.map Tv.tm/\(∀ v∈vs,v.ok b)/\(VX l d b n).1=n+(vs.map Tv.size).sum/\n+(vs.map Tv.size).sum<=200
 | [],d,b,n,_,hn=>⟨[],rfl,(fun _ h=>by cases h),(by rw[VX];rfl),hn⟩
 | x::r,d,b,n,h,hn=>by
  rw[VX]at h ⊢
  by_cases h1:(twk x d b n).2.1=0
  ·rw[if_pos h1]at h ⊢
   obtain⟨v,e1,e0,e2,e3⟩:=L0 x d b n h1
   rw[e2]at h ⊢
   obtain⟨vs,k1,k0,k2,k3⟩:=twks_tv r d b (n+v.size) h e3
   refine⟨v::vs,by rw[e1,k1];rfl,fun u hu=>?_,by rw[k2];simp;omega,by simp;omega⟩
   rcases aq.1 hu with rfl|hu
   ·exact e0
   ·exact k0 u hu
  ·rw[if_neg h1]at h;exact absurd h h1
end
theorem Tv.tm_inj:∀ {a b:Tv},a.tm=b.tm->a=b
 | .con n s,.con m t,h=>by
  simp only[Tv.tm,Tm.mk.injEq,and_true,true_and]at h
  rw[h.1,Ts.sm_inj h.2]
 | .var i,.var j,h=>by
  simp only[Tv.tm,Tm.mk.injEq,and_true,true_and]at h
  rw[show i=j by omega]
 | .abs s x,.abs t y,h=>by
  simp only[Tv.tm,Tm.mk.injEq,List.cons.injEq,and_true,true_and]at h
  rw[Ts.sm_inj h.1,Tv.tm_inj h.2]
 | .app x y,.app u v,h=>by
  simp only[Tv.tm,Tm.mk.injEq,List.cons.injEq,and_true,true_and]at h
  rw[Tv.tm_inj h.1,Tv.tm_inj h.2]
 | .con _ _,.var _,h=>by simp[Tv.tm]at h
 | .con _ _,.abs _ _,h=>by simp[Tv.tm]at h
 | .con _ _,.app _ _,h=>by simp[Tv.tm]at h
 | .var _,.con _ _,h=>by simp[Tv.tm]at h
 | .var _,.abs _ _,h=>by simp[Tv.tm]at h
 | .var _,.app _ _,h=>by simp[Tv.tm]at h
 | .abs _ _,.con _ _,h=>by simp[Tv.tm]at h
 | .abs _ _,.var _,h=>by simp[Tv.tm]at h
 | .abs _ _,.app _ _,h=>by simp[Tv.tm]at h
 | .app _ _,.con _ _,h=>by simp[Tv.tm]at h
 | .app _ _,.var _,h=>by simp[Tv.tm]at h
 | .app _ _,.abs _ _,h=>by simp[Tv.tm]at h
def tyv:List Ts->Tv->Option Ts
 | _,.con _ τ=>some τ
 | Γ,.var i=>Γ[i]?
 | Γ,.abs τ x=>(tyv (τ::Γ) x).map (.f τ)
 | Γ,.app x y=>match tyv Γ x,tyv Γ y with
  | some (.f a r),some z=>if a.eqb z=true then some r else none
  | _,_=>none
open Classical in
noncomputable def tmF(t:Tm):Fl:=if (twk t 1 0 0).2.1=0 then (if ∃ v τ,t=Tv.tm v/\tyv [] v=some τ then (0,0)else (12,-1))else (twk t 1 0 0).2
theorem tmF_bad{t:Tm}(h:¬(twk t 1 0 0).2.1=0):tmF t=(twk t 1 0 0).2:=by unfold tmF;rw[if_neg h]
theorem tmF_ok{v:Tv}(h:(twk v.tm 1 0 0).2.1=0):tmF v.tm=if (tyv [] v).isSome then (0,0)else (12,-1):=by
 unfold tmF;rw[if_pos h];cases e:tyv [] v with
 | none=>
  rw[if_neg]
  ·rfl
  ·rintro⟨u,τ,h1,h2⟩
   rw[<- Tv.tm_inj h1,e]at h2;cases h2
 | some τ=>rw[if_pos ⟨v,τ,rfl,e⟩];rfl
section
section six
variable {P:Program} {Q:Exit->Act->World->Prop} {n:Nw} {f:Fr} {w:World} {ops:Array Oper} {rest:List Oper} {d:Tmp} {ty t e:TypeId} {pos:String} {af:Array Edge} {x y:Operand} {v:Value}
theorem r_ext{F:FuncId}{xs:Array Operand}{ats:Array TypeId}{args:List Value}{dst:Option Nat}{gd:Option (Nat×Bool)}(h:(callFunc F args.toArray).run P w= .ok (.value v) w)(a1:xs.toList.map (ev n f)=args):
  RV P n f w ⟨dst,.call { callee:= .value (.func F),args:=xs,argTypes:=ats },ty,pos,af,gd⟩ v w:=by
 subst a1;have hm:(xs.toList.map (ev n f)).toArray=xs.map (ev n f):=by rw[<- Array.toList_map,Array.toArray_toList]
 rw[hm]at h;simp[RV,execOp,resolve,ev,Deferred.ofValue,invoke,h]
theorem Own.whole{base sz cap:Nat}{xs:List Value}(h:Own w base e sz A k cap xs)(hk:0<k):∃(g:Nat) (a1:Array Value),A=some ⟨g,0,none⟩/\base<=g/\Blk w g e a1/\cap<=9223372036854775807/\a1.size=cap*sz/\a1.toList.take (k*sz)=xs:=by
 rcases h.2 with ⟨_,h0⟩|⟨g,c,a1,hv,hb,hg,hkc,hm,hs,ht⟩
 ·omega
 ·cases hv
  exact⟨g,a1,rfl,hb,hg,by simpa[maxLen]using hm,hs,ht⟩
end six
end
section
def bl(s:ByteArray):List UInt8:=s.data.toList
theorem TW(p:ByteArray):(bl p).length=p.size:=by unfold bl;rw[Array.length_toList];rfl
theorem bl_ext{p q:ByteArray}(h:bl p=bl q):p=q:=by
 cases p;cases q;unfold bl at h;simp only[ByteArray.mk.injEq];exact Array.toList_inj.1 h
section rules
variable {P:Program} {Q:Exit->Act->World->Prop} {n:Nw} {f:Fr} {w w':World} {ops:Array Oper} {rest:List Oper} {d:Nat} {ty:TypeId} {pos:String} {af:Array Edge} {x y z:Operand} {t t' e:TypeId}
end rules
end
section
def stk(h:Nat)(s:ByteArray):ByteArray:=⟨((bl s).take h).toArray⟩
def sdr(l:Nat)(s:ByteArray):ByteArray:=⟨((bl s).drop l).toArray⟩
theorem K8(l:Nat)(s:ByteArray):bl (sdr l s)=(bl s).drop l:=rfl
theorem y7(l:Nat)(s:ByteArray):(sdr l s).size=s.size-l:=by rw[<- TW,<- TW,K8,List.length_drop]
theorem ext_bl(s:ByteArray)(l h:Nat):bl (s.extract l h)=((bl s).drop l).take (h-l):=by
 unfold bl;rw[ByteArray.data_extract,Array.toList_extract,List.extract_eq_take_drop]
theorem ext_sdr{s:ByteArray}{l:Nat}:s.extract l s.size=sdr l s:=bl_ext (by
 rw[ext_bl,K8,List.take_of_length_le]
 rw[List.length_drop,TW]
 exact ae _)
section rules
variable {P:Program} {Q:Exit->Act->World->Prop} {n:Nw} {f:Fr} {w w':World} {ops:Array Oper} {rest:List Oper} {d:Nat} {ty:TypeId} {pos:String} {af:Array Edge} {x y z:Operand} {t t' e:TypeId}
theorem Vw{dst:Option Tmp}{gd:Option (Nat×Bool)}{s:ByteArray}{l:Nat}(hu:P.underlying t=some .string)(hx:ev n f x= .string s)(hy:ev n f y= .int .i64 (l:Int))(hl:l<=s.size):
  RV P n f w ⟨dst,.slice t x (some y) none none,ty,pos,af,gd⟩ (.string (sdr l s)) w:=by
 have h1:(Instr.sliceBound (.int .i64 (l:Int)) s.size .sliceB).run P w= .ok l w:=by
  simp[Instr.sliceBound,asIntOf,hl]
 simp[RV,execOp,hx,hy,Instr.sliceAt,run_underlying hu,Instr.slice,Instr.sliceBounds,h1,ext_sdr]
end rules
def SJ(c:UInt8):List UInt8->List (List UInt8)
 | []=>[[]]
 | x::xs=>if x=c then []::SJ c xs else (x::(SJ c xs).headD [])::(SJ c xs).tail
theorem ixb_pos{c:UInt8}:∀ {l:List UInt8} {m:Nat},Lib.indexByte l c=(m:Int)->m<l.length/\¬c∈l.take m/\l=l.take m++c::l.drop (m+1)
 | [],m,h=>by simp[Lib.indexByte]at h
 | b::l,m,h=>by
  unfold Lib.indexByte at h
  by_cases e:b=c
  ·have e2:(b==c)=true:=by simpa using e
   simp only[e2,if_true]at h
   have:m=0:=by omega
   grind
  ·have e2:(b==c)=false:=by simpa using e
   simp only[e2,Bool.false_eq_true,if_false]at h
   by_cases q:Lib.indexByte l c= -1
   ·simp[q]at h
   ·have q2:(Lib.indexByte l c== -1)=false:=by simpa using q
    simp only[q2,Bool.false_eq_true,if_false]at h
    have h3:=Lib.indexByte_ge l c
    obtain⟨k,rfl⟩:∃ k,m=k+1:=⟨m-1,by omega⟩
    obtain⟨a1,a2,a3⟩:=ixb_pos (c:=c) (l:=l) (m:=k) oG
    grind
def sp(c:UInt8)(s:ByteArray):List ByteArray:=(SJ c (bl s)).map (fun p=>⟨p.toArray⟩)
def StrsIn(w:World)(A:Option Addr)(xs:List ByteArray):Prop:=
 xs.length<=vJ/\(xs≠[]->∃ b o,A=some ⟨b,o,none⟩/\b<w.heap.size/\∀ k (h:k<xs.length),w.cell? ⟨b,o+k*1,none⟩=some (.string xs[k]))
theorem StrsIn.mono{xs:List ByteArray}(h:StrsIn w A xs)(hb:Bel w w'):StrsIn w' A xs:=
 ⟨h.1,fun hn=>by
  obtain⟨b,o,e,hl,hc⟩:=h.2 hn
  exact⟨b,o,e,nLL hl hb.size,fun k hk=>hb.cell hl (hc k hk)⟩⟩
theorem StrsIn.at_{xs:List ByteArray}(h:StrsIn w A xs)(hk:k<xs.length):
  ∃ b o,A=some ⟨b,o,none⟩/\b<w.heap.size/\w.cell? ⟨b,o+k*1,none⟩=some (.string xs[k]):=by
 obtain⟨b,o,e,hl,hc⟩:=h.2 (by rintro rfl;simp at hk)
 grind
end
end Go.Proofs.YtmfiholmfieieaaDoor
