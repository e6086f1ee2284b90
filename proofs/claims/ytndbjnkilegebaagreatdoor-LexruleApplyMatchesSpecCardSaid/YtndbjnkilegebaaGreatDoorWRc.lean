/- What these functions compute, at every world: (*unify.pool).graph, unify.Into, internal/stringslite.HasSuffix, internal/stringslite.CutSuffix, strings.CutSuffix, unicode/utf8.RuneCountInString, unicode/utf8.word[string]; and plain laws. -/
import Derived.Test.YtndbjnkilegebaaGreatDoorU
import Derived.Test.YtndbjnkilegebaaGreatDoorZst
import Derived.Test.YtndbjnkilegebaaGreatDoorPJoin
import Derived.Test.YtndbjnkilegebaaGreatDoorGSearch
import Derived.Test.YtndbjnkilegebaaGreatDoorGro
namespace Go.Proofs.YtndbjnkilegebaaGreatDoor
open Go.RowKit Go.Proofs.Tryz
set_option maxHeartbeats 2000000
variable {P rep ρ:Nat->Nat}{T:Nat->Int}{U g:List Nd}{f:Int}{i nf ob:Nat}{l:List Ty}{x:Lx}
theorem F2{J:List (Nat×Nat)}{L:Nat->List (Int×Int)}(h:US l U J P rep ρ T L [])(hp:0<U.length)(hn:U.length<=1000000)(hUf:∀ i,i<U.length->∀ z∈(nd U i).ln,0<=z.1/\z.1<nf):Nj nf (yx U.length rep T L):=by
 have hL:∀ i,i<U.length->rep i=i->∀ z∈L i,0<=z.1/\z.1<nf:=fun i hi hr z hz=>by
  obtain⟨u,hu,_,hm⟩:=h.val i hi hr z hz;exact hUf u hu z hm
 refine⟨by rw[vk];exact hp,by rw[vk];exact hn,fun i hi x hx=>?_,fun i hi=>?_⟩
 ·rw[<- yK hi]at hx
  rw[vk]at hi ⊢;rw[Z8 hi]at hx
  dsimp only at hx
  split at hx
  ·rename_i hri
   obtain⟨y,hy,rfl⟩:=ax.1 hx;obtain⟨u,hu,_,hm⟩:=h.val i hi hri y hy;have h1:=hL i hi hri y hy;have h2:=h.ur u hu y hm;have h3:=h.uf.rl _ h2.2;simp only;omega
  ·cases hx
 ·rw[<- yK hi]
  rw[vk]at hi;rw[Z8 hi]
  dsimp only
  split
  ·rename_i hri
   rw[List.length_map];have:=JZ (nf:=nf) (lo:=0) (h.srt i hi) (hL i hi hri) (aP _) oG;omega
  ·exact ah _
theorem fromn_any(G:Option Addr)(cg nf:Nat)(gr:List Nd)(r n:Nat)(w:World)(hG:NodesIn w G gr)(hn:gr.length=n)(hk:Nj nf gr)(hnf:nf<=1000)(hr:r<gr.length):Calls prog 85 #[.agg #[.slice G n cg],.int .i64 r] w fun e w'=>(∃ o A,DL gr [r] [] o/\OOk gr.length o/\e= .returned (.agg #[.slice A o.length o.length])/\(∀ w2,FrSame w.heap.size w' w2->NodesIn w2 A (yq gr o)))/\Bel w w':=by
 subst hn;exact F8 G cg nf gr r w hG hk hnf hr
theorem Vz:(prog.info? 87).map (fun i=>(i.zero,i.size,i.bytes))=some (some (.agg #[.int .i64 0,.slice none 0 0]),2,32):=by kernel_rfl
theorem yY:(prog.info? 28).map (·.size)=some 1:=by kernel_rfl
theorem u6:(prog.info? 28).map (·.zero)=some (some (.agg #[.slice none 0 0])):=by kernel_rfl
set_option maxRecDepth 100000 in
set_option maxHeartbeats 4000000 in
theorem pgraph_any{bp n r:Nat}{c0 c1:Value}{PA TA LA:Option Addr}{cp ct cl:Nat}{V:Nat->Value}{L:Nat->List (Int×Int)}(w:World)(hp:PoolAt w ob bp c0 c1 n PA TA LA cp ct cl P T V L)(hu:UF n P rep ρ)(ep:bp<ob)(hob:ob<=w.heap.size)(hn:n<=1000000)(hnf:nf<=1000)(hG2:Nj nf (yx n rep T L))(e5:r<n)(hLr:∀ i,i<n->rep i=i->∀ z∈L i,0<=z.2/\z.2.toNat<n)(hLl:∀ i,i<n->rep i=i->(L i).length<=nf):Calls prog 104 #[.pointer (some ⟨bp,0,none⟩),.int .i64 (r:Nat)] w fun e w'=>(∃ o A,DL (yx n rep T L) [rep r] [] o/\e= .returned (.agg #[.slice A o.length o.length])/\∀ w2,FrSame w.heap.size w' w2->NodesIn w2 A (yq (yx n rep T L) o))/\Chg ob [bp] w w'/\ob<=w'.heap.size:=by
 have hlob:w.heap.size<=w.heap.size:=ai _;obtain⟨a8,a3,a9,ab,a5,hdis⟩:=hp;obtain⟨qp,rfl,hqp,ek,_⟩:=a3.rowc e5;obtain⟨qt,rfl,hqt,ej,_⟩:=a9.rowc e5;obtain⟨ql,rfl,hql,el,_⟩:=ab.rowc e5;obtain⟨zb,cq⟩:∃ b,b=w.heap.size:=⟨_,rfl⟩
 rw[<- cq]at a5;have a1:zb<=w.heap.size:=ay cq;have eo:=a8.lt;rw[<- cq]at ek ej el eo;have a2:Chg ob [bp] w w/\ob<=w.heap.size:=⟨Chg.refl _ _ _,hob⟩
 rw[<- cq];refine enter func104 ntmps104 rfl (aA rfl) (zn2 ?_);refine qQ (cs:=#[.slice none 0 0]) u6 rfl (fun b4 w1 ao t1 hr=>?_);have:=a8.ob hr;have ba:=a3.ob hr;have dh:=a9.ob hr;have dn:=ab.ob hr;have dv:=(nLT a2.2 hr)
 have cc:=(nLT a1 hr)
 replace a5:=zY a5 t1;replace a2:=xV a2 t1;replace a1:=zJ a1 t1;refine zn4 ?_;refine qQ (cs:=#[.slice none 0 0]) u6 rfl (fun b5 w2 b1 t2 hr=>?_);replace a8:=a8.tr0 t1;have:=a8.ob hr;replace a3:=a3.tr0 t1;have b8:=a3.ob hr;replace a9:=a9.tr0 t1;have dg:=a9.ob hr;replace ab:=ab.tr0 t1;have dm:=ab.ob hr;have du:=(nLT a2.2 hr)
 have be:=(nLT a1 hr)
 have:=ao.ob hr;replace a5:=zY a5 t2;replace a2:=xV a2 t2;replace a1:=zJ a1 t2;refine zn4 ?_;have hlo45:=cc;have hlo5b:=be;have hloN:zb<=b5+1:=aI be;refine Qq (wl (x6 (v:= .pointer (some _)) rfl) (wl (Xk rfl) (zn7 ?_)));replace a8:=a8.tr0 t2;replace a3:=a3.tr0 t2;replace a9:=a9.tr0 t2;replace ab:=ab.tr0 t2;refine qz (rg [6,7,9] 15 48) (fun m g w'=>∃(k:Nat) (AN:Option Addr) (c2:Nat) (Vn:Nat->Value) (P:Nat->Nat),k<=n/\m=n-k/\g 15= .int .i64 k/\Blk w' b4 28 #[.slice none 0 0]/\Blk w' b5 28 #[.slice AN k c2]/\Blk w' bp 167 #[c0,c1,.slice (some ⟨qp,0,none⟩) n cp,.slice (some ⟨qt,0,none⟩) n ct,.slice (some ⟨ql,0,none⟩) n cl]/\Own w' ob 3 1 (some ⟨qp,0,none⟩) n cp (jy n (vN P))/\Own w' ob 3 1 (some ⟨qt,0,none⟩) n ct (jy n (vI T))/\Own w' ob 85 1 (some ⟨ql,0,none⟩) n cl (jy n V)/\(∀ x,x<n->RowO w' ob zb (V x) (L x))/\UF n P rep ρ/\(Chg ob [bp] w w'/\ob<=w'.heap.size)/\zb<=w'.heap.size/\Own w' (b5+1) 87 2 AN k c2 (ndV (vI T) Vn k)/\(∀ x,x<k->RowO w' zb w'.heap.size (Vn x) (nd (yx n rep T L) x).ln)) (n) ?_ (fun m g3 w3 hI=>?_)
 ·exact⟨0,none,0,fun _=> .slice none 0 0,P,ah _,rfl,rfl,ao.u,b1,a8,a3,a9,ab,a5,hu,a2,a1,Own.nil _ _ _ _,fun x hx=>by omega⟩
 obtain⟨k,AN,c2,Vn,P,hkk,hm,h15,ao,b1,a8,a3,a9,ab,a5,hu,a2,a1,an,ad⟩:=hI;obtain⟨bs,d9⟩:∃ b,b=w3.heap.size:=⟨_,rfl⟩
 rw[<- d9]at ad;have ac:bs<=w3.heap.size:=ay d9;have lu5:=b1.lt;have lu4:=ao.lt;have luN:=fun g hg=>(an.lt g hg).2
 have ef:=a1;rw[<- d9]at lu5 lu4 luN ef;refine zQ 15 _ h15 nu (zn6 ?_);refine zZ rfl (fun c16=>?_) (fun c16=>?_)
 ·have ck:k<n:=by omega
  refine yZ ?_;refine wl (x6 (v:= .pointer (some _)) rfl) (wl (Xk rfl) (zn3 ?_));refine wl (x7 (i:=k) U62 xw rfl rfl ck rfl) (wl (qj (v:= .int _ _) U3 rfl rfl (a9.rowq ck)) (wl (Z1 (v0:= .int _ _) (fun v0=>#[v0,.slice none 0 0]) rfl kR) ?_));refine qQ (cs:=#[.int .i64 0,.slice none 0 0]) IW rfl (fun b7 w4 bb t3 hr=>?_);have:=a8.ob hr;have b6:=a3.ob hr;have df:=a9.ob hr;have dk:=ab.ob hr;have dr:=(nLT a2.2 hr)
  have cb:=(nLT a1 hr)
  have:=ao.ob hr;have:=b1.ob hr;have bf:=an.ob hr;have ce:=(nLT ac hr)
  replace a5:=zY a5 t3;replace a2:=xV a2 t3;replace a1:=zJ a1 t3;replace ad:=zY ad t3;replace ac:=zJ ac t3;refine zV bb (fun w5 hq t4=>?_);replace a3:=a3.tr0 t3;replace a3:=a3.cB t4;replace a9:=a9.tr0 t3;replace a9:=a9.cB t4;replace ab:=ab.tr0 t3;replace ab:=ab.cB t4;replace a5:=zY a5 t4;replace a2:=xV a2 t4;replace a1:=zJ a1 t4;replace an:=an.tr0 t3;replace an:=an.cB t4;replace ad:=zY ad t4;replace ac:=zJ ac t4;replace bb:=hq;refine zn4 ?_;have en:zb<=b7+1:=aI cb;have hbsb7:bs<=b7:=ce;refine Qq (wl (x6 (v:= .pointer (some _)) rfl) (wmI rfl ?_));replace a8:=(a8.tr0 t3).tr1 t4 oG;refine zW kR (J3 _ a8 a3 ep hu ck) rfl (fun e' w6 hr=>?_);obtain⟨P1,rfl,em,dx,t5⟩:=hr;replace a8:=a8.ta t5 a3;replace a9:=a9.c t5;replace ab:=ab.c t5;replace a5:=zY a5 t5;replace a2:=xV a2 t5;replace a1:=zJ a1 t5;replace ao:=(ao.tr0 t3).tr1 t4 oG;replace ao:=ao.tb t5 (fun g hg=>by have:=ba g hg;omega);replace b1:=(b1.tr0 t3).tr1 t4 oG;replace b1:=b1.tb t5 (fun g hg=>by have:=b8 g hg;omega);replace an:=an.c t5;replace ad:=zY ad t5;replace ac:=zJ ac t5;replace bb:=bb.tb t5 (fun g hg=>by have:=b6 g hg;omega);have a3:=em;refine⟨_,rfl,?_⟩;refine zn4 ?_;refine zZ rfl (fun c30=>?_) (fun c30=>?_)
  ·have e6:rep k=k:=by omega
   have et:(nd (yx n rep T L) k).ln=((L k).map (fun x=>(x.1,((rep x.2.toNat:Nat):Int)))):=by rw[Z8 ck,if_pos e6]
   obtain⟨Ax,cx,er,hAo,hAb⟩:=a5 k ck;have hLm:=hAo.max;have hLk:=hLl k ck e6;refine zn2 ?_;refine wl (x6 (v:= .pointer (some _)) rfl) (wl (Xk rfl) (zn3 ?_));refine wl (x7 (i:=k) R5 gZ rfl rfl ck rfl) (wl (qj (v:= .slice Ax (L k).length cx) U85 rfl rfl (by have h:=ab.rowq ck;rw[er]at h;exact h)) (zn5 ?_));refine qz (rg [9] 39 17) (fun m g w'=>∃(j:Nat) (A5:Option Addr) (cf:Nat) (P1:Nat->Nat),j<=(L k).length/\m=(L k).length-j/\g 39= .int .i64 j/\Blk w' b4 28 #[.slice none 0 0]/\Blk w' b5 28 #[.slice AN k c2]/\Blk w' bp 167 #[c0,c1,.slice (some ⟨qp,0,none⟩) n cp,.slice (some ⟨qt,0,none⟩) n ct,.slice (some ⟨ql,0,none⟩) n cl]/\Own w' ob 3 1 (some ⟨qp,0,none⟩) n cp (jy n (vN P1))/\Own w' ob 3 1 (some ⟨qt,0,none⟩) n ct (jy n (vI T))/\Own w' ob 85 1 (some ⟨ql,0,none⟩) n cl (jy n V)/\(∀ x,x<n->RowO w' ob zb (V x) (L x))/\UF n P1 rep ρ/\(Chg ob [bp] w w'/\ob<=w'.heap.size)/\zb<=w'.heap.size/\Own w' (b5+1) 87 2 AN k c2 (ndV (vI T) Vn k)/\(∀ x,x<k->RowO w' zb bs (Vn x) (nd (yx n rep T L) x).ln)/\bs<=w'.heap.size/\Blk w' b7 87 #[.int .i64 (T k),.slice A5 j cf]/\Own w' (b7+1) 84 2 A5 j cf (lnV (((L k).take j).map (fun x=>(x.1,((rep x.2.toNat:Nat):Int)))))) ((L k).length) ?_ (fun m g8 w7 hI=>?_)
   ·exact⟨0,none,0,P1,ah _,rfl,rfl,ao,b1,a8,a3,a9,ab,a5,dx,a2,a1,an,ad,ac,bb,Own.nil _ _ _ _⟩
   obtain⟨j,A5,cf,P1,hj,hmj,h39,ao,b1,a8,a3,a9,ab,a5,dx,a2,a1,an,ad,ac,bb,bd⟩:=hI;refine zQ 39 _ h39 nu (zn6 ?_);refine zZ rfl (fun c40=>?_) (fun c40=>?_)
   ·have cu:j<(L k).length:=by omega
    have hVk2:=er;have hlk:=(a5 k ck)
    rw[er]at hlk;obtain⟨_,hln⟩:=hlk.links;obtain⟨lb,lof,hAx,hlb,hlr⟩:=hln.at_ (Below.refl _ _:Bel w7 w7) cu;subst hAx;have hxr:=hLr k ck e6 _ (aq cu);obtain⟨t,ht⟩:∃ t:Nat,((L k)[j]'cu).2=(t:Int):=⟨(((L k)[j]'cu).2).toNat,by omega⟩
    have htl:t<n:=by omega
    refine zn7 ?_;refine wl (qw U84 rfl rfl hlr qx) ?_;refine qQ (cs:=#[.int .i64 0,.int .i64 0]) Qv rfl (fun b9 w8 cg t6 hr=>?_);have:=a8.ob hr;have de:=a9.ob hr;have dj:=ab.ob hr;have dq:=(nLT a2.2 hr)
    have dc:=(nLT a1 hr)
    have:=ao.ob hr;have:=b1.ob hr;have di:=an.ob hr;have dp:=(nLT ac hr)
    have:=bb.ob hr;have b3:=a3.ob hr;have cd:=bd.ob hr;replace a5:=zY a5 t6;replace a2:=xV a2 t6;replace a1:=zJ a1 t6;replace ad:=zY ad t6;replace ac:=zJ ac t6;refine zV cg (fun w9 hq t7=>?_);replace a9:=a9.tr0 t6;replace a9:=a9.cB t7;replace ab:=ab.tr0 t6;replace ab:=ab.cB t7;replace a5:=zY a5 t7;replace a2:=xV a2 t7;replace a1:=zJ a1 t7;replace an:=an.tr0 t6;replace an:=an.cB t7;replace ad:=zY ad t7;replace ac:=zJ ac t7;replace a3:=a3.tr0 t6;replace a3:=a3.cB t7;replace bd:=bd.tr0 t6;replace bd:=bd.cB t7;replace cg:=hq;refine qY (e_S ?_);rw[ht]at cg;have zo:=fun g hg=>(a3.lt g hg).2
    replace a8:=(a8.tr0 t6).tr1 t7 oG;refine J9 10 (rg [] 43 10) (aL (some (⟨qp,0,none⟩:Addr))) 7 (fun ix v wv=>match ix with|0=>v= .pointer (some ⟨b7,1,none⟩)|1=>v= .slice A5 j cf|2=>v= .pointer (some ⟨b9,0,none⟩)|3=>v= .int .i64 ((L k)[j]'cu).1|4=>v= .pointer (some ⟨bp,0,none⟩)|5=>v= .pointer (some ⟨b9,1,none⟩)|6=>v= .int .i64 (t:Nat)|7=>∃ Q:Nat->Nat,v= .int .i64 ((rep t:Nat):Int)/\Own wv ob 3 1 (some ⟨qp,0,none⟩) n cp (jy n (vN Q))/\UF n Q rep ρ|8=>v= .agg #[.int .i64 ((L k)[j]'cu).1,.int .i64 ((rep t:Nat):Int)]|9=>∃ b,v= .slice (some ⟨b,0,none⟩) 1 1/\w9.heap.size<=b/\Blk wv b 84 #[.int .i64 ((L k)[j]'cu).1,.int .i64 ((rep t:Nat):Int)]|_=>True) (fun _=>True) kR kR ?_ (fun _ _ _ _=>trivial) ?_ ?_ dE ?_
    ·intro ix v wv wv2 h t8
     match ix,h with
     | 0,h=>exact h
     | 1,h=>exact h
     | 2,h=>exact h
     | 3,h=>exact h
     | 4,h=>exact h
     | 5,h=>exact h
     | 6,h=>exact h
     | 7,h=>
      obtain⟨P3,e9,bc,d6⟩:=h;exact⟨P3,e9,bc.tr0 t8,d6⟩
     | 8,h=>exact h
     | 9,h=>
      obtain⟨eb,e8,co,bz⟩:=h;exact⟨eb,e8,co,bz.tr0 t8⟩
     | _+10,h=>exact trivial
    ·intro ix o hix bx b2 gg wx t9 hd
     match ix,hix,bx,b2 with
     | 0,_,_,b2=>
      cases sI b2;refine qk (jX U87 gZ dE rfl rfl rfl) ⟨Same.refl _ _,?_⟩;exact rfl
     | 1,_,_,b2=>
      cases sI b2;replace bb:=(bb.tr0 t6).tr1 t7 oG;replace bb:=bb.tb t9 (fun g hg=>by have:=b6 g hg;omega);refine aZ 43 (hd 0 a6) ?_;refine qk (qj (v:= .slice _ _ _) U85 rfl rfl (bb.cell rfl)) ⟨Same.refl _ _,?_⟩;exact rfl
     | 2,_,_,b2=>
      cases sI b2;refine qk (jX U84 xw dE rfl rfl rfl) ⟨Same.refl _ _,?_⟩;exact rfl
     | 3,_,_,b2=>
      cases sI b2;replace cg:=cg.tb t9 (fun g hg=>by have:=b3 g hg;omega);refine aZ 45 (hd 2 a6) ?_;refine qk (qj (v:= .int _ _) U3 rfl rfl (cg.cell rfl)) ⟨Same.refl _ _,?_⟩;exact rfl
     | 4,_,_,b2=>
      cases sI b2;refine qk (x6 (v:= .pointer (some _)) rfl) ⟨Same.refl _ _,?_⟩;exact rfl
     | 5,_,_,b2=>
      cases sI b2;refine qk (jX U84 xw dE rfl rfl rfl) ⟨Same.refl _ _,?_⟩;exact rfl
     | 6,_,_,b2=>
      cases sI b2;replace cg:=cg.tb t9 (fun g hg=>by have:=b3 g hg;omega);refine aZ 48 (hd 5 a6) ?_;refine qk (qj (v:= .int _ _) U3 rfl rfl (cg.cell rfl)) ⟨Same.refl _ _,?_⟩;exact rfl
     | 7,_,bx,_=>exact absurd rfl bx
     | 8,_,_,b2=>
      cases sI b2;obtain⟨P3,e9,bc,d6⟩:=hd 7 (zj kR);refine aZ 46 (hd 3 a6) (zq 50 _ e9 nu ?_);refine qk (Q5 (v0:= .int _ _) (v1:= .int _ _) (fun v0 v1=>#[v0,v1]) rfl rfl kR) ⟨Same.refl _ _,?_⟩;exact rfl
     | 9,_,_,b2=>
      cases sI b2;have hs0:=t9;refine aZ 51 (hd 8 a6) ?_;refine jq (fun ops Q K=>?_);refine qZ (cs:=#[_,_]) [(0,.agg _)] rfl U85 qx Qv dE dE kR rfl (fun eb w10 bz t10 hr=>?_);exact K _ _ ⟨t10,⟨_,rfl,nLT hs0.size hr,bz⟩⟩
     | _+10,hix,_,_=>exact absurd hix oG
    ·intro o b2 gg wx cy hd;cases sI b2;replace a5:=zY a5 cy;replace a2:=xV a2 cy;replace a1:=zJ a1 cy;replace ad:=zY ad cy;replace ac:=zJ ac cy;refine aZ 47 (hd 4 a6) (aZ 49 (hd 6 a6) ?_);replace a8:=a8.tr0 cy;replace a3:=a3.tr0 cy;refine vw kR (J3 wx a8 a3 ep dx htl) rfl (fun e' w2 hr=>?_);obtain⟨Q,rfl,bc,eh,ee⟩:=hr;refine⟨_,rfl,ee,⟨_,rfl,bc,eh⟩,trivial,fun kx v bx h=>?_⟩
     match kx,bx,h with
     | 0,_,h=>exact h
     | 1,_,h=>exact h
     | 2,_,h=>exact h
     | 3,_,h=>exact h
     | 4,_,h=>exact h
     | 5,_,h=>exact h
     | 6,_,h=>exact h
     | 7,bx,_=>exact absurd rfl bx
     | 8,_,h=>exact h
     | 9,_,h=>
      obtain⟨eb,e8,co,bz⟩:=h;exact⟨eb,e8,co,bz.tr ee (fun hx=>by have:=zo _ hx;omega)⟩
     | _+10,_,_=>exact trivial
    intro gg w11 c5 _ hR;replace a8:=a8.ta c5 a3;replace a9:=a9.c c5;replace ab:=ab.c c5;replace a5:=zY a5 c5;replace a2:=xV a2 c5;replace a1:=zJ a1 c5;replace ao:=(ao.tr0 t6).tr1 t7 oG;replace ao:=ao.tb c5 (fun g hg=>by have:=ba g hg;omega);replace b1:=(b1.tr0 t6).tr1 t7 oG;replace b1:=b1.tb c5 (fun g hg=>by have:=b8 g hg;omega);replace an:=an.c c5;replace ad:=zY ad c5;replace ac:=zJ ac c5;replace bb:=(bb.tr0 t6).tr1 t7 oG;replace bb:=bb.tb c5 (fun g hg=>by have:=b6 g hg;omega);replace bd:=bd.c c5;replace cg:=cg.tb c5 (fun g hg=>by have:=b3 g hg;omega);obtain⟨P3,e9,bc,d6⟩:=hR 7 dE;obtain⟨eb,e8,co,bz⟩:=hR 9 dE;have a3:=bc;refine x8 43 _ (hR 0 dE) nu (x8 44 _ (hR 1 dE) nu (x8 50 _ e9 nu (x8 52 _ e8 nu ?_)));refine vV U85 Y0 rfl dE bd bz rfl rfl rfl xW dE oG oG (nLT (Nat.succ_le_of_lt bb.lt) (ai _)) (fun dw ea w12 d8 ca hg=>?_);have cz:dw≠bp:=neA bd a8.lt hg
    have d5:dw≠b4:=neA bd ao.lt hg
    have d4:dw≠b5:=neA bd b1.lt hg
    have d3:dw≠b7:=neA bd bb.lt hg
    have d2:dw≠b9:=neB cg.lt hg (fun g hg=>by have:=cd g hg;omega)
    replace a8:=a8.ta ca bd;replace a9:=a9.c ca;replace ab:=ab.c ca;replace a5:=zY a5 ca;replace a2:=xV a2 ca;replace a1:=zJ a1 ca;replace ao:=ao.ta ca bd;replace b1:=b1.ta ca bd;replace an:=an.c ca;replace ad:=zY ad ca;replace ac:=zJ ac ca;replace bb:=bb.ta ca bd;replace a3:=a3.c ca;replace d8:Own w12 (b7+1) 84 2 (some ⟨dw,0,none⟩) (j+1) ea (lnV (((L k).take (j+1)).map (fun x=>(x.1,((rep x.2.toNat:Nat):Int))))):=by
      rw[List.take_succ_eq_append_getElem cu,List.map_append,List.map_cons,List.map_nil,<- O3];simp only[ht,Int.toNat_natCast];exact d8
    have bd:=d8;refine zn1 ?_;refine xx (v:= .slice _ _ _) bb rfl rfl gZ (by first|decide|simp) rfl rfl (fun w13 hq cj=>?_);replace a9:=a9.cB cj;replace ab:=ab.cB cj;replace a5:=zY a5 cj;replace a2:=xV a2 cj;replace a1:=zJ a1 cj;replace an:=an.cB cj;replace ad:=zY ad cj;replace ac:=zJ ac cj;replace a3:=a3.cB cj;replace bd:=bd.cB cj;replace bb:=hq;refine zn7 ?_;refine x9 ((L k).length-(j+1)) oG agA ?_;replace a8:=a8.tr1 cj oG;exact⟨j+1,_,_,P3,by omega,rfl,rfl,ao.u,b1.u,a8,a3,a9,ab,a5,d6,a2,a1,an,ad,ac,bb,bd⟩
   have hjx:j=(L k).length:=by omega
   subst hjx;obtain⟨sv,dy⟩:∃ sv,sv=Value.slice A5 (L k).length cf:=⟨_,rfl⟩
   obtain⟨P2,es⟩:∃ Q,Q=P1:=⟨_,rfl⟩
   subst es;have ei:=dx;have a4:RowO w7 zb w7.heap.size sv (nd (yx n rep T L) k).ln:=by
     rw[List.take_length]at bd;have h:=RowO.of (lo:=zb) (xs:=((L k).map (fun x=>(x.1,((rep x.2.toNat:Nat):Int))))) en (A:=A5) (cap:=cf) (by rw[List.length_map];exact bd);rw[List.length_map]at h;rw[et,dy];exact h
   obtain⟨s5,dz⟩:∃ b,b=w7.heap.size:=⟨_,rfl⟩
   rw[<- dz]at a4;have bg:s5<=w7.heap.size:=ay dz;refine zn9 ?_;refine qZ (cs:=#[_,_]) [(0,.agg _)] rfl U26 Qw IW dE dE kR rfl (fun b59 w14 da c4 hr=>?_);have:=a8.ob hr;have bj:=a9.ob hr;have bn:=ab.ob hr;have bq:=(nLT a2.2 hr)
   have bh:=(nLT a1 hr)
   have:=ao.ob hr;have:=b1.ob hr;have bm:=an.ob hr;have bo:=(nLT ac hr)
   have:=bb.ob hr;have bk:=a3.ob hr;have bi:=(nLT bg hr)
   replace a5:=zY a5 c4;replace a2:=xV a2 c4;replace a1:=zJ a1 c4;replace ad:=zY ad c4;replace ac:=zJ ac c4;replace a4:=a4.tr c4 (by simp);replace bg:=zJ bg c4;replace an:=an.tr0 c4;refine vV U26 Vz rfl dE an da rfl rfl rfl xW dE oG oG b1.u.lt (fun cm cn w15 d7 c9 hg=>?_);replace a8:=a8.tr0 c4;have br:cm≠bp:=neA an a8.lt hg
   have bv:cm≠b4:=neA an ao.u.lt hg
   have bu:cm≠b5:=neA an b1.u.lt hg
   have bt:cm≠b7:=neB bb.u.lt hg (fun g hg=>by have:=bf g hg;omega)
   replace a8:=a8.ta c9 an;replace a9:=a9.tr0 c4;replace a9:=a9.c c9;replace ab:=ab.tr0 c4;replace ab:=ab.c c9;replace a5:=zY a5 c9;replace a2:=xV a2 c9;replace a1:=zJ a1 c9;replace ao:=ao.tr0 c4;replace ao:=ao.ta c9 an;replace b1:=b1.tr0 c4;replace b1:=b1.ta c9 an;replace ad:=zY ad c9;replace ac:=zJ ac c9;replace a3:=a3.tr0 c4;replace a3:=a3.c c9;replace a4:=a4.c c9;replace bg:=zJ bg c9;have bw:Own w15 (b5+1) 87 2 (some ⟨cm,0,none⟩) (k+1) cn (ndV (vI T) (fun x=>if x=k then sv else Vn x) (k+1)):=by
     rw[X4,gW (f':=(vI T)) (h':=Vn) (fun x _=>rfl) (fun x hx=>by rw[if_neg (show ¬x=k from by omega)])];simp only[if_true];rw[dy];exact d7
   refine zn1 ?_;refine xx (v:= .slice _ _ _) b1 rfl rfl OY (by first|decide|simp) rfl rfl (fun w16 hq c8=>?_);replace a9:=a9.cB c8;replace ab:=ab.cB c8;replace a5:=zY a5 c8;replace a2:=xV a2 c8;replace a1:=zJ a1 c8;replace ad:=zY ad c8;replace ac:=zJ ac c8;replace a3:=a3.cB c8;replace a4:=a4.c c8;replace bg:=zJ bg c8;replace bw:=bw.cB c8;replace b1:=hq;refine zn7 ?_;refine x9 (n-(k+1)) oG agA ?_;replace a8:=a8.tr1 c8 oG;replace ao:=ao.tr1 c8 oG
   exact⟨k+1,_,_,fun x=>if x=k then sv else Vn x,P2,by omega,rfl,rfl,ao,b1,a8,a3,a9,ab,a5,ei,a2,a1,bw,fun x hx=>by
     by_cases e:x=k
     · subst e
       simp only[if_true];exact a4.up bg
     · simp only[if_neg e]
       exact(ad x oG).up ac⟩
  have e6:¬rep k=k:=fun e=>c30 (by rw[e])
  have et:(nd (yx n rep T L) k).ln= []:=by rw[Z8 ck,if_neg e6]
  obtain⟨sv,dy⟩:∃ sv,sv=Value.slice none 0 0:=⟨_,rfl⟩
  obtain⟨P2,es⟩:∃ Q,Q=P1:=⟨_,rfl⟩
  subst es;have ei:=dx;have a4:RowO w6 zb w6.heap.size sv (nd (yx n rep T L) k).ln:=by rw[et,dy];exact⟨none,0,rfl,Own.nil _ _ _ _,fun g hg=>by cases hg⟩
  obtain⟨s5,dz⟩:∃ b,b=w6.heap.size:=⟨_,rfl⟩
  rw[<- dz]at a4;have bg:s5<=w6.heap.size:=ay dz;refine zn6 ?_;refine qZ (cs:=#[_,_]) [(0,.agg _)] rfl U26 Qw IW dE dE kR rfl (fun b59 w17 da c3 hr=>?_);have:=a8.ob hr;have bj:=a9.ob hr;have bn:=ab.ob hr;have bq:=(nLT a2.2 hr)
  have bh:=(nLT a1 hr)
  have:=ao.ob hr;have:=b1.ob hr;have bm:=an.ob hr;have bo:=(nLT ac hr)
  have:=bb.ob hr;have bk:=a3.ob hr;have bi:=(nLT bg hr)
  replace a5:=zY a5 c3;replace a2:=xV a2 c3;replace a1:=zJ a1 c3;replace ad:=zY ad c3;replace ac:=zJ ac c3;replace a4:=a4.tr c3 (by simp);replace bg:=zJ bg c3;replace an:=an.tr0 c3;refine vV U26 Vz rfl dE an da rfl rfl rfl xW dE oG oG b1.u.lt (fun cm cn w18 d7 c7 hg=>?_);replace a8:=a8.tr0 c3;have br:cm≠bp:=neA an a8.lt hg
  have bv:cm≠b4:=neA an ao.u.lt hg
  have bu:cm≠b5:=neA an b1.u.lt hg
  have bt:cm≠b7:=neB bb.u.lt hg (fun g hg=>by have:=bf g hg;omega)
  replace a8:=a8.ta c7 an;replace a9:=a9.tr0 c3;replace a9:=a9.c c7;replace ab:=ab.tr0 c3;replace ab:=ab.c c7;replace a5:=zY a5 c7;replace a2:=xV a2 c7;replace a1:=zJ a1 c7;replace ao:=ao.tr0 c3;replace ao:=ao.ta c7 an;replace b1:=b1.tr0 c3;replace b1:=b1.ta c7 an;replace ad:=zY ad c7;replace ac:=zJ ac c7;replace a3:=a3.tr0 c3;replace a3:=a3.c c7;replace a4:=a4.c c7;replace bg:=zJ bg c7;have bw:Own w18 (b5+1) 87 2 (some ⟨cm,0,none⟩) (k+1) cn (ndV (vI T) (fun x=>if x=k then sv else Vn x) (k+1)):=by
    rw[X4,gW (f':=(vI T)) (h':=Vn) (fun x _=>rfl) (fun x hx=>by rw[if_neg (show ¬x=k from by omega)])];simp only[if_true];rw[dy];exact d7
  refine zn1 ?_;refine xx (v:= .slice _ _ _) b1 rfl rfl OY (by first|decide|simp) rfl rfl (fun w19 hq c6=>?_);replace a9:=a9.cB c6;replace ab:=ab.cB c6;replace a5:=zY a5 c6;replace a2:=xV a2 c6;replace a1:=zJ a1 c6;replace ad:=zY ad c6;replace ac:=zJ ac c6;replace a3:=a3.cB c6;replace a4:=a4.c c6;replace bg:=zJ bg c6;replace bw:=bw.cB c6;replace b1:=hq;refine zn7 ?_;refine x9 (n-(k+1)) oG agA ?_;replace a8:=a8.tr1 c6 oG;replace ao:=ao.tr1 c6 oG
  exact⟨k+1,_,_,fun x=>if x=k then sv else Vn x,P2,by omega,rfl,rfl,ao,b1,a8,a3,a9,ab,a5,ei,a2,a1,bw,fun x hx=>by
    by_cases e:x=k
    · subst e
      simp only[if_true];exact a4.up bg
    · simp only[if_neg e]
      exact(ad x oG).up ac⟩
 have hke:k=n:=by omega
 rw[hke]at an ad b1;refine zn6 ?_;refine J9 4 [63,64,65,66] (aL (some (⟨qp,0,none⟩:Addr))) 3 (fun ix v wv=>match ix with|0=>v= .agg #[.slice AN n c2]|1=>v= .pointer (some ⟨bp,0,none⟩)|2=>v= .int .i64 (r:Nat)|3=>∃ Q:Nat->Nat,v= .int .i64 ((rep r:Nat):Int)/\Own wv ob 3 1 (some ⟨qp,0,none⟩) n cp (jy n (vN Q))/\UF n Q rep ρ|_=>True) (fun _=>True) kR kR ?_ (fun _ _ _ _=>trivial) ?_ ?_ dE ?_
 ·intro ix v wv wv2 h t21
  match ix,h with
  | 0,h=>exact h
  | 1,h=>exact h
  | 2,h=>exact h
  | 3,h=>
   obtain⟨P3,eu,bc,d6⟩:=h;exact⟨P3,eu,bc.tr0 t21,d6⟩
  | _+4,h=>exact trivial
 ·intro ix o hix bx b2 gg wx t22 hd
  match ix,hix,bx,b2 with
  | 0,_,_,b2=>
   cases sI b2;replace b1:=b1.tb t22 (fun g hg=>by have:=b8 g hg;omega);refine qk (qw U28 rfl rfl b1.range0 yY) ⟨Same.refl _ _,?_⟩;exact rfl
  | 1,_,_,b2=>
   cases sI b2;refine qk (x6 (v:= .pointer (some _)) rfl) ⟨Same.refl _ _,?_⟩;exact rfl
  | 2,_,_,b2=>
   cases sI b2;refine qk (x6 (v:= .int _ _) rfl) ⟨Same.refl _ _,?_⟩;exact rfl
  | 3,_,bx,_=>exact absurd rfl bx
  | _+4,hix,_,_=>exact absurd hix oG
 ·intro o b2 gg wx cw hd;cases sI b2;replace a5:=zY a5 cw;replace a2:=xV a2 cw;replace a1:=zJ a1 cw;replace ad:=zY ad cw;replace ac:=zJ ac cw;refine aZ 64 (hd 1 a6) (aZ 65 (hd 2 a6) ?_);replace a8:=a8.tr0 cw;replace a3:=a3.tr0 cw;refine vw kR (J3 wx a8 a3 ep hu e5) rfl (fun e' w2 hr=>?_);obtain⟨Q,rfl,bc,eh,ee⟩:=hr;refine⟨_,rfl,ee,⟨_,rfl,bc,eh⟩,trivial,fun kx v bx h=>?_⟩
  match kx,bx,h with
  | 0,_,h=>exact h
  | 1,_,h=>exact h
  | 2,_,h=>exact h
  | 3,bx,_=>exact absurd rfl bx
  | _+4,_,_=>exact trivial
 intro gg ed cv _ hR;replace a5:=zY a5 cv;replace a2:=xV a2 cv;replace a1:=zJ a1 cv;replace ao:=ao.tb cv (fun g hg=>by have:=ba g hg;omega);replace an:=an.c cv;replace ad:=zY ad cv;replace ac:=zJ ac cv;obtain⟨P3,eu,bc,d6⟩:=hR 3 dE;have a3:=bc
 have hNG:NodesIn ed AN (yx n rep T L):=Pj (lo:=zb) (bs:=bs) an (vk _ _ _ _) (fun x hx=>by
   have eg:x<n:=by rw[<- vk n rep T L];exact hx
   rw[<- yK hx,Z8 eg];rfl) (fun x hx=>by
   have eg:x<n:=by rw[<- vk n rep T L];exact hx
   have h:=ad x eg
   rw[<- yK hx];exact h)
 have hrl:=hu.rl r e5;have z4:=ao.lt;refine x8 63 _ (hR 0 dE) nu (x8 66 _ eu nu ?_);have hzq:=a1;refine zW kR (fromn_any AN c2 nf (yx n rep T L) (rep r) n _ hNG (vk _ _ _ _) hG2 hnf (by rw[vk];exact hrl)) rfl (fun e' ec hr=>?_);obtain⟨⟨o,AF,hD,hok,rfl,hN⟩,cr⟩:=hr;replace cr:=sB cr;replace a5:=zY a5 cr;replace a2:=xV a2 cr;replace a1:=zJ a1 cr;replace ad:=zY ad cr;replace ac:=zJ ac cr;have e7:FrSame (ed).heap.size ec ec:=FrSame.refl _ _;have hzV:zb<=(ed).heap.size:=hzq;obtain⟨Z0,hZ0⟩:∃ z,z=(ed).heap.size:=⟨_,rfl⟩
 rw[<- hZ0]at hN e7 z4 hzV;obtain⟨wZ,hwZ⟩:∃ z,z=ec:=⟨_,rfl⟩
 replace e7:FrSame Z0 wZ ec:=by rw[hwZ];exact FrSame.refl _ _
 rw[<- hwZ]at hN;refine⟨_,rfl,?_⟩;refine zV ao.u (fun w22 hq db=>?_);replace ao:=ao.tr0 cr;replace a5:=zY a5 db;replace a2:=xV a2 db;replace a1:=zJ a1 db;replace ad:=zY ad db;replace ac:=zJ ac db;replace e7:=e7.of db (fun g hg=>by rw[List.mem_singleton.1 hg];omega);replace ao:=hq;refine zn3 ?_;refine xK (.inl rfl) rfl (zX U28 rfl rfl ao.range0 yY) ?_;exact⟨⟨o,AF,hD,rfl,fun w2 hf=>hN w2 (e7.then hf hzV)⟩,a2.1,a2.2⟩
def YY(l:List Ty)(U:List Nd)(J:List (Nat×Nat))(X:List Nd):Prop:=∃ P rep ρ T L o,US l U J P rep ρ T L []/\DL (yx U.length rep T L) [rep 0] [] o/\X=yq (yx U.length rep T L) o
theorem shN_zero(g:List Nd):g.map (shN 0)=g:=by
 have h:∀ x:Nd,shN 0 x=x:=fun x=>by
  refine Vv rfl ?_;simp[shN]
 rw[List.map_congr_left (g:=id) (fun x _=>h x),List.map_id]
theorem LX(hU:∀ i,i<U.length->∀ z∈(nd U i).ln,0<=z.1/\z.1<nf)(hg:∀ i,i<g.length->∀ z∈(nd g i).ln,0<=z.1/\z.1<nf):∀ i,i<(U++g.map (shN U.length)).length->∀ z∈(nd (U++g.map (shN U.length)) i).ln,0<=z.1/\z.1<nf:=fun i hi z hz=>by
 by_cases e:i<U.length
 ·rw[Zx e]at hz;exact hU i e z hz
 ·have hl:i-U.length<g.length:=by simp at hi;omega
  have h:=J4 (U:=U) hl
  rw[show U.length+(i-U.length)=i by omega]at h
  rw[h]at hz
  obtain⟨y,hy,rfl⟩:=ax.1 hz
  exact hg _ hl y hy
theorem O7{nt:Nat}(h:GOk nt nf g):∀ i,i<g.length->∀ z∈(nd g i).ln,0<=z.1/\z.1<nf:=fun i hi z hz=>by
 rw[yK hi]at hz
 have:=h.ln i hi z hz
 omega
theorem pool_nil{w:World}{bp cp ct cl:Nat}{c0 c1:Value}(h:Blk w bp 167 #[c0,c1,.slice none 0 cp,.slice none 0 ct,.slice none 0 cl])(hp:cp=0)(ht:ct=0)(hl:cl=0):PoolAt w ob bp c0 c1 0 none none none cp ct cl (fun x=>x) (fun _=>0) (fun _=> .slice none 0 0) (fun _=>[]):=by
 subst hp ht hl;exact⟨h,Own.nil _ _ _ _,Own.nil _ _ _ _,Own.nil _ _ _ _,fun x hx=>absurd hx (aB _),fun g hg=>by cases hg⟩
theorem US.first(hg:GY l g):US l g [] (L6 0 (fun x=>x)) (fun x=>if x<0 then x else x) (fun _=>0) (R1 0 (fun _=>0) g) (addL 0 (fun _=>[]) g) []:=by
 have h:=(US.nil (l:=l) (P:=fun x=>x) (rep:=fun x=>x) (ρ:=fun _=>0) (T:=fun _=>0) (L:=fun _=>[])).add hg (fun p hp=>by cases hp);rw[List.nil_append,show ([]:List Nd).length=0 from rfl,shN_zero]at h;exact h
theorem NodesIn.chgB{w0 w w2:World}{b:Nat}{G:Option Addr}(h:NodesIn w0 G g)(hB:Bel w0 w)(hc:Chg ob [b] w w2)(h1:w0.heap.size<=ob)(h2:w0.heap.size<=b):NodesIn w2 G g:=h.mono (hB.chg hc h1 (fun g hg=>by rw[List.mem_singleton.1 hg];exact h2))
theorem ret_into{A:Option Addr}{n:Nat}{X:List Nd}(h:X.length=n):Ending.returned (.tuple #[.agg #[.slice A n n],.bool true])= .returned (.tuple #[.agg #[.slice A X.length X.length],.bool true]):=by rw[h]
set_option maxRecDepth 100000 in
set_option maxHeartbeats 2000000 in
theorem into_any{nt bu bd j c1 c2:Nat}{G1 G2:Option Addr}{ga gb:List Nd}(w:World)(be:TabIn w)(hTI:TableIn w l bu bd)(hSd:Kv l)(hG1:NodesIn w G1 ga)(hG2:NodesIn w G2 gb)(bb:GOk nt nf ga)(b1:GOk nt nf gb)(hya:GY l ga)(hyb:GY l gb)(ao:nf<=1000)(hj:j<ga.length):Calls Tryz.prog 81 #[.agg #[.slice (some ⟨bu,0,none⟩) l.length l.length,.slice (some ⟨bd,0,none⟩) l.length l.length],.agg #[.slice G1 ga.length c1],.int .i64 (j:Nat),.agg #[.slice G2 gb.length c2]] w fun e w'=>(∃ A X ok,e= .returned (.tuple #[.agg #[.slice A (List.length X) X.length],.bool ok])/\(∀ w2,FrSame w.heap.size w' w2->NodesIn w2 A X)/\((ok=true/\YY l (ga++gb.map (shN ga.length)) [(j,ga.length)] X)\/(ok=false/\X= []/\¬MV l (ga++gb.map (shN ga.length)) [(j,ga.length)])))/\Bel w w':=by
 have hna:=bb.le;have hnb:=b1.le;have hpb:=b1.pos;refine enT Tryz.func81 Tryz.ntmps81 rfl rfl fun hB=>?_;refine zn2 ?_;refine qv (cs:=#[_,_]) rfl (fun b4 w1 a3 s1 hr=>?_);have lo4:=hB.ob hr;refine qv (cs:=#[_]) rfl (fun b5 w2 a4 s2 hr=>?_);have:=a3.ob hr;have lo5:=hB.u.ob hr;refine qv (cs:=#[_]) rfl (fun b7 w3 a5 s3 hr=>?_);have:=a3.u.ob hr;have:=a4.ob hr;have lo7:=hB.u.ob hr;refine qQ (cs:=#[.slice none 0 0]) u6 rfl (fun b8 w4 a1 s4 hr=>?_);have:=a3.u.ob hr;have:=a4.u.ob hr;have:=a5.ob hr;have lo8:=hB.u.ob hr;refine zn6 ?_;refine wl (Z1 (v0:= .agg _) (fun v0=>#[(qy v0 0),(qy v0 1),.slice none 0 0,.slice none 0 0,.slice none 0 0]) rfl kR) ?_;refine qv (cs:=#[_,_,_,_,_]) rfl (fun b13 w5 a8 s5 hr=>?_);have:=a3.u.ob hr;have:=a4.u.ob hr;have:=a5.u.ob hr;have:=a1.ob hr;have a9:=hB.u.ob hr;refine wl (oz (v:= .pointer (some _)) rfl) (zn3 ?_);replace a8:Blk w5 b13 167 #[.slice (some ⟨bu,0,none⟩) l.length l.length,.slice (some ⟨bd,0,none⟩) l.length l.length,.slice none 0 0,.slice none 0 0,.slice none 0 0]:=a8;have b2:=a8.lt;refine Qq (wl (x6 (v:= .pointer (some _)) rfl) (zn1 ?_));refine zW kR (padd_any (n:=0) nt _ (pool_nil a8 rfl rfl rfl) (aH _) b2 oG (fun w2 hc=>hG1.chgB hB.u hc oG a9) bb ao) rfl (fun e' w6 hr=>?_);obtain⟨⟨PA1,TA1,LA1,cp1,ct1,cl1,V1,rfl,hp1⟩,hC,hs1⟩:=hr;replace hB:=hB.tr0 (s1.t (s2.t (s3.t (s4.t s5))));replace hB:=hB.chg hC oG (by simp;omega);replace a3:=a3.tr0 (s2.t (s3.t (s4.t s5)));replace a3:=a3.chg hC oG (by simp;omega);replace a4:=a4.tr0 (s3.t (s4.t s5));replace a4:=a4.chg hC oG (by simp;omega);replace a5:=a5.tr0 (s4.t s5);replace a5:=a5.chg hC oG (by simp;omega);replace a1:=a1.tr0 s5;replace a1:=a1.chg hC oG (by simp;omega);rw[Nat.zero_add]at hp1;have b9:=US.first hya;refine⟨_,rfl,?_⟩;refine zn5 ?_;refine wl (x6 (v:= .pointer (some _)) rfl) (wmI rfl (wl (x6 (v:= .pointer (some _)) rfl) (zn1 ?_)));have hl13:w.heap.size<=b13:=a9;refine zW kR (padd_any (n:=ga.length) nt _ hp1 (aH _) hs1 oG (fun w2 hc=>hG2.chgB hB hc oG a9) b1 ao) rfl (fun e' w7 hr=>?_);obtain⟨⟨PA2,TA2,LA2,cp2,ct2,cl2,V2,rfl,hp2⟩,hC,hs2⟩:=hr;replace hB:=hB.chg hC oG (by simp;omega);replace a3:=a3.chg hC oG (by simp;omega);replace a4:=a4.chg hC oG (by simp;omega);replace a5:=a5.chg hC oG (by simp;omega)
 replace a1:=a1.chg hC oG (by simp;omega);have hUl:(ga++gb.map (shN ga.length)).length=ga.length+gb.length:=by simp
 have b6:=(b9.add hyb (fun p hp=>by cases hp)).push (a:=j) (b:=ga.length) oG oG;rw[<- hUl]at hp2;have bc:=LX (O7 bb) (O7 b1);refine⟨_,rfl,?_⟩;refine zW kR (pjoin_any (U:=(ga++gb.map (shN ga.length))) (J:=[(j,ga.length)]) (nf:=nf) w _ be hTI hSd hB oG hp2 (aH _) hs2 oG ao bc oG b6) rfl (fun e' w8 hr=>?_);obtain⟨⟨b,rfl,b3,hno⟩,hC,hs3⟩:=hr;replace hB:=hB.chg hC oG (by simp;omega);replace a3:=a3.chg hC oG (by simp;omega);replace a4:=a4.chg hC oG (by simp;omega);replace a5:=a5.chg hC oG (by simp;omega);replace a1:=a1.chg hC oG (by simp;omega);refine⟨_,rfl,?_⟩;refine zn3 ?_;refine jv rfl (fun bf=>?_) (fun bf=>?_)
 ·have hbf:b=false:=by simpa using bf
  have ba:=hno hbf;refine zn2 ?_;refine jW (cs:=#[.slice none 0 0]) ?_;refine zV a1 (fun w9 hq s6=>?_);replace a1:=hq;refine zn5 ?_;refine uK (.inl rfl) rfl (zX U28 rfl rfl a1.range0 yY) rfl ?_;exact⟨⟨none,[],false,rfl,fun w2 _=>ov w2 none,.inr ⟨rfl,rfl,ba⟩⟩,hB.u⟩
 have hbt:b=true:=by simpa using bf
 obtain⟨P3,ab,ρ3,T3,V3,L3,hp3,a2⟩:=b3 hbt;have hz8:=a1.lt;have ac:=Bel.size hB;refine zn4 ?_;refine wl (x6 (v:= .pointer (some _)) rfl) ?_
 refine zW kR (pgraph_any (r:=0) (nf:=nf) _ hp3 a2.uf (aH _) hs3 oG ao (F2 a2 oG oG bc) oG (fun i hi hr z hz=>by
   obtain⟨u,hu,_,hm⟩:=a2.val i hi hr z hz;exact a2.ur u hu z hm) (fun i hi hr=>by
   have:=JZ (nf:=nf) (lo:=0) (a2.srt i hi) (fun z hz=>by
    obtain⟨u,hu,_,hm⟩:=a2.val i hi hr z hz
    exact bc u hu z hm) (aP _) oG
   omega)) rfl (fun e' an hr=>?_)
 obtain⟨⟨o,AF,hD,rfl,hN⟩,hC,hs4⟩:=hr;replace hB:=hB.chg hC oG (by simp;omega);replace a3:=a3.chg hC oG (by simp;omega);replace a4:=a4.chg hC oG (by simp;omega);replace a5:=a5.chg hC oG (by simp;omega);replace a1:=a1.chg hC oG (by simp;omega);have ad:FrSame (w8).heap.size an an:=FrSame.refl _ _;obtain⟨Z0,hZ0⟩:∃ z,z=(w8).heap.size:=⟨_,rfl⟩
 rw[<- hZ0]at hN ad hz8 ac;obtain⟨wZ,hwZ⟩:∃ z,z=an:=⟨_,rfl⟩
 replace ad:FrSame Z0 wZ an:=by rw[hwZ];exact FrSame.refl _ _
 rw[<- hwZ]at hN;refine⟨_,rfl,?_⟩;refine zV a1 (fun w11 hq s7=>?_);replace ad:=ad.of s7 (fun g hg=>by rw[List.mem_singleton.1 hg];omega);replace a1:=hq;refine zn4 ?_;refine uK (.inl rfl) rfl (zX U28 rfl rfl a1.range0 yY) rfl ?_;have hcl:(yq (yx (ga++gb.map (shN ga.length)).length ab T3 L3) o).length=o.length:=uQ _ _;exact⟨⟨AF,_,true,ret_into hcl,fun w2 hf=>hN w2 (ad.then hf ac),.inl ⟨rfl,P3,ab,ρ3,T3,L3,o,a2,hD,rfl⟩⟩,hB.u⟩
section
section lub
variable {l:List Ty} {fs:List Ft} {ga gb:List Nd}
structure Lub(l:List Ty)(ga gb X:List Nd):Prop where
 gx:GX l X
 left:Maps l ga X
 right:Maps l gb X
 least:∀ c,GY l c->Maps l ga c->Maps l gb c->Maps l X c
 can:∃ o,DL X [0] [] o/\yq X o=X
theorem Lub.uniq{X Y:List Nd}(h:Lub l ga gb X)(k:Lub l ga gb Y):X=Y:=by
 obtain⟨o,ho,e⟩:=h.can;obtain⟨p,hp,e2⟩:=k.can;have:=can_eq h.gx k.gx (h.least Y k.gx.toGY k.left k.right) (k.least X h.gx.toGY h.left h.right) ho hp;rw[e,e2]at this;exact this.symm
end lub
end
section
section stp
variable {l:List Ty} {fs:List Ft} {ga gb X Y:List Nd} {j:Nat}
def j7(ga gb:List Nd):List Nd:=ga++gb.map (shN ga.length)
theorem NJ(ga gb:List Nd):(j7 ga gb).length=ga.length+gb.length:=by simp[j7]
theorem W0(h:i<ga.length):nd (j7 ga gb) i=nd ga i:=Zx h
theorem FY(h:i<ga.length+gb.length)(hn:¬i<ga.length):nd (j7 ga gb) i=shN ga.length (nd gb (i-ga.length))/\i-ga.length<gb.length:=by
 have hl:i-ga.length<gb.length:=by omega
 have h2:=J4 (U:=ga) hl;rw[show ga.length+(i-ga.length)=i by omega]at h2;exact⟨h2,hl⟩
theorem Yz(a2:GX l ga)(a4:GX l gb)(hj:j<ga.length){L:Nat->List (Int×Int)}{o:List Nat}(a1:US l (j7 ga gb) [(j,ga.length)] P rep ρ T L [])(hd:DL (yx (j7 ga gb).length rep T L) [rep 0] [] o):
  TrR (yx (j7 ga gb).length rep T L) (rep 0) o/\GX l (yq (yx (j7 ga gb).length rep T L) o)/\Maps l ga (yq (yx (j7 ga gb).length rep T L) o)/\Adm l (j7 ga gb) (yq (yx (j7 ga gb).length rep T L) o) (fun i=>o.idxOf (rep i))/\o.idxOf (rep 0)=0/\o.idxOf (rep j)=o.idxOf (rep ga.length):=by
 have a3:=NJ ga gb;have hp:=a2.pos;have hpb:=a4.pos;have h0:0<(j7 ga gb).length:=by omega
 have hgy:=a1.gy a2.vt h0;have hr:=a1.uf.rl 0 h0;have hrr:=a1.uf.two h0;have t:=hgy.trr (r:=rep 0) (by rw[vk];exact hr) hd;have hjr:rep j=rep ga.length:=a1.jcov (j,ga.length) (by simp) rep ⟨fun i hi=>(a1.uf.two hi).symm,fun w hw=>by cases hw⟩;have z0:∀ x:Nd,shN 0 x=x:=fun x=>Vv rfl (by simp[shN])
 obtain⟨φ,h1,h2,h3,h4,h5⟩:=a1.into a2.vt hr hrr t (g:=ga) (s:=0) a2 (fun i hi=>by
  rw[Nat.zero_add,z0]
  exact⟨by omega,Zx hi⟩) t.has
 obtain⟨ψ,k1,k2,k3,k4,k5⟩:=a1.into a2.vt hr hrr t (g:=gb) (s:=ga.length) a4 (fun i hi=>⟨by omega,J4 hi⟩) (by rw[<- hjr];have:=(h2 j hj).1;rwa[Nat.zero_add]at this);have e1:∀ i,i<ga.length->o.idxOf (rep i)=φ i:=fun i hi=>by have:=(h2 i hi).2;rw[Nat.zero_add]at this;exact this.symm
 have e2:∀ i,i<gb.length->o.idxOf (rep (ga.length+i))=ψ i:=fun i hi=>((k2 i hi).2).symm
 refine⟨t,t.gx hgy,⟨φ,by rw[h1];exact t.zero,h3,h4,h5⟩,⟨fun i hi=>?_,fun i hi=>?_,fun i hi x hx=>?_⟩,t.zero,by rw[hjr]⟩<;>rw[a3]at hi<;>by_cases e:i<ga.length
 ·rw[e1 i e];exact h3 i e
 ·obtain⟨_,hl⟩:=FY hi e
  have:=e2 _ hl;rw[show ga.length+(i-ga.length)=i by omega]at this;rw[this];exact k3 _ hl
 ·simp only[e1 i e];rw[W0 e];exact h4 i e
 ·obtain⟨hn,hl⟩:=FY hi e
  have:=e2 _ hl;rw[show ga.length+(i-ga.length)=i by omega]at this;simp only[this];rw[hn];exact k4 _ hl
 ·simp only[e1 i e]
  rw[W0 e]at hx;have hxr:=a2.lr i e x hx;rw[h5 i e x hx,e1 _ hxr.2]
 ·obtain⟨hn,hl⟩:=FY hi e
  have he:=e2 _ hl;rw[show ga.length+(i-ga.length)=i by omega]at he;simp only[he];rw[hn]at hx;obtain⟨y,hy,rfl⟩:=ax.1 hx;have hyr:=a4.lr _ hl y hy;rw[k5 _ hl y hy];have e3:(y.2+(ga.length:Int)).toNat=ga.length+y.2.toNat:=by omega
  simp only[e3];rw[e2 _ hyr.2]
theorem W9(hga:GX l ga)(hgb:GX l gb)(hj:j<ga.length)(h:YY l (j7 ga gb) [(j,ga.length)] X):GX l X/\Maps l ga X:=by
 obtain⟨P,rep,ρ,T,L,o,hus,hd,rfl⟩:=h;obtain⟨_,a,b,_⟩:=Yz hga hgb hj hus hd;exact⟨a,b⟩
theorem Ry(hga:GX l ga)(hgb:GX l gb)(hj:j<ga.length)(h:YY l (j7 ga gb) [(j,ga.length)] X):MV l (j7 ga gb) [(j,ga.length)]:=by
 obtain⟨P,rep,ρ,T,L,o,hus,hd,rfl⟩:=h;obtain⟨_,a,_,b,_,c⟩:=Yz hga hgb hj hus hd;exact⟨_,_,a.tr,b,fun p hp=>by rw[List.mem_singleton.1 hp];exact c⟩
theorem stp_le(a5:GX l ga)(hgb:GX l gb)(hj:j<ga.length)(h:YY l (j7 ga gb) [(j,ga.length)] X)(k:YY l (j7 ga gb) [(j,ga.length)] Y):Maps l X Y:=by
 obtain⟨P,rep,ρ,T,L,o,a2,hd,rfl⟩:=h;obtain⟨P',a1,ρ',T',L',o',a3,hd',rfl⟩:=k;obtain⟨t,_⟩:=Yz a5 hgb hj a2 hd;obtain⟨_,a,_,b,c,d⟩:=Yz a5 hgb hj a3 hd';have h0:0<(j7 ga gb).length:=by have:=NJ ga gb;have:=a5.pos;omega
 have hJ:∀ p∈[(j,ga.length)],(fun i=>o'.idxOf (a1 i)) p.1=(fun i=>o'.idxOf (a1 i)) p.2:=fun p hp=>by rw[List.mem_singleton.1 hp];exact d
 have a4:=(a2.only _ _ a.tr b hJ).1.1 0 h0;exact a2.least (a2.uf.rl 0 h0) (a2.uf.two h0) t a.tr b hJ (a4.symm.trans c)
theorem B5(a2:GX l ga)(a1:GX l gb)(hj:j<ga.length)(h:YY l (j7 ga gb) [(j,ga.length)] X)(k:YY l (j7 ga gb) [(j,ga.length)] Y):X=Y:=by
 have m1:=stp_le a2 a1 hj h k;have m2:=stp_le a2 a1 hj k h;have gx:=(W9 a2 a1 hj h).1;have gy:=(W9 a2 a1 hj k).1;have cX:∃ o,DL X [0] [] o/\yq X o=X:=by
  obtain⟨P,rep,ρ,T,L,o,a3,hd,rfl⟩:=h;obtain⟨t,_⟩:=Yz a2 a1 hj a3 hd;exact⟨_,by have:=t.dl2 t.has t.dl;rw[t.zero]at this;exact this,t.can2 t.has t.dl⟩
 have cY:∃ o,DL Y [0] [] o/\yq Y o=Y:=by
  obtain⟨P,rep,ρ,T,L,o,a3,hd,rfl⟩:=k;obtain⟨t,_⟩:=Yz a2 a1 hj a3 hd;exact⟨_,by have:=t.dl2 t.has t.dl;rw[t.zero]at this;exact this,t.can2 t.has t.dl⟩
 obtain⟨o,ho,e⟩:=cX;obtain⟨p,hp,e2⟩:=cY;have:=can_eq gx gy m1 m2 ho hp;rw[e,e2]at this;exact this.symm
theorem stp_valid(ha:GV l fs ga)(hb:GV l fs gb)(hj:j<ga.length)(h:YY l (j7 ga gb) [(j,ga.length)] X)(h60:X.length<=60):gj l fs X=(0,0):=by
 have hl:=(W9 ha.gx hb.gx hj h).1;obtain⟨P,rep,ρ,T,L,o,a2,hd,rfl⟩:=h;have a3:=NJ ga gb;have h0:0<(j7 ga gb).length:=by have:=ha.gok.pos;omega
 obtain⟨t,_⟩:=Yz ha.gx hb.gx hj a2 hd
 have a1:=a2.fit (fs:=fs) ha.s.vt (a2.uf.rl 0 h0) (a2.uf.two h0) t (fun i hi x hx=>by
  rw[a3]at hi;by_cases e:i<ga.length
  ·rw[W0 e]at hx ⊢
   have h1:=ha.lt e hx;have h2:=(ha.gx.lr i e x hx).2;rw[W0 h2];exact⟨⟨h1.1,h1.2.1⟩,h1.2.2⟩
  ·obtain⟨h3,a4⟩:=FY hi e
   rw[h3]at hx ⊢;obtain⟨y,hy,rfl⟩:=ax.1 hx;have h1:=hb.lt a4 hy;have h2:=(hb.gx.lr _ a4 y hy).2;have h4:=(hb.gx.lr _ a4 y hy).1;have e1:(y.2+(ga.length:Int)).toNat=ga.length+y.2.toNat:=by omega
   simp only[e1];rw[show nd (j7 ga gb) (ga.length+y.2.toNat)=_ from J4 h2]
   exact⟨⟨h1.1,h1.2.1⟩,h1.2.2⟩)
 exact gf_mk ha.h hl h60 a1.1 a1.2
def plc(g:List Nd)(f:Int):Int:=tgt (nd g 0).ln f
theorem stp_plc(hga:GX l ga)(hgb:GX l gb)(hj:j<ga.length)(h:YY l (j7 ga gb) [(j,ga.length)] X)(hf:0<=plc ga f):0<=plc X f:=by
 obtain⟨φ,hφ⟩:=(W9 hga hgb hj h).2;unfold plc at hf ⊢;rcases tgt_mem (xs:=(nd ga 0).ln) (f:=f)with e|⟨y,hy,e1,_⟩
 ·omega
 ·have:=hφ.ln 0 hga.pos y hy
  rw[hφ.zero,e1]at this;omega
structure Jok(l:List Ty)(fs:List Ft)(m:Int)(g:List Nd):Prop where
 v:GV l fs g
 z:gj l fs g=(0,0)
 p:∀ f:Int,0<=f->f<=m->0<=plc g f
theorem Jok.lt{m:Int}(h:Jok l fs m g)(h0:0<=f)(hm:f<=m):(plc g f).toNat<g.length:=by
 have hp:=h.p f h0 hm;rcases tgt_mem (xs:=(nd g 0).ln) (f:=f)with e|⟨y,hy,e1,e2⟩
 ·unfold plc at hp;omega
 ·have:=(h.v.gx.lr 0 h.v.gx.pos y hy).2
  unfold plc;rw[e2];exact this
theorem Jok.step{m:Int}{k:List Nd}(h:Jok l fs m ga)(hk:GV l fs k)(h0:0<=f)(hm:f<=m)(hX:YY l (j7 ga k) [((plc ga f).toNat,ga.length)] X)(h60:X.length<=60):Jok l fs m X:=by
 have z:=stp_valid h.v hk (h.lt h0 hm) hX h60;exact⟨gv_of (by rw[z]),z,fun q q0 qm=>stp_plc h.v.gx hk.gx (h.lt h0 hm) hX (h.p q q0 qm)⟩
def BadU(l:List Ty)(U:List Nd)(J:List (Nat×Nat)):Prop:=¬MV l U J\/∃ X,YY l U J X/\60<X.length
theorem bad_no(hga:GX l ga)(hgb:GX l gb)(hj:j<ga.length)(h:BadU l (j7 ga gb) [(j,ga.length)])(hX:YY l (j7 ga gb) [(j,ga.length)] X)(h60:X.length<=60):False:=by
 rcases h with h|⟨Z,hZ,hz⟩
 ·exact h (Ry hga hgb hj hX)
 ·rw[B5 hga hgb hj hX hZ]at h60;omega
def IK(l:List Ty):List Nd->Nat->List (List Nd)->Bool->List Nd->Prop
 | x,_,[],ok,Y=>ok=true/\∃ o,DL x [(plc x 0).toNat] [] o/\Y=yq x o
 | x,i,k::ks,ok,Y=>(∃ X,YY l (j7 x k) [((plc x ((i:Int)+1)).toNat,x.length)] X/\X.length<=60/\IK l X (i+1) ks ok Y)\/(BadU l (j7 x k) [((plc x ((i:Int)+1)).toNat,x.length)]/\ok=false/\Y= [])
theorem join_no{x k:List Nd}{ks:List (List Nd)}(h:BadU l (j7 x k) [((plc x ((i:Int)+1)).toNat,x.length)]):IK l x i (k::ks) false []:= .inr ⟨h,rfl,rfl⟩
theorem Sy{m:Int}:∀(ks:List (List Nd)) (x:List Nd) (i:Nat) (ok a1:Bool) (Y Y':List Nd),Jok l fs m x->(∀ k∈ks,GV l fs k)->(i:Int)+ks.length<=m->IK l x i ks ok Y->IK l x i ks a1 Y'->ok=a1/\Y=Y'
 | [],x,i,ok,a1,Y,Y',hx,_,_,h,h'=>by
  obtain⟨rfl,o,ho,rfl⟩:=h
  obtain⟨rfl,o',ho',rfl⟩:=h'
  exact⟨rfl,by rw[DL.det ho ho']⟩
 | k::ks,x,i,ok,a1,Y,Y',hx,hk,hm,h,h'=>by
  rw[List.length_cons]at hm
  have a2:=hk k (aE ..)
  have a3:=hx.lt (f:=(i:Int)+1) oG oG
  rcases h with ⟨X,h1,h2,h3⟩|⟨h1,rfl,rfl⟩
  ·rcases h' with ⟨X',k1,k2,k3⟩|⟨k1,_⟩
   ·obtain rfl:=B5 hx.v.gx a2.gx a3 h1 k1
    exact Sy ks X (i+1) ok a1 Y Y' (hx.step a2 oG oG h1 h2) (fun q hq=>hk q (aw _ hq)) oG h3 k3
   ·exact(bad_no hx.v.gx a2.gx a3 k1 h1 h2).elim
  ·rcases h' with ⟨X',k1,k2,_⟩|⟨_,rfl,rfl⟩
   ·exact(bad_no hx.v.gx a2.gx a3 h1 k1 k2).elim
   ·exact⟨rfl,rfl⟩
theorem J7(h:(qW l fs).1=0)(h2:(y9 l fs g).1=0):GV l fs g/\gj l fs g=(0,0):=by
 have e:(gj l fs g).1=0:=by rw[gf_in h];exact h2
 have hv:=gv_of e;exact⟨hv,by rw[gf_in h,IY hv.lo hv.t hv.u]⟩
theorem jok_rule{r:Rl}(h:(qW l fs).1=0)(h2:(y9 l fs r.gr).1=0)(h3:gK r.gr r.kids=true)(h4:r.kids<=3):Jok l fs r.kids r.gr:=by
 obtain⟨hv,hz⟩:=J7 h h2;refine⟨hv,hz,fun f f0 fm=>?_⟩;obtain⟨n,hn⟩:=Int.eq_ofNat_of_zero_le f0;subst hn;have:=aF.1 h3 n (az.2 oG);unfold plN at this;have e:decide ((n:Int)<=r.kids)=true:=aj fm;rw[e]at this;have h5:(0:Int)<=tgt (Pk r.gr 0).ln (n:Int):=by simpa using this
 exact h5
end stp
end
section
section mon
variable {l:List Ty} {fs:List Ft} {x z k k2 X Z:List Nd} {j:Nat} {φ χ:Nat->Nat}
theorem stp_len{J:List (Nat×Nat)}(hl:VT l)(h0:0<U.length)(h:YY l U J X):X.length<=U.length:=by
 obtain⟨P,rep,ρ,T,L,o,hus,hd,rfl⟩:=h;have hgy:=hus.gy hl h0;have t:=hgy.trr (r:=rep 0) (by rw[vk];exact hus.uf.rl 0 h0) hd;have:=t.ok.cnt
 grind[vk,uQ]
end mon
end
section
structure Lr where
 name:ByteArray
 cut:ByteArray
 add:ByteArray
 gr:List Nd
 wt:Int
 mean:Tm
structure LrP(w:World)(r:Lr)(G S B:Option Addr):Prop where
 g:NodesIn w G r.gr
 s:SimsIn w S r.mean.type.args
 t:TmsIn w B r.mean.args
 c:r.cut.size<9223372036854775807
 a:r.add.size<9223372036854775807
theorem LrP.mono{w w':World}{r:Lr}{G S B:Option Addr}(h:LrP w r G S B)(hb:Bel w w'):LrP w' r G S B:=⟨h.g.mono hb,h.s.mono hb,h.t.mono hb,h.c,h.a⟩
def Iv(r:Lr):Prop:=vY r.name=false\/(¬r.cut=⟨#[]⟩/\yV r.cut=false)\/(¬r.add=⟨#[]⟩/\yV r.add=false)
instance(r:Lr):Decidable (Iv r):=by unfold Iv;infer_instance
def Yv(r:Lr):Prop:=r.wt<0\/1000000<r.wt
instance(r:Lr):Decidable (Yv r):=by unfold Yv;infer_instance
noncomputable def lrF(l:List Ty)(fs:List Ft)(r:Lr):Int:=if Iv r then 10 else if Yv r then 3 else if (y9 l fs r.gr).1≠0 then (y9 l fs r.gr).1 else if gK r.gr 1=true then (tmF r.mean).1 else 5
noncomputable def ZK(l:List Ty)(fs:List Ft):Fl:=if (qW l fs).1≠0 then qW l fs else if fs.length<=3 then (9,-1)else (0,0)
noncomputable def lrV(l:List Ty)(fs:List Ft)(r:Lr):Fl:=if (ZK l fs).1≠0 then ZK l fs else if lrF l fs r≠0 then (lrF l fs r,-2)else (0,0)
section
variable {l:List Ty} {fs:List Ft} {r:Lr}
theorem lr_nm(h:Iv r):lrF l fs r=10:=if_pos h
theorem lr_bad(h:¬Iv r)(h2:Yv r):lrF l fs r=3:=by unfold lrF;rw[if_neg h,if_pos h2]
theorem lr_gr(h:¬Iv r)(h2:¬Yv r)(h3:¬(y9 l fs r.gr).1=0):lrF l fs r=(y9 l fs r.gr).1:=by unfold lrF;rw[if_neg h,if_neg h2,if_pos h3]
theorem lr_pl(h:¬Iv r)(h2:¬Yv r)(h3:(y9 l fs r.gr).1=0)(h4:gK r.gr 1=false):lrF l fs r=5:=by unfold lrF;rw[if_neg h,if_neg h2,if_neg (fun e=>e h3),if_neg (by rw[h4];decide)]
theorem lr_ok(h:¬Iv r)(h2:¬Yv r)(h3:(y9 l fs r.gr).1=0)(h4:gK r.gr 1=true):lrF l fs r=(tmF r.mean).1:=by unfold lrF;rw[if_neg h,if_neg h2,if_neg (fun e=>e h3),if_pos h4]
theorem O1(h:¬(qW l fs).1=0):ZK l fs=qW l fs:=if_pos h
theorem Hq(h:(qW l fs).1=0)(h2:fs.length<=3):ZK l fs=(9,-1):=by unfold ZK;rw[if_neg (fun e=>e h),if_pos h2]
theorem N8(h:(qW l fs).1=0)(h2:¬fs.length<=3):ZK l fs=(0,0):=by unfold ZK;rw[if_neg (fun e=>e h),if_neg h2]
theorem J6(h:(ZK l fs).1=0):(qW l fs).1=0/\3<fs.length:=by
 by_cases h1:(qW l fs).1=0
 ·by_cases h2:fs.length<=3
  ·rw[Hq h1 h2]at h;cases h
  ·exact⟨h1,by omega⟩
 ·rw[O1 h1]at h;exact absurd h h1
theorem lrv_rd(h:¬(ZK l fs).1=0):lrV l fs r=ZK l fs:=if_pos h
theorem Hz(h:(ZK l fs).1=0)(h2:¬lrF l fs r=0):lrV l fs r=(lrF l fs r,-2):=by unfold lrV;rw[if_neg (fun e=>e h),if_pos h2]
theorem H9(h:(ZK l fs).1=0)(h2:lrF l fs r=0):lrV l fs r=(0,0):=by unfold lrV;rw[if_neg (fun e=>e h),if_neg (fun e=>e h2)]
theorem XW(h:(lrV l fs r).1=0):(ZK l fs).1=0/\lrF l fs r=0:=by
 by_cases h1:(ZK l fs).1=0
 ·by_cases h2:lrF l fs r=0
  ·exact⟨h1,h2⟩
  ·rw[Hz h1 h2]at h;exact absurd h h2
 ·rw[lrv_rd h1]at h;exact absurd h h1
theorem O2(h:lrF l fs r=0):¬Iv r/\¬Yv r/\(y9 l fs r.gr).1=0/\gK r.gr 1=true/\(tmF r.mean).1=0:=by
 by_cases h1:Iv r
 ·rw[lr_nm h1]at h;cases h
 by_cases h2:Yv r
 ·rw[lr_bad h1 h2]at h;cases h
 by_cases h3:(y9 l fs r.gr).1=0
 ·cases h4:gK r.gr 1 with
  | true=>exact⟨h1,h2,h3,rfl,by rw[lr_ok h1 h2 h3 h4]at h;exact h⟩
  | false=>rw[lr_pl h1 h2 h3 h4]at h;cases h
 ·rw[lr_gr h1 h2 h3]at h;exact absurd h h3
end
mutual
def szT:Tm->Nat
 | .mk _ _ _ _ l=>X1 l+1
def X1:List Tm->Nat
 | []=>0
 | x::r=>szT x+X1 r
end
mutual
def dpT:Tm->Nat
 | .mk _ _ _ _ l=>J8 l+1
def J8:List Tm->Nat
 | []=>0
 | x::r=>max (dpT x) (J8 r)
end
theorem W6(t:Tm):szT t=X1 t.args+1:=by cases t;rw[szT];rfl
theorem dpT_eq(t:Tm):dpT t=J8 t.args+1:=by cases t;rw[dpT];rfl
theorem R9:∀(l:List Tm) (j:Nat) (hj:j<l.length),X1 (l.take (j+1))=X1 (l.take j)+szT l[j]/\J8 (l.take (j+1))=max (J8 (l.take j)) (dpT l[j])
 | x::l,0,_=>by simp[X1,J8]
 | x::l,j+1,h=>by
  have ih:=R9 l j (by simpa using h)
  simp only[List.take_succ_cons,X1,J8,List.getElem_cons_succ]
  omega
theorem W5:∀(l:List Tm) (j:Nat),X1 (l.take j)<=X1 l/\J8 (l.take j)<=J8 l
 | [],j=>by simp
 | x::l,0=>by simp[X1,J8]
 | x::l,j+1=>by
  have ih:=W5 l j
  simp only[List.take_succ_cons,X1,J8]
  omega
theorem G6:∀ l:List Tm,l.length<=X1 l
 | []=>ai _
 | x::l=>by
  have:=G6 l
  have:=W6 x
  rw[X1,List.length_cons];omega
theorem dp_le:∀ t:Tm,dpT t<=szT t:=fun t=>by
 induction t using Tm.rec (motive_2:=fun l=>J8 l<=X1 l)with
 | mk k n i s l ih=>rw[dpT,szT];omega
 | nil=>exact ai _
 | cons x r h1 h2=>rw[J8,X1];omega
theorem G5:∀ v:Tv,szT v.tm=v.size
 | .con nm τ=>by simp[Tv.tm,szT,X1,Tv.size]
 | .var i=>by simp[Tv.tm,szT,X1,Tv.size]
 | .abs τ x=>by simp[Tv.tm,szT,X1,Tv.size,G5 x]
 | .app x y=>by simp[Tv.tm,szT,X1,Tv.size,G5 x,G5 y]
def u4(f x:Tm):Tm:= .mk 4 ⟨#[]⟩ 0 smZ [f,x]
def T7(f x:Tm):Prop:=(tmF f).1=0/\(tmF x).1=0/\(∃ v u τ,f=v.tm/\x=u.tm/\tyv [] (.app v u)=some τ)/\szT (u4 f x)<=200/\dpT (u4 f x)<=40
def JQ(s p:ByteArray):Bool:=decide (p.size<=s.size/\sdr (s.size-p.size) s=p)
def Bq(s p:ByteArray):ByteArray:=if JQ s p=true then stk (s.size-p.size) s else s
def wdL(r:Lr)(x:Lx):ByteArray:=Bq x.word r.cut++r.add
def Ow(r:Lr)(x:Lx):Prop:=JQ x.word r.cut=true/\yV (wdL r x)=true/\x.wt+r.wt<=1000000
instance(r:Lr)(x:Lx):Decidable (Ow r x):=by unfold Ow;infer_instance
def LrS(l:List Ty)(r:Lr)(x:Lx)(ok:Bool)(Y:List Nd):Prop:=
 (ok=true->Ow r x/\T7 r.mean x.mean/\IK l r.gr 0 [x.gr] true Y)/\(ok=false->¬(Ow r x/\T7 r.mean x.mean)\/IK l r.gr 0 [x.gr] false [])
theorem Pw{r:Lr}(h:¬(Ow r x/\T7 r.mean x.mean)\/IK l r.gr 0 [x.gr] false []):LrS l r x false []:=⟨(fun e=>by cases e),fun _=>h⟩
theorem lrs_yes{r:Lr}{Y:List Nd}(h1:Ow r x)(h2:T7 r.mean x.mean)(h3:IK l r.gr 0 [x.gr] true Y):LrS l r x true Y:=⟨fun _=>⟨h1,h2,h3⟩,(fun e=>by cases e)⟩
theorem DZ{r:Lr}(h:(!vY r.name)=true):true=decide (Iv r):=(aj (.inl (by simpa using h))).symm
theorem Dy{r:Lr}(h2:¬r.cut=⟨#[]⟩)(h3:(!yV r.cut)=true):true=decide (Iv r):=(aj (.inr (.inl ⟨h2,by simpa using h3⟩))).symm
theorem XQ{r:Lr}(h:(!vY r.name)=false)(h2:r.cut=⟨#[]⟩\/(!yV r.cut)=false)(h4:¬r.add=⟨#[]⟩):(!yV r.add)=decide (Iv r):=by
 cases e:yV r.add with
 | false=>exact(aj (.inr (.inr ⟨h4,e⟩))).symm
 | true=>
  refine(ap (fun k=>?_)).symm;rcases k with k|k|k
  ·rw[k]at h;cases h
  ·rcases h2 with h2|h2
   ·exact k.1 h2
   ·rw[k.2]at h2;cases h2
  ·rw[k.2]at e;cases e
theorem XZ{r:Lr}(h:(!vY r.name)=false)(h2:r.cut=⟨#[]⟩\/(!yV r.cut)=false)(h4:r.add=⟨#[]⟩):false=decide (Iv r):=by
 refine(ap (fun k=>?_)).symm;rcases k with k|k|k
 ·rw[k]at h;cases h
 ·rcases h2 with h2|h2
  ·exact k.1 h2
  ·rw[k.2]at h2;cases h2
 ·exact k.1 h4
theorem wdo1{r:Lr}(h:(!JQ x.word r.cut)=true):true=decide (¬Ow r x):=by
 symm;rw[decide_eq_true_iff];intro k;rw[k.1]at h;cases h
theorem wdo2{r:Lr}(h:(!yV (wdL r x))=true):true=decide (¬Ow r x):=by
 symm;rw[decide_eq_true_iff];intro k;rw[k.2.1]at h;cases h
theorem wdo3{r:Lr}(h:(!JQ x.word r.cut)=false)(h2:(!yV (wdL r x))=false):decide (1000000<x.wt+r.wt)=decide (¬Ow r x):=by
 have a:JQ x.word r.cut=true:=by simpa using h
 have b:yV (wdL r x)=true:=by simpa using h2
 exact am.2 ⟨fun k j=>by have:=j.2.2;omega,fun k=>aK (fun e=>k ⟨a,b,by omega⟩)⟩
theorem wdt4{s:ByteArray}{p:Nat}:wdt s p<=4:=by
 unfold wdt;rw[Q9];unfold Lib.decodeN
 repeat' split
 all_goals first|decide|exact ai _|(simp;done)
theorem ch_size{s:ByteArray}:∀ n p,s.size-p<=n->s.size<=p+4*(ch s p).length
 | 0,p,h=>by omega
 | n+1,p,h=>by
  by_cases e:p<s.size
  ·have h1:=Xq e
   have h2:=wdt4 (s:=s) (p:=p)
   have ih:=ch_size (s:=s) n (p+wdt s p) oG
   rw[Mv e,List.length_cons];omega
  ·omega
theorem OQ{s:ByteArray}(h:yV s=true):s.size<=120:=by
 unfold yV at h;simp only[Bool.and_eq_true,decide_eq_true_eq]at h;have:=ch_size (s:=s) s.size 0 oG;omega
theorem RX(s p:ByteArray):(Bq s p).size<=s.size:=by
 unfold Bq
 split
 ·rw[GW oG];omega
 ·exact ai _
end
theorem hassf_any(s p:ByteArray)(w:World)(hs:s.size<9223372036854775807)(hp:p.size<9223372036854775807):Calls prog 101 #[.string s,.string p] w fun e w'=>e= .returned (.bool (JQ s p))/\w=w':=by
 refine enter func101 ntmps101 rfl (aA rfl) (zn6 ?_);refine xj (rg [] 4 17) 4 (.bool (decide (p.size<=s.size/\sdr (s.size-p.size) s=p))) nu ?_ (fun gq=>?_)
 ·refine zn7 ?_;refine zk 10 rfl (fun g10=>?_) (fun g10=>?_)
  ·refine vJ ?_;refine wl (jJ (c:=((s.size-p.size:Nat):Int)) rfl rfl oG oG) (zn1 ?_);refine wl (Yx (l:=(s.size-p.size)) U9 rfl rfl oG) (zn6 ?_);refine gk ?_
   first
    | exact ag (am.2 ⟨fun h=>⟨by omega,h⟩,fun h=>h.2⟩)
    | exact ag (ap (fun h=>by omega)).symm
  refine vJ ?_;refine gk ?_
  first
   | exact ag (am.2 ⟨fun h=>⟨by omega,h⟩,fun h=>h.2⟩)
   | exact ag (ap (fun h=>by omega)).symm
 refine zn3 ?_;exact⟨rfl,rfl⟩
theorem cutsf_any(s p:ByteArray)(w:World)(hs:s.size<9223372036854775807)(hp:p.size<9223372036854775807):Calls prog 80 #[.string s,.string p] w fun e w'=>e= .returned (.tuple #[.string (Bq s p),.bool (JQ s p)])/\w=w':=by
 refine enter func80 ntmps80 rfl (aA rfl) (vJ ?_);refine zW kR (hassf_any s p _ hs hp) rfl (fun e' w1 hr=>?_);obtain⟨rfl,rfl⟩:=hr;refine⟨_,rfl,?_⟩;refine zn3 ?_;refine jv rfl (fun c9=>?_) (fun c9=>?_)
 ·have hno:JQ s p=false:=by grind[JQ]
  refine zn9 ?_;refine uK (.inl rfl) rfl rfl rfl ?_;exact⟨by unfold Bq;rw[hno];rfl,rfl⟩
 have hy:JQ s p=true:=by grind[JQ]
 have hle:p.size<=s.size:=(aO hy).1;refine zn9 ?_;refine wl (jJ (c:=((s.size-p.size:Nat):Int)) rfl rfl oG oG) (wl (r_tkS (h:=(s.size-p.size)) U9 rfl rfl oG) (zn5 ?_));refine uK (.inl rfl) rfl rfl rfl ?_;exact⟨by unfold Bq;rw[hy];rfl,rfl⟩
theorem cutss_any(s p:ByteArray)(w:World)(hs:s.size<9223372036854775807)(hp:p.size<9223372036854775807):Calls prog 45 #[.string s,.string p] w fun e w'=>e= .returned (.tuple #[.string (Bq s p),.bool (JQ s p)])/\w=w':=by
 refine enter func45 ntmps45 rfl (aA rfl) (yj ?_);refine zW kR (cutsf_any s p _ hs hp) rfl (fun e' w1 hr=>?_);obtain⟨rfl,rfl⟩:=hr;refine⟨_,rfl,?_⟩;refine wl (yW (v:= .string _) rfl rfl) (wl (yW (v:= .bool _) rfl rfl) (zn5 ?_));refine uK (.inl rfl) rfl rfl rfl ?_;exact⟨rfl,rfl⟩
theorem rc_any(s:ByteArray)(w:World)(hsz:s.size<9223372036854775807):Calls Tryz.prog 68 #[.string s] w fun e w'=>e= .returned (.int .i64 (((ch s 0).length:Nat):Int))/\Bel w w':=by
 refine enT Tryz.func68 Tryz.ntmps68 rfl rfl fun hB=>?_;refine zn9 ?_;refine wl_rg U9 rfl (fun b4 w1 a1 s1 hr=>?_);have lo4:=hB.ob hr;refine zn3 ?_;refine qz [2,5,6,7,8] (fun m g w'=>∃ p n:Nat,p<=s.size/\m=s.size-p/\n<=p/\g 2= .int .i64 n/\n+(ch s p).length=(ch s 0).length/\Bel w w'/\ItIn w' b4 s p) (s.size) ?_ (fun m g2 w2 hI=>?_)
 ·exact⟨0,0,ah _,rfl,ai _,rfl,Nat.zero_add _,hB.u,a1⟩
 obtain⟨p,n,hp,hm,hnp,h2,hc,hB,a1⟩:=hI;refine zQ 2 _ h2 nu (zn2 ?_);rcases Nat.lt_or_ge (p) (s).size with hnlt|hnge
 ·refine wl_nx a1 rfl hnlt (fun w3 hq s2=>?_);replace a1:=hq;have hwp:=Xq hnlt;have hwl:=FJ hnlt;rw[Mv hnlt,List.length_cons]at hc;refine wl (yW (v:= .bool true) rfl rfl) (uJ ?_);refine x9 (s.size-(p+wdt s p)) oG agA ?_;exact⟨p+wdt s p,n+1,hwl,rfl,by omega,rfl,by omega,hB.u,a1⟩
 refine wl (r_ne a1 rfl (Nat.not_lt.2 hnge)) ?_;rw[HY (Nat.not_lt.2 hnge),List.length_nil,Nat.add_zero]at hc;refine wl (yW (v:= .bool false) rfl rfl) (Nk ?_);exact⟨by rw[<- hc];rfl,hB⟩
theorem Y4(s:ByteArray)(w:World)(h8:8<=s.size):Calls Tryz.prog 97 #[.string s] w fun e w'=>e= .returned (.int .u64 ((wo 7 s:Nat):Int))/\Bel w w':=by
 have q0:=oX s 0;have q1:=oX s 1;have q2:=oX s 2;have q3:=oX s 3;have q4:=oX s 4;have q5:=oX s 5;have q6:=oX s 6;have q7:=oX s 7;have r0:=uV s (k:=0) dE;have r1:=uV s (k:=1) dE;have r2:=uV s (k:=2) dE;have r3:=uV s (k:=3) dE;have r4:=uV s (k:=4) dE;have r5:=uV s (k:=5) dE;have r6:=uV s (k:=6) dE;have r7:=uV s (k:=7) dE;refine enT Tryz.func97 Tryz.ntmps97 rfl rfl fun hB=>?_;refine yj ?_;refine oJ kR kR (fun w1 s1=>?_);refine zn1 ?_;refine ws (kY (i:=0) U9 rfl rfl oG) (ws (EJ U5 KX rfl (PY oG)) (zn1 ?_));refine ws (kY (i:=1) U9 rfl rfl oG) (ws (EJ U5 KX rfl (PY oG)) (ws (N4 (b:=8) rfl rfl dE oG rfl) (ws (J1 rfl rfl r0 oG) (zn1 ?_))));refine ws (kY (i:=2) U9 rfl rfl oG) (ws (EJ U5 KX rfl (PY oG)) (ws (N4 (b:=16) rfl rfl dE oG rfl) (ws (J1 rfl rfl r1 oG) (zn1 ?_))));refine ws (kY (i:=3) U9 rfl rfl oG) (ws (EJ U5 KX rfl (PY oG)) (ws (N4 (b:=24) rfl rfl dE oG rfl) (ws (J1 rfl rfl r2 oG) (zn1 ?_))));refine ws (kY (i:=4) U9 rfl rfl oG) (ws (EJ U5 KX rfl (PY oG)) (ws (N4 (b:=32) rfl rfl dE oG rfl) (ws (J1 rfl rfl r3 oG) (zn1 ?_))));refine ws (kY (i:=5) U9 rfl rfl oG) (ws (EJ U5 KX rfl (PY oG)) (ws (N4 (b:=40) rfl rfl dE oG rfl) (ws (J1 rfl rfl r4 oG) (zn1 ?_))));refine ws (kY (i:=6) U9 rfl rfl oG) (ws (EJ U5 KX rfl (PY oG)) (ws (N4 (b:=48) rfl rfl dE oG rfl) (ws (J1 rfl rfl r5 oG) (zn1 ?_))));refine ws (kY (i:=7) U9 rfl rfl oG) (ws (EJ U5 KX rfl (PY oG)) (ws (N4 (b:=56) rfl rfl dE oG rfl) (ws (J1 rfl rfl r6 oG) (zn1 ?_))));refine uz (zn3 ?_);exact⟨rfl,hB.u⟩
end Go.Proofs.YtndbjnkilegebaaGreatDoor
