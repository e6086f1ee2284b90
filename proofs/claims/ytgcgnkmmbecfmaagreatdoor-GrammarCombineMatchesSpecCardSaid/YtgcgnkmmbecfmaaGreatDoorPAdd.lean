/- What these functions of the program compute, at every world: (*glosswright/unify.pool).add. -/
import Derived.Test.YtgcgnkmmbecfmaaGreatDoorU
import Derived.Test.YtgcgnkmmbecfmaaGreatDoorZst
import Derived.Test.YtgcgnkmmbecfmaaGreatDoorPFind
namespace Go.Proofs.YtgcgnkmmbecfmaaGreatDoor
open Go.RowKit
open Go.Proofs.Tryz
variable {k n:Nat}
structure PoolAt(w:World)(ob bp:Nat)(c0 c1:Value)(n:Nat)(PA TA LA:Option Addr)(cp ct cl:Nat)(P:Nat->Nat)(T:Nat->Int)(V:Nat->Value)(L:Nat->List (Int×Int)):Prop where
 bp:Blk w bp 132 #[c0,c1,.slice PA n cp,.slice TA n ct,.slice LA n cl]
 pa:Own w ob 3 1 PA n cp (jZ n (vN P))
 ta:Own w ob 3 1 TA n ct (jZ n (vI T))
 la:Own w ob 78 1 LA n cl (jZ n V)
 rows:∀ x,x<n->RowO w ob w.heap.size (V x) (L x)
 dis:∀ g∈aL PA,¬g∈aL TA
theorem row2_lnV{m:Nat}{f h:Nat->Value}{xs:List (Int×Int)}(hl:xs.length=m)(hf:∀ k (hk:k<xs.length),f k= .int .i64 (xs[k]).1)(hh:∀ k (hk:k<xs.length),h k= .int .i64 (xs[k]).2):(kz m f h).toList=lnV xs:=by
 refine List.ext_getElem? (fun j=>?_);by_cases hj:j<m*2
 ·have hk:j/2<xs.length:=by omega
  have h1:=YY xs (j/2) hk;rcases Nat.mod_two_eq_zero_or_one j with e|e
  ·have e2:j=0+j/2*2+0:=by omega
   rw[Array.getElem?_toList];rw[show (kz m f h)[j]? =(kz m f h)[0+j/2*2+0]? from congrArg (fun z=>(kz m f h)[z]?) e2,Xy oG,hf _ hk];rw[show (lnV xs)[j]? =(lnV xs)[j/2*2]? from congrArg (fun z=>(lnV xs)[z]?) oG,h1.1]
  ·have e2:j=0+j/2*2+1:=by omega
   rw[Array.getElem?_toList];rw[show (kz m f h)[j]? =(kz m f h)[0+j/2*2+1]? from congrArg (fun z=>(kz m f h)[z]?) e2,ZQ oG,hh _ hk];rw[show (lnV xs)[j]? =(lnV xs)[j/2*2+1]? from congrArg (fun z=>(lnV xs)[z]?) oG,h1.2]
 ·rw[List.getElem?_eq_none (by simp[kz];omega),List.getElem?_eq_none (by rw[Q6];omega)]
def Wy(n:Nat)(P:Nat->Nat)(x:Nat):Nat:=if x<n then P x else x
def SQ(n:Nat)(T:Nat->Int)(g:List Nd)(x:Nat):Int:=if x<n then T x else (nd g (x-n)).ty
def shL(n:Nat)(xs:List (Int×Int)):List (Int×Int):=xs.map (fun y=>(y.1,y.2+(n:Int)))
def addL(n:Nat)(L:Nat->List (Int×Int))(g:List Nd)(x:Nat):List (Int×Int):=if x<n then L x else shL n (nd g (x-n)).ln
def VK(V:Nat->Value)(m:Nat)(v:Value)(x:Nat):Value:=if x=m then v else V x
theorem rowL_put{V:Nat->Value}{m:Nat}{v:Value}:jZ m V++[v]=jZ (m+1) (VK V m v):=by
 rw[T8]
 exact oQ (fun x hx=>by
  by_cases e:x=m
  ·subst e;simp[VK]
  ·have:x<m:=by omega
   simp[VK,e,this])
theorem addP_new{P:Nat->Nat}:Value.int .i64 ((n+k:Nat):Int)=vN (Wy n P) (n+k):=by
 unfold vN Wy;rw[if_neg oG]
theorem addT_new{T:Nat->Int}{g:List Nd}(hk:k<g.length):Value.int .i64 (g[k]).ty=vI (SQ n T g) (n+k):=by
 unfold vI SQ;rw[if_neg oG,show n+k-n=k by omega,vx hk]
theorem Zk{w:World}{base b sz c:Nat}{e t:TypeId}{A:Option Addr}{xs:List Value}{cs:Array Value}(h:Own w base e sz A k c xs)(hb:Blk w b t cs)(hne:e≠t):∀ g∈aL A,g≠b:=fun g hg e1=>by
 obtain⟨c2,h2⟩:=h.typ g hg
 subst e1
 exact hne (jy h2 hb)
theorem L7{g:Nat->Value}{v:Value}(h:v=g n):jZ n g++[v]=jZ (n+1) g:=by
 rw[T8]
 exact oQ (fun x hx=>by
  by_cases e:x<n
  ·rw[if_pos e]
  ·rw[if_neg e,h,show x=n by omega])
theorem Gv:(prog.info? 3).map (fun i=>(i.zero,i.size,i.bytes))=some (some (.int .i64 0),1,8):=by kernel_rfl
theorem in78:(prog.info? 78).map (fun i=>(i.zero,i.size,i.bytes))=some (some (.slice none 0 0),1,24):=by kernel_rfl
theorem XX:(prog.info? 83).map (fun i=>(i.zero,i.size,i.bytes))=some (some (.agg #[.int .i64 0,.int .i64 0]),2,16):=by kernel_rfl
theorem sz130:(prog.info? 130).map (·.size)=some 1:=by kernel_rfl
theorem WW:(prog.info? 3).map (·.zero)=some (some (.int .i64 0)):=by kernel_rfl
theorem ze78:(prog.info? 78).map (·.zero)=some (some (.slice none 0 0)):=by kernel_rfl
theorem IZ:(prog.info? 80).map (·.zero)=some (some (.agg #[.int .i64 0,.slice none 0 0])):=by kernel_rfl
set_option maxHeartbeats 4000000 in
theorem Lv{ob bp cg nf:Nat}{c0 c1:Value}{PA TA LA G:Option Addr}{cp ct cl:Nat}{P:Nat->Nat}{T:Nat->Int}{V:Nat->Value}{L:Nat->List (Int×Int)}{gr:List Nd}(nt:Nat)(w:World)(hp:PoolAt w ob bp c0 c1 n PA TA LA cp ct cl P T V L)(hbo:bp<ob)(hob:ob<=w.heap.size)(hn:n<=1000000)(hG:∀ w2,Chg ob [bp] w w2->NodesIn w2 G gr)(hk:GOk nt nf gr)(hnf:nf<=1000):Calls prog 79 #[.pointer (some ⟨bp,0,none⟩),.agg #[.slice G gr.length cg]] w fun e w'=>(∃ PA' TA' LA' cp' ct' cl' V',e= .returned (.int .i64 (n:Nat))/\PoolAt w' ob bp c0 c1 (n+gr.length) PA' TA' LA' cp' ct' cl' (Wy n P) (SQ n T gr) V' (addL n L gr))/\Chg ob [bp] w w'/\ob<=w'.heap.size:=by
 have hn6:=hk.le;have hlob:w.heap.size<=w.heap.size:=ah _;obtain⟨ab,a2,a1,a9,a5,be⟩:=hp;obtain⟨bs,bk⟩:∃ b,b=w.heap.size:=⟨_,rfl⟩
 rw[<- bk]at a5;have a4:bs<=w.heap.size:=ay bk;have a3:Chg ob [bp] w w/\ob<=w.heap.size:=⟨Chg.refl _ _ _,hob⟩
 replace a2:Own w ob 3 1 PA n cp (jZ n (vN (Wy n P))):=by rw[oQ (g':=vN P) (fun x hx=>by simp[vN,Wy,hx])];exact a2
 replace a1:Own w ob 3 1 TA n ct (jZ n (vI (SQ n T gr))):=by rw[oQ (g':=vI T) (fun x hx=>by simp[vI,SQ,hx])];exact a1
 replace a5:∀ x,x<n->RowO w ob bs (V x) (addL n L gr x):=fun x hx=>by have h:=a5 x hx;simp only[addL,if_pos hx];exact h
 refine enter func79 ntmps79 rfl (aD rfl) (zn2 ?_);refine xy (v:= .agg #[_]) (cs:=#[_]) rfl rfl (fun b3 w1 ao t1 hr=>?_);have:=ab.ob hr;have b1:=a2.ob hr;have bb:=a1.ob hr;have b2:=a9.ob hr;have db:=(nLT a3.2 hr)
 have d9:=(nLT a4 hr)
 replace a5:=qj a5 t1;replace a3:=y6 a3 t1;replace a4:=zV a4 t1;refine zn5 ?_;refine wl (xz (v:= .pointer (some _)) rfl) (wl (X8 rfl) (Kz ?_));replace ab:=ab.tr0 t1;replace a2:=a2.tr0 t1;replace a1:=a1.tr0 t1;replace a9:=a9.tr0 t1;refine qx (rg (rg [] 6 5) 19 62) (fun m g w'=>∃(k:Nat) (PA TA LA:Option Addr) (cp ct cl:Nat) (V:Nat->Value),k<=gr.length/\m=gr.length-k/\g 19= .int .i64 k/\Blk w' b3 30 #[.slice G gr.length cg]/\Blk w' bp 132 #[c0,c1,.slice PA (n+k) cp,.slice TA (n+k) ct,.slice LA (n+k) cl]/\Own w' ob 3 1 PA (n+k) cp (jZ (n+k) (vN (Wy n P)))/\Own w' ob 3 1 TA (n+k) ct (jZ (n+k) (vI (SQ n T gr)))/\Own w' ob 78 1 LA (n+k) cl (jZ (n+k) V)/\(∀ x,x<(n+k)->RowO w' ob w'.heap.size (V x) (addL n L gr x))/\(∀ g∈aL PA,¬g∈aL TA)/\(Chg ob [bp] w w'/\ob<=w'.heap.size)) (gr.length) ?_ (fun m g3 w2 hI=>?_)
 ·exact⟨0,PA,TA,LA,cp,ct,cl,V,ag _,rfl,rfl,ao,ab,a2,a1,a9,fun x hx=>(a5 x hx).up a4,be,a3⟩
 obtain⟨k,PA,TA,LA,cp,ct,cl,V,hkk,hm,h19,ao,ab,a2,a1,a9,a5,be,a3⟩:=hI;obtain⟨bs,bk⟩:∃ b,b=w2.heap.size:=⟨_,rfl⟩
 rw[<- bk]at a5;have a4:bs<=w2.heap.size:=ay bk;have hup:=fun g hg=>(a2.lt g hg).2
 have hut:=fun g hg=>(a1.lt g hg).2
 have hul:=fun g hg=>(a9.lt g hg).2
 have hu3:=ao.lt;have dn:=ab.lt;rw[<- bk]at hup hut hul hu3 dn;have b1:=Zk a2 ao dE;have bb:=Zk a1 ao dE;have b2:=Zk a9 ao dE;refine zX 19 _ h19 nu (zn6 ?_);refine zQ rfl (fun c20=>?_) (fun c20=>?_)
 ·have an:k<gr.length:=by omega
  obtain⟨nb,no,LA0,lc,rfl,hnb,hnr,dp⟩:=(hG _ a3.1).at_ (Below.refl _ _:Bel w2 w2) an;have hmx:=dp.1;unfold vJ at hmx;have hfw:=hk.few k an;obtain⟨wN,hwN⟩:∃ x,x=w2:=⟨_,rfl⟩
  have bm:Bel wN w2:=by rw[hwN];exact Below.refl _ _
  rw[<- hwN]at hnb hnr dp;refine zn7 ?_;refine wl (x9 (i:=k) U28 gj rfl rfl an rfl) (wl (qw U80 rfl rfl (bm.range hnb hnr) gj) ?_);refine qW (cs:=#[.int .i64 0,.slice none 0 0]) IZ rfl (fun b7 w3 b4 t2 hr=>?_);have:=ab.ob hr;have bc:=a2.ob hr;have b9:=a1.ob hr;have bi:=a9.ob hr;have da:=(nLT a3.2 hr)
  have:=ao.ob hr;have d8:=(nLT a4 hr)
  have lo7:=bm.ob hr;have bj:=bm.ob hr;replace a5:=qj a5 t2;replace a3:=y6 a3 t2;replace a4:=zV a4 t2;refine waI rfl ?_;refine zZ b4 rfl rfl gj rfl qz (fun w4 hq t3=>?_);replace a2:=a2.tr0 t2;replace a2:=a2.cB t3;replace a1:=a1.tr0 t2;replace a1:=a1.cB t3;replace a9:=a9.tr0 t2;replace a9:=a9.cB t3;replace a5:=qj a5 t3;replace a3:=y6 a3 t3;replace a4:=zV a4 t3;replace b4:=hq;refine zn7 ?_;refine H2 (m:=(gr[k]'an).ln.length) U78 XX rfl rfl oG oG (fun dk w5 b5 t4 hr=>?_);replace ab:=(ab.tr0 t2).tr1 t3 oG;have:=ab.ob hr;have ca:=a2.ob hr;have c6:=a1.ob hr;have ce:=a9.ob hr;have cr:=(nLT a3.2 hr)
  have:=ao.u.ob hr;have cm:=(nLT a4 hr)
  have:=b4.ob hr;have lo27:=bm.u.ob hr;have d2:=bm.u.ob hr;replace a5:=qj a5 t4;replace a3:=y6 a3 t4;replace a4:=zV a4 t4;refine zn5 ?_;replace ao:=((ao.tr0 t2).tr1 t3 oG).tr0 t4;replace bm:=((bm.tr0 t2).tr1 t3 bj).tr0 t4;replace ab:=ab.tr0 t4;replace a2:=a2.tr0 t4;replace a1:=a1.tr0 t4;replace a9:=a9.tr0 t4;replace b4:=b4.tr0 t4;replace b5:Blk w5 dk 83 (kz (gr[k]'an).ln.length (fun _=> .int .i64 0) (fun _=> .int .i64 0)):=by
    have h:=b5;rw[show (Value.agg #[.int .i64 0,.int .i64 0]).cells= #[.int .i64 0,.int .i64 0]from rfl,M2]at h;exact h
  refine zn8 ?_;refine qx (rg [9,10] 31 16) (fun m g w'=>∃ j:Nat,j<=(gr[k]'an).ln.length/\m=(gr[k]'an).ln.length-j/\g 31= .int .i64 j/\Blk w' b3 30 #[.slice (some ⟨nb,no,none⟩) gr.length cg]/\Blk w' bp 132 #[c0,c1,.slice PA (n+k) cp,.slice TA (n+k) ct,.slice LA (n+k) cl]/\Own w' ob 3 1 PA (n+k) cp (jZ (n+k) (vN (Wy n P)))/\Own w' ob 3 1 TA (n+k) ct (jZ (n+k) (vI (SQ n T gr)))/\Own w' ob 78 1 LA (n+k) cl (jZ (n+k) V)/\(∀ x,x<(n+k)->RowO w' ob bs (V x) (addL n L gr x))/\bs<=w'.heap.size/\Bel wN w'/\Blk w' b7 80 #[.int .i64 (gr[k]'an).ty,.slice LA0 (gr[k]'an).ln.length lc]/\Blk w' dk 83 (kz (gr[k]'an).ln.length (fun x=>if x<j then .int .i64 (((gr[k]'an)).ln.getD x (0,0)).1 else .int .i64 0) (fun x=>if x<j then .int .i64 ((((gr[k]'an)).ln.getD x (0,0)).2+(n:Int))else .int .i64 0))/\(Chg ob [bp] w w'/\ob<=w'.heap.size)) ((gr[k]'an).ln.length) ?_ (fun m g7 w6 hI=>?_)
  ·refine⟨0,ag _,rfl,rfl,ao,ab,a2,a1,a9,a5,a4,bm,b4,?_,a3⟩;rw[oX (f':=fun _=> .int .i64 0) (h':=fun _=> .int .i64 0) (fun x _=>by simp) (fun x _=>by simp)];exact b5
  obtain⟨j,hj,hmj,h31,ao,ab,a2,a1,a9,a5,a4,bm,b4,b5,a3⟩:=hI;refine zX 31 _ h31 nu (zn6 ?_);refine zQ rfl (fun c32=>?_) (fun c32=>?_)
  ·have dc:j<(gr[k]'an).ln.length:=by omega
   obtain⟨lb,lof,rfl,hlb,hlr⟩:=dp.at_ bm dc;have hxr:=hk.ln k an _ (am dc);refine zn8 ?_;refine wl (qw U83 rfl rfl hlr qv) ?_;refine qW (cs:=#[.int .i64 0,.int .i64 0]) Qj rfl (fun b10 w7 de t5 hr=>?_);have:=ab.ob hr;have cb:=a2.ob hr;have c7:=a1.ob hr;have cf:=a9.ob hr;have cu:=(nLT a3.2 hr)
   have:=ao.ob hr;have cn:=(nLT a4 hr)
   have:=b4.ob hr;have:=b5.ob hr;have lo10:=bm.ob hr;have d3:=bm.ob hr;replace a5:=qj a5 t5;replace a3:=y6 a3 t5;replace a4:=zV a4 t5;refine waI rfl ?_;refine zZ de rfl rfl qv rfl qz (fun w8 hq t6=>?_);replace a2:=a2.tr0 t5;replace a2:=a2.cB t6;replace a1:=a1.tr0 t5;replace a1:=a1.cB t6;replace a9:=a9.tr0 t5;replace a9:=a9.cB t6;replace a5:=qj a5 t6;replace a3:=y6 a3 t6;replace a4:=zV a4 t6;replace de:=hq;refine yW ?_;refine wl (Z4 (c:=(((gr[k]'an).ln[j]'dc).2+(n:Int))) rfl rfl oG oG) (wl (vw (v0:= .int _ _) (v1:= .int _ _) (fun v0 v1=>#[v0,v1]) rfl rfl kR) (wl (x9 (i:=j) U78 qv rfl rfl dc rfl) ?_));replace b5:=(b5.tr0 t5).tr1 t6 oG;refine Mv b5 rfl rfl qv (by rw[uq];show 0+j*2+2<=_;omega) qz L8 (fun w9 hq t7=>?_);replace a2:=a2.cB t7;replace a1:=a1.cB t7;replace a9:=a9.cB t7;replace a5:=qj a5 t7;replace a3:=y6 a3 t7;replace a4:=zV a4 t7;replace b5:=hq
   rw[oX (f':=fun x=>if x<j+1 then .int .i64 (((gr[k]'an)).ln.getD x (0,0)).1 else .int .i64 0) (h':=fun x=>if x<j+1 then .int .i64 ((((gr[k]'an)).ln.getD x (0,0)).2+(n:Int))else .int .i64 0) (fun x _=>by
     by_cases e:x=j
     · subst e;simp[List.getD,dc]
     · have e1:(x<j+1)↔(x<j):=by omega
       simp[e,e1]) (fun x _=>by
     by_cases e:x=j
     · subst e;simp[List.getD,dc]
     · have e1:(x<j+1)↔(x<j):=by omega
       simp[e,e1])]at b5
   refine zn7 ?_;refine x8 ((gr[k]'an).ln.length-(j+1)) oG agA ?_;replace ab:=((ab.tr0 t5).tr1 t6 oG).tr1 t7 oG;exact⟨j+1,by omega,rfl,rfl,ao.u,ab,a2,a1,a9,a5,a4,bm.u,b4.u,b5,a3⟩
  have hjx:j=(gr[k]'an).ln.length:=by omega
  subst hjx;refine zn6 ?_
  have ac:=RowO.of (lo:=ob) (xs:=shL n (gr[k]'an).ln) (cap:=(gr[k]'an).ln.length) (base:=ob) (ah _) (A:=some ⟨dk,0,none⟩) (w:=w6) (by
    have hl:(shL n (gr[k]'an).ln).length=(gr[k]'an).ln.length:=by simp[shL]
    rw[hl];have h:=YK (base:=ob) (sz:=2) (m:=(gr[k]'an).ln.length) b5 oG (by rw[uq]) oG
    rw[row2_lnV hl (fun x hx=>by
      have dm:x<(gr[k]'an).ln.length:=by omega
      simp[shL,List.getD,dm]) (fun x hx=>by
      have dm:x<(gr[k]'an).ln.length:=by omega
      simp[shL,List.getD,dm])]at h
    exact h)
  rw[show (shL n (gr[k]'an).ln).length=(gr[k]'an).ln.length by simp[shL]]at ac;obtain⟨s9,hs9⟩:∃ b,b=w6.heap.size:=⟨_,rfl⟩
  rw[<- hs9]at ac;have b8:s9<=w6.heap.size:=ay hs9;refine oK (wl (xz (v:= .pointer (some _)) rfl) (wl (xz (v:= .pointer (some _)) rfl) (wl (X8 rfl) (zn4 ?_))));refine wl (Z4 (c:=((n+k:Nat):Int)) rfl rfl oG oG) ?_;refine qV (cs:=#[_]) [(0,.int _ _)] rfl U59 xX WW dE dE kR rfl (fun b55 w10 du t8 hr=>?_);have:=ab.ob hr;have c9:=a2.ob hr;have c5:=a1.ob hr;have cd:=a9.ob hr;have cq:=(nLT a3.2 hr)
  have:=ao.ob hr;have ck:=(nLT a4 hr)
  have:=b4.ob hr;have c3:=(nLT b8 hr)
  replace a5:=qj a5 t8;replace a3:=y6 a3 t8;replace a4:=zV a4 t8;replace ac:=ac.tr t8 (by simp);replace b8:=zV b8 t8;replace a1:=a1.tr0 t8;have hzz:=fun g hg=>(a1.lt g hg).2
  replace a2:=a2.tr0 t8;refine j7 U59 Gv rfl dE a2 du rfl rfl rfl qz dE oG oG a3.2 (fun d6 bz w11 bw t9 hg=>?_);replace ab:=ab.tr0 t8;have cx:d6≠bp:=neA a2 ab.lt hg
  have cz:d6≠b3:=neB ao.u.lt hg (fun g hg=>by have:=b1 g hg;omega)
  have cy:d6≠b7:=neB b4.u.lt hg (fun g hg=>by have:=bc g hg;omega)
  replace ab:=ab.ta t9 a2;replace a1:=a1.c t9;replace a9:=a9.tr0 t8;replace a9:=a9.c t9;replace a5:=qj a5 t9;replace a3:=y6 a3 t9;replace ao:=ao.tr0 t8;replace ao:=ao.tb t9 (fun g hg=>by have:=b1 g hg;omega);replace a4:=zV a4 t9;replace b4:=b4.tr0 t8;replace b4:=b4.tb t9 (fun g hg=>by have:=bc g hg;omega);replace ac:=ac.c t9;replace b8:=zV b8 t9;have be:∀ g∈aL (some ⟨d6,0,none⟩),¬g∈aL TA:=fun g hg' h=>by
    simp only[aL,List.mem_singleton]at hg';subst hg';rcases hg with hg|hg
    · exact be _ (by rw[hg];exact aq.2 rfl) h
    · have:=hzz _ h;omega
  replace bw:Own w11 ob 3 1 (some ⟨d6,0,none⟩) (n+k+1) bz (jZ (n+k+1) (vN (Wy n P))):=by rw[L7 addP_new]at bw;exact bw
  have a2:=bw;refine wl (X8 rfl) (zn1 ?_);refine xQ (v:= .slice _ _ _) ab rfl rfl J8 (by first|decide|simp) rfl rfl (fun w12 hq bn=>?_);replace a1:=a1.cB bn;replace a9:=a9.cB bn;replace a5:=qj a5 bn;replace a3:=y6 a3 bn;replace a4:=zV a4 bn;replace ac:=ac.c bn;replace b8:=zV b8 bn;replace a2:=a2.cB bn;replace ab:=hq;refine zn3 ?_;have zo:=fun g hg=>(a1.lt g hg).2
  refine J1 11 (rg [] 59 11) (aL TA) 8 (fun ix v wv=>match ix with|0=>v= .pointer (some ⟨bp,0,none⟩)|1=>v= .pointer (some ⟨bp,0,none⟩)|2=>v= .pointer (some ⟨bp,0,none⟩)|3=>v= .pointer (some ⟨bp,3,none⟩)|4=>v= .slice TA (n+k) ct|5=>v= .pointer (some ⟨b7,0,none⟩)|6=>v= .int .i64 (gr[k]'an).ty|7=>∃ b,v= .slice (some ⟨b,0,none⟩) 1 1/\w12.heap.size<=b/\Blk wv b 3 #[.int .i64 (gr[k]'an).ty]|8=>∃ g cap,v= .slice (some ⟨g,0,none⟩) (n+k+1) cap/\Own wv ob 3 1 (some ⟨g,0,none⟩) (n+k+1) cap (jZ (n+k) (vI (SQ n T gr))++[.int .i64 (gr[k]'an).ty])/\(∀ g2∈aL (some (⟨d6,0,none⟩:Addr)),¬g2∈aL (some (⟨g,0,none⟩:Addr)))|9=>v= .pointer (some ⟨bp,0,none⟩)|10=>v= .pointer (some ⟨bp,3,none⟩)|_=>True) (fun _=>True) kR kR ?_ (fun _ _ _ _=>trivial) ?_ ?_ dE ?_
  ·intro ix v wv wv2 h t11
   match ix,h with
   | 0,h=>exact h
   | 1,h=>exact h
   | 2,h=>exact h
   | 3,h=>exact h
   | 4,h=>exact h
   | 5,h=>exact h
   | 6,h=>exact h
   | 7,h=>
    obtain⟨di,dg,bu,bh⟩:=h;exact⟨di,dg,bu,bh.tr0 t11⟩
   | 8,h=>
    obtain⟨df,bf,dv,bd,d5⟩:=h;exact⟨df,bf,dv,bd.tr0 t11,d5⟩
   | 9,h=>exact h
   | 10,h=>exact h
   | _+11,h=>exact trivial
  ·intro ix o hix d4 b6 gg wx t12 hd
   match ix,hix,d4,b6 with
   | 0,_,_,b6=>
    cases sI b6;refine qZ (xz (v:= .pointer (some _)) rfl) ⟨Same.refl _ _,?_⟩;exact rfl
   | 1,_,_,b6=>
    cases sI b6;refine qZ (xz (v:= .pointer (some _)) rfl) ⟨Same.refl _ _,?_⟩;exact rfl
   | 2,_,_,b6=>
    cases sI b6;refine a7 60 (hd 1 a8) ?_;refine qZ (X8 rfl) ⟨Same.refl _ _,?_⟩;exact rfl
   | 3,_,_,b6=>
    cases sI b6;refine a7 61 (hd 2 a8) ?_;refine qZ (u6 WQ J8 dE rfl rfl rfl) ⟨Same.refl _ _,?_⟩;exact rfl
   | 4,_,_,b6=>
    cases sI b6;replace ab:=ab.ta t12 a1;refine a7 62 (hd 3 a8) ?_;refine qZ (qy (v:= .slice _ _ _) U59 rfl rfl (ab.cell rfl)) ⟨Same.refl _ _,?_⟩;exact rfl
   | 5,_,_,b6=>
    cases sI b6;refine qZ (u6 U80 xX dE rfl rfl rfl) ⟨Same.refl _ _,?_⟩;exact rfl
   | 6,_,_,b6=>
    cases sI b6;replace b4:=b4.tr1 bn oG;replace b4:=b4.tb t12 (fun g hg=>by have:=b9 g hg;omega);refine a7 64 (hd 5 a8) ?_;refine qZ (qy (v:= .int _ _) U3 rfl rfl (b4.cell rfl)) ⟨Same.refl _ _,?_⟩;exact rfl
   | 7,_,_,b6=>
    cases sI b6;have hs0:=t12;refine a7 65 (hd 6 a8) ?_;refine jK (fun ops Q K=>?_);refine qV (cs:=#[_]) [(0,.int _ _)] rfl U59 xX WW dE dE kR rfl (fun di w13 bh t13 hr=>?_);exact K _ _ ⟨t13,⟨_,rfl,nLT hs0.size hr,bh⟩⟩
   | 8,_,d4,_=>exact absurd rfl d4
   | 9,_,_,b6=>
    cases sI b6;refine a7 59 (hd 0 a8) ?_;refine qZ (X8 rfl) ⟨Same.refl _ _,?_⟩;exact rfl
   | 10,_,_,b6=>
    cases sI b6;refine a7 68 (hd 9 a8) ?_;refine qZ (u6 WQ J8 dE rfl rfl rfl) ⟨Same.refl _ _,?_⟩;exact rfl
   | _+11,hix,_,_=>exact absurd hix oG
  ·intro o b6 gg wx d7 hd;cases sI b6;replace a5:=qj a5 d7;replace a3:=y6 a3 d7;replace a4:=zV a4 d7;replace b8:=zV b8 d7;obtain⟨di,dg,bu,bh⟩:=hd 7 (zk kR);refine a7 63 (hd 4 a8) (zq 66 _ dg nu ?_);refine jK (fun ops Q K=>?_);replace a1:=a1.tr0 d7;refine j7 U59 Gv rfl dE a1 bh rfl rfl rfl qz dE oG oG a3.2 (fun df bf w2 bd hs2 dq=>?_);replace a2:=a2.tr0 d7
   refine K _ _ ⟨hs2,⟨_,_,rfl,bd,fun g2 h2 h3=>by
       simp only[aL,List.mem_singleton]at h3;subst h3;rcases dq with hg|hg
       · exact be _ h2 (by rw[hg];exact aq.2 rfl)
       · have:=(a2.lt _ h2).2;omega⟩,trivial,fun kx v d4 h=>?_⟩
   match kx,d4,h with
   | 0,_,h=>exact h
   | 1,_,h=>exact h
   | 2,_,h=>exact h
   | 3,_,h=>exact h
   | 4,_,h=>exact h
   | 5,_,h=>exact h
   | 6,_,h=>exact h
   | 7,_,h=>
    obtain⟨di,dg,bu,bh⟩:=h;exact⟨di,dg,bu,bh.tr hs2 (fun hx=>by have:=zo _ hx;omega)⟩
   | 8,d4,_=>exact absurd rfl d4
   | 9,_,h=>exact h
   | 10,_,h=>exact h
   | _+11,_,_=>exact trivial
  intro gg w14 bq _ hR;replace ab:=ab.ta bq a1;replace a9:=a9.c bq;replace a5:=qj a5 bq;replace a3:=y6 a3 bq;replace ao:=ao.tr1 bn oG;replace ao:=ao.tb bq (fun g hg=>by have:=bb g hg;omega);replace a4:=zV a4 bq;replace b4:=b4.tr1 bn oG;replace b4:=b4.tb bq (fun g hg=>by have:=b9 g hg;omega);replace ac:=ac.c bq;replace b8:=zV b8 bq;replace a2:=a2.c bq;obtain⟨df,bf,dv,bd,d5⟩:=hR 8 dE;replace bd:Own w14 ob 3 1 (some ⟨df,0,none⟩) (n+k+1) bf (jZ (n+k+1) (vI (SQ n T gr))):=by rw[L7 (addT_new an)]at bd;exact bd
  have a1:=bd;replace be:=d5;refine xj 67 _ dv nu (xj 69 _ (hR 10 dE) nu ?_);refine xQ (v:= .slice _ _ _) ab rfl rfl J8 (by first|decide|simp) rfl rfl (fun w15 hq bt=>?_);replace a9:=a9.cB bt;replace a5:=qj a5 bt;replace a3:=y6 a3 bt;replace a4:=zV a4 bt;replace ac:=ac.c bt;replace b8:=zV b8 bt;replace a2:=a2.cB bt;replace a1:=a1.cB bt;replace ab:=hq;refine zn3 ?_;refine wl (xz (v:= .pointer (some _)) rfl) (wl (xz (v:= .pointer (some _)) rfl) (wl (X8 rfl) (zn3 ?_)));refine qV (cs:=#[_]) [(0,.slice _ _ _)] rfl SJ gk ze78 dE dE kR rfl (fun b76 w16 dr bo hr=>?_);have:=ab.ob hr;have cc:=a9.ob hr;have co:=(nLT a3.2 hr)
  have:=ao.u.ob hr;have cj:=(nLT a4 hr)
  have:=b4.u.ob hr;have c2:=(nLT b8 hr)
  have c8:=a2.ob hr;have c4:=a1.ob hr;replace a5:=qj a5 bo;replace a3:=y6 a3 bo;replace a4:=zV a4 bo;replace ac:=ac.tr bo (by simp);replace b8:=zV b8 bo;replace a9:=a9.tr0 bo;refine j7 SJ in78 rfl dE a9 dr rfl rfl rfl qz dE oG oG a3.2 (fun dj dh w17 bv br hg=>?_);replace ab:=ab.tr0 bo;have bg:dj≠bp:=neA a9 ab.lt hg
  have cw:dj≠b3:=neB ao.u.lt hg (fun g hg=>by have:=b2 g hg;omega)
  have cv:dj≠b7:=neB b4.u.lt hg (fun g hg=>by have:=bi g hg;omega)
  replace ab:=ab.ta br a9;replace a5:=qj a5 br;replace a3:=y6 a3 br;replace ao:=(ao.tr1 bt oG).tr0 bo;replace ao:=ao.tb br (fun g hg=>by have:=b2 g hg;omega);replace a4:=zV a4 br;replace ac:=ac.c br;replace b8:=zV b8 br;replace a2:=a2.tr0 bo;replace a2:=a2.c br;replace a1:=a1.tr0 bo;replace a1:=a1.c br;refine wl (X8 rfl) (zn1 ?_);refine xQ (v:= .slice _ _ _) ab rfl rfl sz130 (by first|decide|simp) rfl rfl (fun w18 hq bx=>?_);replace a5:=qj a5 bx;replace a3:=y6 a3 bx;replace a4:=zV a4 bx;replace ac:=ac.c bx;replace b8:=zV b8 bx;replace a2:=a2.cB bx;replace a1:=a1.cB bx;replace bv:=bv.tr1 bx (neS bg);replace ab:=hq;refine zn7 ?_;refine x8 (gr.length-(k+1)) oG agA ?_;refine⟨k+1,some ⟨d6,0,none⟩,some ⟨df,0,none⟩,some ⟨dj,0,none⟩,bz,bf,dh,VK V (n+k) (.slice (some ⟨dk,0,none⟩) (gr[k]'an).ln.length (gr[k]'an).ln.length),by omega,rfl,rfl,ao.u,ab,a2,a1,?_,fun x hx=>?_,be,a3⟩
  · rw[rowL_put]at bv;exact bv
  · by_cases e:x=n+k
    · subst e
      simp only[VK,if_true];have e2:addL n L gr (n+k)=shL n (gr[k]'an).ln:=by simp only[addL,if_neg (show ¬n+k<n by omega),show n+k-n=k by omega,vx an]
      rw[e2];exact ac.up b8
    · simp only[VK,if_neg e]
      exact(a5 x oG).up a4
 have hke:k=gr.length:=by omega
 refine uw ?_;refine⟨⟨PA,TA,LA,cp,ct,cl,V,rfl,?_⟩,a3.1,a3.2⟩;rw[hke]at ab a2 a1 a9 a5;exact⟨ab,a2,a1,a9,fun x hx=>(a5 x hx).up a4,be⟩
end Go.Proofs.YtgcgnkmmbecfmaaGreatDoor
