/- What these functions of the program compute, at every world: (*glosswright/unify.pool).add. -/
import Derived.Test.YtiofaflajkgiaaaGreatDoorU
import Derived.Test.YtiofaflajkgiaaaGreatDoorZst
import Derived.Test.YtiofaflajkgiaaaGreatDoorPFind
namespace Go.Proofs.YtiofaflajkgiaaaGreatDoor
open Go.RowKit
open Go.Proofs.Tryz
structure PoolAt(w:World)(ob bp:Nat)(c0 c1:Value)(n:Nat)(PA TA LA:Option Addr)(cp ct cl:Nat)(P:Nat->Nat)(T:Nat->Int)(V:Nat->Value)(L:Nat->List (Int×Int)):Prop where
 bp:Blk w bp 128 #[c0,c1,.slice PA n cp,.slice TA n ct,.slice LA n cl]
 pa:Own w ob 3 1 PA n cp (jq n (vN P))
 ta:Own w ob 3 1 TA n ct (jq n (vI T))
 la:Own w ob 91 1 LA n cl (jq n V)
 rows:∀ x,x<n->RowO w ob w.heap.size (V x) (L x)
 dis:∀ g∈aL PA,¬g∈aL TA
theorem row2_lnV{m:Nat}{f h:Nat->Value}{xs:List (Int×Int)}(hl:xs.length=m)(hf:∀ k (hk:k<xs.length),f k= .int .i64 (xs[k]).1)(hh:∀ k (hk:k<xs.length),h k= .int .i64 (xs[k]).2):(kX m f h).toList=lnV xs:=by
 refine List.ext_getElem? (fun j=>?_);by_cases hj:j<m*2
 ·have hk:j/2<xs.length:=by omega
  have h1:=J2 xs (j/2) hk;rcases Nat.mod_two_eq_zero_or_one j with e|e
  ·have e2:j=0+j/2*2+0:=by omega
   rw[Array.getElem?_toList];rw[show (kX m f h)[j]? =(kX m f h)[0+j/2*2+0]? from congrArg (fun z=>(kX m f h)[z]?) e2,EK oG,hf _ hk];rw[show (lnV xs)[j]? =(lnV xs)[j/2*2]? from congrArg (fun z=>(lnV xs)[z]?) oG,h1.1]
  ·have e2:j=0+j/2*2+1:=by omega
   rw[Array.getElem?_toList];rw[show (kX m f h)[j]? =(kX m f h)[0+j/2*2+1]? from congrArg (fun z=>(kX m f h)[z]?) e2,I8 oG,hh _ hk];rw[show (lnV xs)[j]? =(lnV xs)[j/2*2+1]? from congrArg (fun z=>(lnV xs)[z]?) oG,h1.2]
 ·rw[List.getElem?_eq_none (by simp[kX];omega),List.getElem?_eq_none (by rw[Y9];omega)]
def Rq(n:Nat)(P:Nat->Nat)(x:Nat):Nat:=if x<n then P x else x
def CW(n:Nat)(T:Nat->Int)(g:List Nd)(x:Nat):Int:=if x<n then T x else (nd g (x-n)).ty
def shL(n:Nat)(xs:List (Int×Int)):List (Int×Int):=xs.map (fun y=>(y.1,y.2+(n:Int)))
def HW(n:Nat)(L:Nat->List (Int×Int))(g:List Nd)(x:Nat):List (Int×Int):=if x<n then L x else shL n (nd g (x-n)).ln
def OV(V:Nat->Value)(m:Nat)(v:Value)(x:Nat):Value:=if x=m then v else V x
theorem rowL_put{V:Nat->Value}{m:Nat}{v:Value}:jq m V++[v]=jq (m+1) (OV V m v):=by
 rw[BJ]
 exact uY (fun x hx=>by
  by_cases e:x=m
  ·subst e;simp[OV]
  ·have:x<m:=by omega
   simp[OV,e,this])
theorem addP_new{n k:Nat}{P:Nat->Nat}:Value.int .i64 ((n+k:Nat):Int)=vN (Rq n P) (n+k):=by
 unfold vN Rq;rw[if_neg oG]
theorem addT_new{n k:Nat}{T:Nat->Int}{g:List Nd}(hk:k<g.length):Value.int .i64 (g[k]).ty=vI (CW n T g) (n+k):=by
 unfold vI CW;rw[if_neg oG,show n+k-n=k by omega,yV hk]
theorem Z3{w:World}{base b sz k c:Nat}{e t:TypeId}{A:Option Addr}{xs:List Value}{cs:Array Value}(h:Own w base e sz A k c xs)(hb:Blk w b t cs)(hne:e≠t):∀ g∈aL A,g≠b:=fun g hg e1=>by
 obtain⟨c2,h2⟩:=h.typ g hg
 subst e1
 exact hne (vW h2 hb)
theorem W0{n:Nat}{g:Nat->Value}{v:Value}(h:v=g n):jq n g++[v]=jq (n+1) g:=by
 rw[BJ]
 exact uY (fun x hx=>by
  by_cases e:x<n
  ·rw[if_pos e]
  ·rw[if_neg e,h,show x=n by omega])
theorem V7:(prog.info? 90).map (fun i=>(i.zero,i.size,i.bytes))=some (some (.agg #[.int .i64 0,.int .i64 0]),2,16):=by kernel_rfl
theorem in91:(prog.info? 91).map (fun i=>(i.zero,i.size,i.bytes))=some (some (.slice none 0 0),1,24):=by kernel_rfl
theorem sz126:(prog.info? 126).map (·.size)=some 1:=by kernel_rfl
theorem ze91:(prog.info? 91).map (·.zero)=some (some (.slice none 0 0)):=by kernel_rfl
theorem I2:(prog.info? 93).map (·.zero)=some (some (.agg #[.int .i64 0,.slice none 0 0])):=by kernel_rfl
set_option maxHeartbeats 4000000 in
theorem W9{ob bp n cg nf:Nat}{c0 c1:Value}{PA TA LA G:Option Addr}{cp ct cl:Nat}{P:Nat->Nat}{T:Nat->Int}{V:Nat->Value}{L:Nat->List (Int×Int)}{gr:List Nd}(nt:Nat)(w:World)(hp:PoolAt w ob bp c0 c1 n PA TA LA cp ct cl P T V L)(hbo:bp<ob)(hob:ob<=w.heap.size)(hn:n<=1000000)(hG:∀ w2,Chg ob [bp] w w2->NodesIn w2 G gr)(hk:GOk nt nf gr)(hnf:nf<=1000):Calls prog 64 #[.pointer (some ⟨bp,0,none⟩),.agg #[.slice G gr.length cg]] w fun e w'=>(∃ PA' TA' LA' cp' ct' cl' V',e= .returned (.int .i64 (n:Nat))/\PoolAt w' ob bp c0 c1 (n+gr.length) PA' TA' LA' cp' ct' cl' (Rq n P) (CW n T gr) V' (HW n L gr))/\Chg ob [bp] w w'/\ob<=w'.heap.size:=by
 have hn6:=hk.le;have hlob:w.heap.size<=w.heap.size:=ae _;obtain⟨a5,a3,a2,a4,a7,a8⟩:=hp;obtain⟨bs,bq⟩:∃ b,b=w.heap.size:=⟨_,rfl⟩
 rw[<- bq]at a7;have a6:bs<=w.heap.size:=aC bq;have a1:Chg ob [bp] w w/\ob<=w.heap.size:=⟨Chg.refl _ _ _,hob⟩
 replace a3:Own w ob 3 1 PA n cp (jq n (vN (Rq n P))):=by rw[uY (g':=vN P) (fun x hx=>by simp[vN,Rq,hx])];exact a3
 replace a2:Own w ob 3 1 TA n ct (jq n (vI (CW n T gr))):=by rw[uY (g':=vI T) (fun x hx=>by simp[vI,CW,hx])];exact a2
 replace a7:∀ x,x<n->RowO w ob bs (V x) (HW n L gr x):=fun x hx=>by have h:=a7 x hx;simp only[HW,if_pos hx];exact h
 refine enter func64 ntmps64 rfl (ay rfl) (zn2 ?_);refine qY (v:= .agg #[_]) (cs:=#[_]) rfl rfl (fun b3 w1 an t1 hr=>?_);have:=nLL a5.lt hr;have b4:=(fun(g:Nat) hg=>nLL (a3.lt g hg).2 hr)
 have bb:=(fun(g:Nat) hg=>nLL (a2.lt g hg).2 hr)
 have b5:=(fun(g:Nat) hg=>nLL (a4.lt g hg).2 hr)
 have db:=(nLT a1.2 hr)
 have d9:=(nLT a6 hr)
 replace a7:=fun x hx=>(a7 x hx).tr t1 (by simp)
 replace a1:=And.intro (a1.1.st t1 a1.2 (by simp)) (nLT a1.2 (Same.size t1));replace a6:=nLT a6 (Same.size t1);refine zn5 ?_;refine wl (xz (v:= .pointer (some _)) rfl) (wl (X1 rfl) (M2 ?_));replace a5:=a5.tr0 t1;replace a3:=a3.tr0 t1;replace a2:=a2.tr0 t1;replace a4:=a4.tr0 t1;refine qj (rg (rg [] 6 5) 19 62) (fun m g w'=>∃(k:Nat) (PA TA LA:Option Addr) (cp ct cl:Nat) (V:Nat->Value),k<=gr.length/\m=gr.length-k/\g 19= .int .i64 k/\Blk w' b3 28 #[.slice G gr.length cg]/\Blk w' bp 128 #[c0,c1,.slice PA (n+k) cp,.slice TA (n+k) ct,.slice LA (n+k) cl]/\Own w' ob 3 1 PA (n+k) cp (jq (n+k) (vN (Rq n P)))/\Own w' ob 3 1 TA (n+k) ct (jq (n+k) (vI (CW n T gr)))/\Own w' ob 91 1 LA (n+k) cl (jq (n+k) V)/\(∀ x,x<(n+k)->RowO w' ob w'.heap.size (V x) (HW n L gr x))/\(∀ g∈aL PA,¬g∈aL TA)/\(Chg ob [bp] w w'/\ob<=w'.heap.size)) (gr.length) ?_ (fun m g3 w2 hI=>?_)
 ·exact⟨0,PA,TA,LA,cp,ct,cl,V,ag _,rfl,rfl,an,a5,a3,a2,a4,fun x hx=>(a7 x hx).up a6,a8,a1⟩
 obtain⟨k,PA,TA,LA,cp,ct,cl,V,hkk,hm,h19,an,a5,a3,a2,a4,a7,a8,a1⟩:=hI;obtain⟨bs,bq⟩:∃ b,b=w2.heap.size:=⟨_,rfl⟩
 rw[<- bq]at a7;have a6:bs<=w2.heap.size:=aC bq;have hup:=fun g hg=>(a3.lt g hg).2
 have hut:=fun g hg=>(a2.lt g hg).2
 have hul:=fun g hg=>(a4.lt g hg).2
 have hu3:=an.lt;have dm:=a5.lt;rw[<- bq]at hup hut hul hu3 dm;have b4:=Z3 a3 an dE;have bb:=Z3 a2 an dE;have b5:=Z3 a4 an dE;refine zK 19 _ h19 nu (zn6 ?_);refine zV rfl (fun c20=>?_) (fun c20=>?_)
 ·have ad:k<gr.length:=by omega
  obtain⟨nb,no,LA0,lc,rfl,hnb,hnr,dn⟩:=(hG _ a1.1).at_ (Below.refl _ _:Bel w2 w2) ad;have hmx:=dn.1;unfold jx at hmx;have hfw:=hk.few k ad;obtain⟨wN,hwN⟩:∃ x,x=w2:=⟨_,rfl⟩
  have br:Bel wN w2:=by rw[hwN];exact Below.refl _ _
  rw[<- hwN]at hnb hnr dn;refine zn7 ?_;refine wl (xX (i:=k) U26 oK rfl rfl ad rfl) (wl (qZ U93 rfl rfl (br.range hnb hnr) oK) ?_);refine qk (cs:=#[.int .i64 0,.slice none 0 0]) I2 rfl (fun b7 w3 b6 t2 hr=>?_);have:=nLL a5.lt hr;have b2:=(fun(g:Nat) hg=>nLL (a3.lt g hg).2 hr)
  have b1:=(fun(g:Nat) hg=>nLL (a2.lt g hg).2 hr)
  have bc:=(fun(g:Nat) hg=>nLL (a4.lt g hg).2 hr)
  have da:=(nLT a1.2 hr)
  have:=nLL an.lt hr;have d8:=(nLT a6 hr)
  have lo7:=nLT (Bel.size br) hr;have bo:=nLT (Bel.size br) hr;replace a7:=fun x hx=>(a7 x hx).tr t2 (by simp)
  replace a1:=And.intro (a1.1.st t2 a1.2 (by simp)) (nLT a1.2 (Same.size t2));replace a6:=nLT a6 (Same.size t2);refine waI rfl ?_;refine zk b6 rfl rfl oK rfl zJ (fun w4 hq t3=>?_);replace a3:=a3.tr0 t2;replace a3:=a3.tr1 t3 (fun g hg=>by have:=(a3.lt g hg).1;(try have:=b2 g hg);omega);replace a2:=a2.tr0 t2;replace a2:=a2.tr1 t3 (fun g hg=>by have:=(a2.lt g hg).1;(try have:=b1 g hg);omega);replace a4:=a4.tr0 t2;replace a4:=a4.tr1 t3 (fun g hg=>by have:=(a4.lt g hg).1;(try have:=bc g hg);omega);replace a7:=fun x hx=>(a7 x hx).tr t3 (fun g hg=>by rw[List.mem_singleton.1 hg];first|exact .inr ⟨_,_,b6,by decide⟩|exact .inl oG)
  replace a1:=And.intro (a1.1.st t3 a1.2 (fun g hg=>by have h1:=aj.1 hg;first|(left;rw[h1];simp;done)|(right;omega))) (nLT a1.2 (Same.size t3));replace a6:=nLT a6 (Same.size t3);replace b6:=hq;refine zn7 ?_;refine wl_mk (m:=(gr[k]'ad).ln.length) U91 V7 rfl rfl oG oG (fun dj w5 b8 t4 hr=>?_);replace a5:=(a5.tr0 t2).tr1 t3 oG;have:=nLL a5.lt hr;have bh:=(fun(g:Nat) hg=>nLL (a3.lt g hg).2 hr)
  have bf:=(fun(g:Nat) hg=>nLL (a2.lt g hg).2 hr)
  have bj:=(fun(g:Nat) hg=>nLL (a4.lt g hg).2 hr)
  have cq:=(nLT a1.2 hr)
  have:=nLL an.u.lt hr;have ck:=(nLT a6 hr)
  have:=nLL b6.lt hr;have lo27:=nLT (Bel.size br.u) hr;have cz:=nLT (Bel.size br.u) hr;replace a7:=fun x hx=>(a7 x hx).tr t4 (by simp)
  replace a1:=And.intro (a1.1.st t4 a1.2 (by simp)) (nLT a1.2 (Same.size t4));replace a6:=nLT a6 (Same.size t4);refine zn5 ?_;replace an:=((an.tr0 t2).tr1 t3 oG).tr0 t4;replace br:=((br.tr0 t2).tr1 t3 bo).tr0 t4;replace a5:=a5.tr0 t4;replace a3:=a3.tr0 t4;replace a2:=a2.tr0 t4;replace a4:=a4.tr0 t4;replace b6:=b6.tr0 t4;replace b8:Blk w5 dj 90 (kX (gr[k]'ad).ln.length (fun _=> .int .i64 0) (fun _=> .int .i64 0)):=by
    have h:=b8;rw[show (Value.agg #[.int .i64 0,.int .i64 0]).cells= #[.int .i64 0,.int .i64 0]from rfl,EJ]at h;exact h
  refine zn8 ?_;refine qj (rg [9,10] 31 16) (fun m g w'=>∃ j:Nat,j<=(gr[k]'ad).ln.length/\m=(gr[k]'ad).ln.length-j/\g 31= .int .i64 j/\Blk w' b3 28 #[.slice (some ⟨nb,no,none⟩) gr.length cg]/\Blk w' bp 128 #[c0,c1,.slice PA (n+k) cp,.slice TA (n+k) ct,.slice LA (n+k) cl]/\Own w' ob 3 1 PA (n+k) cp (jq (n+k) (vN (Rq n P)))/\Own w' ob 3 1 TA (n+k) ct (jq (n+k) (vI (CW n T gr)))/\Own w' ob 91 1 LA (n+k) cl (jq (n+k) V)/\(∀ x,x<(n+k)->RowO w' ob bs (V x) (HW n L gr x))/\bs<=w'.heap.size/\Bel wN w'/\Blk w' b7 93 #[.int .i64 (gr[k]'ad).ty,.slice LA0 (gr[k]'ad).ln.length lc]/\Blk w' dj 90 (kX (gr[k]'ad).ln.length (fun x=>if x<j then .int .i64 (((gr[k]'ad)).ln.getD x (0,0)).1 else .int .i64 0) (fun x=>if x<j then .int .i64 ((((gr[k]'ad)).ln.getD x (0,0)).2+(n:Int))else .int .i64 0))/\(Chg ob [bp] w w'/\ob<=w'.heap.size)) ((gr[k]'ad).ln.length) ?_ (fun m g7 w6 hI=>?_)
  ·refine⟨0,ag _,rfl,rfl,an,a5,a3,a2,a4,a7,a6,br,b6,?_,a1⟩;rw[Q4 (f':=fun _=> .int .i64 0) (h':=fun _=> .int .i64 0) (fun x _=>by simp) (fun x _=>by simp)];exact b8
  obtain⟨j,hj,hmj,h31,an,a5,a3,a2,a4,a7,a6,br,b6,b8,a1⟩:=hI;refine zK 31 _ h31 nu (zn6 ?_);refine zV rfl (fun c32=>?_) (fun c32=>?_)
  ·have dc:j<(gr[k]'ad).ln.length:=by omega
   obtain⟨lb,lof,rfl,hlb,hlr⟩:=dn.at_ br dc;have hxr:=hk.ln k ad _ (ar dc);refine zn8 ?_;refine wl (qZ U90 rfl rfl hlr qJ) ?_;refine qk (cs:=#[.int .i64 0,.int .i64 0]) Q3 rfl (fun b10 w7 d6 t5 hr=>?_);have:=nLL a5.lt hr;have bi:=(fun(g:Nat) hg=>nLL (a3.lt g hg).2 hr)
   have bg:=(fun(g:Nat) hg=>nLL (a2.lt g hg).2 hr)
   have bk:=(fun(g:Nat) hg=>nLL (a4.lt g hg).2 hr)
   have cr:=(nLT a1.2 hr)
   have:=nLL an.lt hr;have cm:=(nLT a6 hr)
   have:=nLL b6.lt hr;have:=nLL b8.lt hr;have lo10:=nLT (Bel.size br) hr;have d2:=nLT (Bel.size br) hr;replace a7:=fun x hx=>(a7 x hx).tr t5 (by simp)
   replace a1:=And.intro (a1.1.st t5 a1.2 (by simp)) (nLT a1.2 (Same.size t5));replace a6:=nLT a6 (Same.size t5);refine waI rfl ?_;refine zk d6 rfl rfl qJ rfl zJ (fun w8 hq t6=>?_);replace a3:=a3.tr0 t5;replace a3:=a3.tr1 t6 (fun g hg=>by have:=(a3.lt g hg).1;(try have:=bi g hg);omega);replace a2:=a2.tr0 t5;replace a2:=a2.tr1 t6 (fun g hg=>by have:=(a2.lt g hg).1;(try have:=bg g hg);omega);replace a4:=a4.tr0 t5;replace a4:=a4.tr1 t6 (fun g hg=>by have:=(a4.lt g hg).1;(try have:=bk g hg);omega);replace a7:=fun x hx=>(a7 x hx).tr t6 (fun g hg=>by rw[List.mem_singleton.1 hg];first|exact .inr ⟨_,_,d6,by decide⟩|exact .inl oG)
   replace a1:=And.intro (a1.1.st t6 a1.2 (fun g hg=>by have h1:=aj.1 hg;first|(left;rw[h1];simp;done)|(right;omega))) (nLT a1.2 (Same.size t6));replace a6:=nLT a6 (Same.size t6);replace d6:=hq;refine vy ?_;refine wl (QZ (c:=(((gr[k]'ad).ln[j]'dc).2+(n:Int))) rfl rfl oG oG) (wl (jk (v0:= .int _ _) (v1:= .int _ _) (fun v0 v1=>#[v0,v1]) rfl rfl kR) (wl (xX (i:=j) U91 qJ rfl rfl dc rfl) ?_));replace b8:=(b8.tr0 t5).tr1 t6 oG;refine Vq b8 rfl rfl qJ (by rw[gz];show 0+j*2+2<=_;omega) zJ W3 (fun w9 hq t7=>?_);replace a3:=a3.tr1 t7 (fun g hg=>by have:=(a3.lt g hg).1;(try have:=bh g hg);omega);replace a2:=a2.tr1 t7 (fun g hg=>by have:=(a2.lt g hg).1;(try have:=bf g hg);omega);replace a4:=a4.tr1 t7 (fun g hg=>by have:=(a4.lt g hg).1;(try have:=bj g hg);omega);replace a7:=fun x hx=>(a7 x hx).tr t7 (fun g hg=>by rw[List.mem_singleton.1 hg];first|exact .inr ⟨_,_,b8,by decide⟩|exact .inl oG)
   replace a1:=And.intro (a1.1.st t7 a1.2 (fun g hg=>by have h1:=aj.1 hg;first|(left;rw[h1];simp;done)|(right;omega))) (nLT a1.2 (Same.size t7));replace a6:=nLT a6 (Same.size t7);replace b8:=hq
   rw[Q4 (f':=fun x=>if x<j+1 then .int .i64 (((gr[k]'ad)).ln.getD x (0,0)).1 else .int .i64 0) (h':=fun x=>if x<j+1 then .int .i64 ((((gr[k]'ad)).ln.getD x (0,0)).2+(n:Int))else .int .i64 0) (fun x _=>by
     by_cases e:x=j
     · subst e;simp[List.getD,dc]
     · have e1:(x<j+1)↔(x<j):=by omega
       simp[e,e1]) (fun x _=>by
     by_cases e:x=j
     · subst e;simp[List.getD,dc]
     · have e1:(x<j+1)↔(x<j):=by omega
       simp[e,e1])]at b8
   refine zn7 ?_;refine xK ((gr[k]'ad).ln.length-(j+1)) oG agA ?_;replace a5:=((a5.tr0 t5).tr1 t6 oG).tr1 t7 oG;exact⟨j+1,by omega,rfl,rfl,an.u,a5,a3,a2,a4,a7,a6,br.u,b6.u,b8,a1⟩
  have hjx:j=(gr[k]'ad).ln.length:=by omega
  subst hjx;refine zn6 ?_
  have a9:=RowO.of (lo:=ob) (xs:=shL n (gr[k]'ad).ln) (cap:=(gr[k]'ad).ln.length) (base:=ob) (ae _) (A:=some ⟨dj,0,none⟩) (w:=w6) (by
    have hl:(shL n (gr[k]'ad).ln).length=(gr[k]'ad).ln.length:=by simp[shL]
    rw[hl];have h:=I9 (base:=ob) (sz:=2) (m:=(gr[k]'ad).ln.length) b8 oG (by rw[gz]) oG
    rw[row2_lnV hl (fun x hx=>by
      have dk:x<(gr[k]'ad).ln.length:=by omega
      simp[shL,List.getD,dk]) (fun x hx=>by
      have dk:x<(gr[k]'ad).ln.length:=by omega
      simp[shL,List.getD,dk])]at h
    exact h)
  rw[show (shL n (gr[k]'ad).ln).length=(gr[k]'ad).ln.length by simp[shL]]at a9;obtain⟨s9,hs9⟩:∃ b,b=w6.heap.size:=⟨_,rfl⟩
  rw[<- hs9]at a9;have ba:s9<=w6.heap.size:=aC hs9;refine ZV (wl (xz (v:= .pointer (some _)) rfl) (wl (xz (v:= .pointer (some _)) rfl) (wl (X1 rfl) (zn4 ?_))));refine wl (QZ (c:=((n+k:Nat):Int)) rfl rfl oG oG) ?_;refine qv (cs:=#[_]) [(0,.int _ _)] rfl U68 qV I3 dE dE kR rfl (fun b55 w10 dr t8 hr=>?_);have:=nLL a5.lt hr;have cc:=(fun(g:Nat) hg=>nLL (a3.lt g hg).2 hr)
  have ca:=(fun(g:Nat) hg=>nLL (a2.lt g hg).2 hr)
  have ce:=(fun(g:Nat) hg=>nLL (a4.lt g hg).2 hr)
  have co:=(nLT a1.2 hr)
  have:=nLL an.lt hr;have cj:=(nLT a6 hr)
  have:=nLL b6.lt hr;have c8:=(nLT ba hr)
  replace a7:=fun x hx=>(a7 x hx).tr t8 (by simp)
  replace a1:=And.intro (a1.1.st t8 a1.2 (by simp)) (nLT a1.2 (Same.size t8));replace a6:=nLT a6 (Same.size t8);replace a9:=a9.tr t8 (by simp);replace ba:=nLT ba (Same.size t8);replace a2:=a2.tr0 t8;have d3:=fun g hg=>(a2.lt g hg).2
  replace a3:=a3.tr0 t8;refine jv U68 Ij rfl dE a3 dr rfl rfl rfl zJ dE oG oG a1.2 (fun d7 c5 w11 c4 t9 hg=>?_);replace a5:=a5.tr0 t8;have cw:d7≠bp:=neA a3 a5.lt hg
  have cy:d7≠b3:=neB an.u.lt hg (fun g hg=>by have:=b4 g hg;omega)
  have cx:d7≠b7:=neB b6.u.lt hg (fun g hg=>by have:=b2 g hg;omega)
  replace a5:=a5.ta t9 a3;replace a2:=a2.tr t9 (fun g hg hx=>by first|exact xj a2 a3 dE g hg hx|exact a8 g hg hx|exact a8 g hx hg|(have h1:=(a3.lt g hx).1;(try have:=d3 g hg);omega));replace a4:=a4.tr0 t8;replace a4:=a4.tr t9 (fun g hg hx=>by first|exact xj a4 a3 dE g hg hx|exact a8 g hg hx|exact a8 g hx hg|(have h1:=(a3.lt g hx).1;(try have:=d3 g hg);omega));replace a7:=fun x hx=>(a7 x hx).tr t9 (fun g hg=>by first|exact .inl (by have:=((a3).lt g hg).1;omega)|(obtain⟨cs,h⟩:=(a3).typ g hg;exact .inr ⟨_,_,h,by decide⟩))
  replace a1:=And.intro (a1.1.st t9 a1.2 (fun g hg=> .inr (by have:=((a3).lt g hg).1;omega))) (nLT a1.2 (Same.size t9));replace an:=an.tr0 t8;replace an:=an.tb t9 (fun g hg=>by have:=b4 g hg;omega);replace a6:=nLT a6 (Same.size t9);replace b6:=b6.tr0 t8;replace b6:=b6.tb t9 (fun g hg=>by have:=b2 g hg;omega);replace a9:=a9.tr t9 (fun g hg=>by first|exact .inl (by have:=((a3).lt g hg).1;omega)|(obtain⟨cs,h⟩:=(a3).typ g hg;exact .inr ⟨_,_,h,by decide⟩));replace ba:=nLT ba (Same.size t9);have a8:∀ g∈aL (some ⟨d7,0,none⟩),¬g∈aL TA:=fun g hg' h=>by
    simp only[aL,List.mem_singleton]at hg';subst hg';rcases hg with hg|hg
    · exact a8 _ (by rw[hg];exact aj.2 rfl) h
    · have:=d3 _ h;omega
  replace c4:Own w11 ob 3 1 (some ⟨d7,0,none⟩) (n+k+1) c5 (jq (n+k+1) (vN (Rq n P))):=by rw[W0 addP_new]at c4;exact c4
  have a3:=c4;refine wl (X1 rfl) (zn1 ?_);refine xZ (v:= .slice _ _ _) a5 rfl rfl Vv (by first|decide|simp) rfl rfl (fun w12 hq bt=>?_);replace a2:=a2.tr1 bt (fun g hg=>by have:=(a2.lt g hg).1;(try have:=or_hta_bp g hg);omega);replace a4:=a4.tr1 bt (fun g hg=>by have:=(a4.lt g hg).1;(try have:=or_hla_bp g hg);omega);replace a7:=fun x hx=>(a7 x hx).tr bt (fun g hg=>by rw[List.mem_singleton.1 hg];first|exact .inr ⟨_,_,a5,by decide⟩|exact .inl oG)
  replace a1:=And.intro (a1.1.st bt a1.2 (fun g hg=>by have h1:=aj.1 hg;first|(left;rw[h1];simp;done)|(right;omega))) (nLT a1.2 (Same.size bt));replace a6:=nLT a6 (Same.size bt);replace a9:=a9.tr bt (fun g hg=>by rw[List.mem_singleton.1 hg];first|exact .inr ⟨_,_,a5,by decide⟩|exact .inl oG);replace ba:=nLT ba (Same.size bt);replace a3:=a3.tr1 bt (fun g hg=>by have:=(a3.lt g hg).1;(try have:=or_hpa_bp g hg);omega);replace a5:=hq;refine zn3 ?_;have zo:=fun g hg=>(a2.lt g hg).2
  refine V8 11 (rg [] 59 11) (aL TA) 8 (fun ix v wv=>match ix with|0=>v= .pointer (some ⟨bp,0,none⟩)|1=>v= .pointer (some ⟨bp,0,none⟩)|2=>v= .pointer (some ⟨bp,0,none⟩)|3=>v= .pointer (some ⟨bp,3,none⟩)|4=>v= .slice TA (n+k) ct|5=>v= .pointer (some ⟨b7,0,none⟩)|6=>v= .int .i64 (gr[k]'ad).ty|7=>∃ b,v= .slice (some ⟨b,0,none⟩) 1 1/\w12.heap.size<=b/\Blk wv b 3 #[.int .i64 (gr[k]'ad).ty]|8=>∃ g cap,v= .slice (some ⟨g,0,none⟩) (n+k+1) cap/\Own wv ob 3 1 (some ⟨g,0,none⟩) (n+k+1) cap (jq (n+k) (vI (CW n T gr))++[.int .i64 (gr[k]'ad).ty])/\(∀ g2∈aL (some (⟨d7,0,none⟩:Addr)),¬g2∈aL (some (⟨g,0,none⟩:Addr)))|9=>v= .pointer (some ⟨bp,0,none⟩)|10=>v= .pointer (some ⟨bp,3,none⟩)|_=>True) (fun _=>True) kR kR ?_ (fun _ _ _ _=>trivial) ?_ ?_ dE ?_
  ·intro ix v wv wv2 h t11
   match ix,h with
   | 0,h=>exact h
   | 1,h=>exact h
   | 2,h=>exact h
   | 3,h=>exact h
   | 4,h=>exact h
   | 5,h=>exact h
   | 6,h=>exact h
   | 7,h=>
    obtain⟨dh,df,c2,bn⟩:=h;exact⟨dh,df,c2,bn.tr0 t11⟩
   | 8,h=>
    obtain⟨de,be,du,bd,d5⟩:=h;exact⟨de,be,du,bd.tr0 t11,d5⟩
   | 9,h=>exact h
   | 10,h=>exact h
   | _+11,h=>exact trivial
  ·intro ix o hix d4 b9 gg wx t12 hd
   match ix,hix,d4,b9 with
   | 0,_,_,b9=>
    cases sI b9;refine qQ (xz (v:= .pointer (some _)) rfl) ⟨Same.refl _ _,?_⟩;exact rfl
   | 1,_,_,b9=>
    cases sI b9;refine qQ (xz (v:= .pointer (some _)) rfl) ⟨Same.refl _ _,?_⟩;exact rfl
   | 2,_,_,b9=>
    cases sI b9;refine aW 60 (hd 1 aX) ?_;refine qQ (X1 rfl) ⟨Same.refl _ _,?_⟩;exact rfl
   | 3,_,_,b9=>
    cases sI b9;refine aW 61 (hd 2 aX) ?_;refine qQ (uK Rx Vv dE rfl rfl rfl) ⟨Same.refl _ _,?_⟩;exact rfl
   | 4,_,_,b9=>
    cases sI b9;replace a5:=a5.ta t12 a2;refine aW 62 (hd 3 aX) ?_;refine qQ (qW (v:= .slice _ _ _) U68 rfl rfl (a5.cell rfl)) ⟨Same.refl _ _,?_⟩;exact rfl
   | 5,_,_,b9=>
    cases sI b9;refine qQ (uK U93 qV dE rfl rfl rfl) ⟨Same.refl _ _,?_⟩;exact rfl
   | 6,_,_,b9=>
    cases sI b9;replace b6:=b6.tr1 bt oG;replace b6:=b6.tb t12 (fun g hg=>by have:=b1 g hg;omega);refine aW 64 (hd 5 aX) ?_;refine qQ (qW (v:= .int _ _) U3 rfl rfl (b6.cell rfl)) ⟨Same.refl _ _,?_⟩;exact rfl
   | 7,_,_,b9=>
    cases sI b9;have hs0:=t12;refine aW 65 (hd 6 aX) ?_;refine jZ (fun ops Q K=>?_);refine qv (cs:=#[_]) [(0,.int _ _)] rfl U68 qV I3 dE dE kR rfl (fun dh w13 bn t13 hr=>?_);exact K _ _ ⟨t13,⟨_,rfl,nLT hs0.size hr,bn⟩⟩
   | 8,_,d4,_=>exact absurd rfl d4
   | 9,_,_,b9=>
    cases sI b9;refine aW 59 (hd 0 aX) ?_;refine qQ (X1 rfl) ⟨Same.refl _ _,?_⟩;exact rfl
   | 10,_,_,b9=>
    cases sI b9;refine aW 68 (hd 9 aX) ?_;refine qQ (uK Rx Vv dE rfl rfl rfl) ⟨Same.refl _ _,?_⟩;exact rfl
   | _+11,hix,_,_=>exact absurd hix oG
  ·intro o b9 gg wx c6 hd;cases sI b9;replace a7:=fun x hx=>(a7 x hx).tr c6 (by simp)
   replace a1:=And.intro (a1.1.st c6 a1.2 (by simp)) (nLT a1.2 (Same.size c6));replace a6:=nLT a6 (Same.size c6);replace ba:=nLT ba (Same.size c6);obtain⟨dh,df,c2,bn⟩:=hd 7 (zj kR);refine aW 63 (hd 4 aX) (zz 66 _ df nu ?_);refine jZ (fun ops Q K=>?_);replace a2:=a2.tr0 c6;refine jv U68 Ij rfl dE a2 bn rfl rfl rfl zJ dE oG oG a1.2 (fun de be w2 bd hs2 dp=>?_);replace a3:=a3.tr0 c6
   refine K _ _ ⟨hs2,⟨_,_,rfl,bd,fun g2 h2 h3=>by
       simp only[aL,List.mem_singleton]at h3;subst h3;rcases dp with hg|hg
       · exact a8 _ h2 (by rw[hg];exact aj.2 rfl)
       · have:=(a3.lt _ h2).2;omega⟩,trivial,fun kx v d4 h=>?_⟩
   match kx,d4,h with
   | 0,_,h=>exact h
   | 1,_,h=>exact h
   | 2,_,h=>exact h
   | 3,_,h=>exact h
   | 4,_,h=>exact h
   | 5,_,h=>exact h
   | 6,_,h=>exact h
   | 7,_,h=>
    obtain⟨dh,df,c2,bn⟩:=h;exact⟨dh,df,c2,bn.tr hs2 (fun hx=>by have:=zo _ hx;omega)⟩
   | 8,d4,_=>exact absurd rfl d4
   | 9,_,h=>exact h
   | 10,_,h=>exact h
   | _+11,_,_=>exact trivial
  intro gg w14 bv _ hR;replace a5:=a5.ta bv a2;replace a4:=a4.tr bv (fun g hg hx=>by first|exact xj a4 a2 dE g hg hx|exact a8 g hg hx|exact a8 g hx hg|(have h1:=(a2.lt g hx).1;(try have:=d3 g hg);omega));replace a7:=fun x hx=>(a7 x hx).tr bv (fun g hg=>by first|exact .inl (by have:=((a2).lt g hg).1;omega)|(obtain⟨cs,h⟩:=(a2).typ g hg;exact .inr ⟨_,_,h,by decide⟩))
  replace a1:=And.intro (a1.1.st bv a1.2 (fun g hg=> .inr (by have:=((a2).lt g hg).1;omega))) (nLT a1.2 (Same.size bv));replace an:=an.tr1 bt oG;replace an:=an.tb bv (fun g hg=>by have:=bb g hg;omega);replace a6:=nLT a6 (Same.size bv);replace b6:=b6.tr1 bt oG;replace b6:=b6.tb bv (fun g hg=>by have:=b1 g hg;omega);replace a9:=a9.tr bv (fun g hg=>by first|exact .inl (by have:=((a2).lt g hg).1;omega)|(obtain⟨cs,h⟩:=(a2).typ g hg;exact .inr ⟨_,_,h,by decide⟩));replace ba:=nLT ba (Same.size bv);replace a3:=a3.tr bv (fun g hg hx=>by first|exact xj a3 a2 dE g hg hx|exact a8 g hg hx|exact a8 g hx hg|(have h1:=(a2.lt g hx).1;(try have:=d3 g hg);omega));obtain⟨de,be,du,bd,d5⟩:=hR 8 dE;replace bd:Own w14 ob 3 1 (some ⟨de,0,none⟩) (n+k+1) be (jq (n+k+1) (vI (CW n T gr))):=by rw[W0 (addT_new ad)]at bd;exact bd
  have a2:=bd;replace a8:=d5;refine x9 67 _ du nu (x9 69 _ (hR 10 dE) nu ?_);refine xZ (v:= .slice _ _ _) a5 rfl rfl Vv (by first|decide|simp) rfl rfl (fun w15 hq bx=>?_);replace a4:=a4.tr1 bx (fun g hg=>by have:=(a4.lt g hg).1;(try have:=or_hla_bp g hg);omega);replace a7:=fun x hx=>(a7 x hx).tr bx (fun g hg=>by rw[List.mem_singleton.1 hg];first|exact .inr ⟨_,_,a5,by decide⟩|exact .inl oG)
  replace a1:=And.intro (a1.1.st bx a1.2 (fun g hg=>by have h1:=aj.1 hg;first|(left;rw[h1];simp;done)|(right;omega))) (nLT a1.2 (Same.size bx));replace a6:=nLT a6 (Same.size bx);replace a9:=a9.tr bx (fun g hg=>by rw[List.mem_singleton.1 hg];first|exact .inr ⟨_,_,a5,by decide⟩|exact .inl oG);replace ba:=nLT ba (Same.size bx);replace a3:=a3.tr1 bx (fun g hg=>by have:=(a3.lt g hg).1;(try have:=or_hpa_bp g hg);omega);replace a2:=a2.tr1 bx (fun g hg=>by have:=(a2.lt g hg).1;(try have:=or_hta_bp g hg);omega);replace a5:=hq;refine zn3 ?_;refine wl (xz (v:= .pointer (some _)) rfl) (wl (xz (v:= .pointer (some _)) rfl) (wl (X1 rfl) (zn3 ?_)));refine qv (cs:=#[_]) [(0,.slice _ _ _)] rfl B3 oW ze91 dE dE kR rfl (fun b76 w16 dq bu hr=>?_);have:=nLL a5.lt hr;have cd:=(fun(g:Nat) hg=>nLL (a4.lt g hg).2 hr)
  have cn:=(nLT a1.2 hr)
  have:=nLL an.u.lt hr;have cf:=(nLT a6 hr)
  have:=nLL b6.u.lt hr;have c7:=(nLT ba hr)
  have cb:=(fun(g:Nat) hg=>nLL (a3.lt g hg).2 hr)
  have c9:=(fun(g:Nat) hg=>nLL (a2.lt g hg).2 hr)
  replace a7:=fun x hx=>(a7 x hx).tr bu (by simp)
  replace a1:=And.intro (a1.1.st bu a1.2 (by simp)) (nLT a1.2 (Same.size bu));replace a6:=nLT a6 (Same.size bu);replace a9:=a9.tr bu (by simp);replace ba:=nLT ba (Same.size bu);replace a4:=a4.tr0 bu;refine jv B3 in91 rfl dE a4 dq rfl rfl rfl zJ dE oG oG a1.2 (fun di dg w17 c3 bw hg=>?_);replace a5:=a5.tr0 bu;have bm:di≠bp:=neA a4 a5.lt hg
  have cv:di≠b3:=neB an.u.lt hg (fun g hg=>by have:=b5 g hg;omega)
  have cu:di≠b7:=neB b6.u.lt hg (fun g hg=>by have:=bc g hg;omega)
  replace a5:=a5.ta bw a4;replace a7:=fun x hx=>(a7 x hx).tr bw (fun g hg=>by first|exact .inl (by have:=((a4).lt g hg).1;omega)|(obtain⟨cs,h⟩:=(a4).typ g hg;exact .inr ⟨_,_,h,by decide⟩))
  replace a1:=And.intro (a1.1.st bw a1.2 (fun g hg=> .inr (by have:=((a4).lt g hg).1;omega))) (nLT a1.2 (Same.size bw));replace an:=(an.tr1 bx oG).tr0 bu;replace an:=an.tb bw (fun g hg=>by have:=b5 g hg;omega);replace a6:=nLT a6 (Same.size bw);replace a9:=a9.tr bw (fun g hg=>by first|exact .inl (by have:=((a4).lt g hg).1;omega)|(obtain⟨cs,h⟩:=(a4).typ g hg;exact .inr ⟨_,_,h,by decide⟩));replace ba:=nLT ba (Same.size bw);replace a3:=a3.tr0 bu;replace a3:=a3.tr bw (fun g hg hx=>by first|exact xj a3 a4 dE g hg hx|exact a8 g hg hx|exact a8 g hx hg|(have h1:=(a4.lt g hx).1;(try have:=d3 g hg);omega));replace a2:=a2.tr0 bu;replace a2:=a2.tr bw (fun g hg hx=>by first|exact xj a2 a4 dE g hg hx|exact a8 g hg hx|exact a8 g hx hg|(have h1:=(a4.lt g hx).1;(try have:=d3 g hg);omega));refine wl (X1 rfl) (zn1 ?_);refine xZ (v:= .slice _ _ _) a5 rfl rfl sz126 (by first|decide|simp) rfl rfl (fun w18 hq bz=>?_);replace a7:=fun x hx=>(a7 x hx).tr bz (fun g hg=>by rw[List.mem_singleton.1 hg];first|exact .inr ⟨_,_,a5,by decide⟩|exact .inl oG)
  replace a1:=And.intro (a1.1.st bz a1.2 (fun g hg=>by have h1:=aj.1 hg;first|(left;rw[h1];simp;done)|(right;omega))) (nLT a1.2 (Same.size bz));replace a6:=nLT a6 (Same.size bz);replace a9:=a9.tr bz (fun g hg=>by rw[List.mem_singleton.1 hg];first|exact .inr ⟨_,_,a5,by decide⟩|exact .inl oG);replace ba:=nLT ba (Same.size bz);replace a3:=a3.tr1 bz (fun g hg=>by have:=(a3.lt g hg).1;(try have:=or_hpa_bp g hg);omega);replace a2:=a2.tr1 bz (fun g hg=>by have:=(a2.lt g hg).1;(try have:=or_hta_bp g hg);omega);replace c3:=c3.tr1 bz (neS bm);replace a5:=hq;refine zn7 ?_;refine xK (gr.length-(k+1)) oG agA ?_;refine⟨k+1,some ⟨d7,0,none⟩,some ⟨de,0,none⟩,some ⟨di,0,none⟩,c5,be,dg,OV V (n+k) (.slice (some ⟨dj,0,none⟩) (gr[k]'ad).ln.length (gr[k]'ad).ln.length),by omega,rfl,rfl,an.u,a5,a3,a2,?_,fun x hx=>?_,a8,a1⟩
  · rw[rowL_put]at c3;exact c3
  · by_cases e:x=n+k
    · subst e
      simp only[OV,if_true];have e2:HW n L gr (n+k)=shL n (gr[k]'ad).ln:=by simp only[HW,if_neg (show ¬n+k<n by omega),show n+k-n=k by omega,yV ad]
      rw[e2];exact a9.up ba
    · simp only[OV,if_neg e]
      exact(a7 x oG).up a6
 have hke:k=gr.length:=by omega
 refine oJ ?_;refine⟨⟨PA,TA,LA,cp,ct,cl,V,rfl,?_⟩,a1.1,a1.2⟩;rw[hke]at a5 a3 a2 a4 a7;exact⟨a5,a3,a2,a4,fun x hx=>(a7 x hx).up a6,a8⟩
end Go.Proofs.YtiofaflajkgiaaaGreatDoor
