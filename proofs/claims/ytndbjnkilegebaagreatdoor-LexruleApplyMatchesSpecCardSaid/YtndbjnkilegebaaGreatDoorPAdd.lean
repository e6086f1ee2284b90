/- What these functions of the program compute, at every world: (*glosswright/unify.pool).add. -/
import Derived.Test.YtndbjnkilegebaaGreatDoorU
import Derived.Test.YtndbjnkilegebaaGreatDoorZst
import Derived.Test.YtndbjnkilegebaaGreatDoorPFind
namespace Go.Proofs.YtndbjnkilegebaaGreatDoor
open Go.RowKit
open Go.Proofs.Tryz
variable {k n:Nat}
structure PoolAt(w:World)(ob bp:Nat)(c0 c1:Value)(n:Nat)(PA TA LA:Option Addr)(cp ct cl:Nat)(P:Nat->Nat)(T:Nat->Int)(V:Nat->Value)(L:Nat->List (Int×Int)):Prop where
 bp:Blk w bp 167 #[c0,c1,.slice PA n cp,.slice TA n ct,.slice LA n cl]
 pa:Own w ob 3 1 PA n cp (jy n (vN P))
 ta:Own w ob 3 1 TA n ct (jy n (vI T))
 la:Own w ob 85 1 LA n cl (jy n V)
 rows:∀ x,x<n->RowO w ob w.heap.size (V x) (L x)
 dis:∀ g∈aL PA,¬g∈aL TA
theorem row2_lnV{m:Nat}{f h:Nat->Value}{xs:List (Int×Int)}(hl:xs.length=m)(hf:∀ k (hk:k<xs.length),f k= .int .i64 (xs[k]).1)(hh:∀ k (hk:k<xs.length),h k= .int .i64 (xs[k]).2):(kz m f h).toList=lnV xs:=by
 refine List.ext_getElem? (fun j=>?_);by_cases hj:j<m*2
 ·have hk:j/2<xs.length:=by omega
  have h1:=V9 xs (j/2) hk;rcases Nat.mod_two_eq_zero_or_one j with e|e
  ·have e2:j=0+j/2*2+0:=by omega
   rw[Array.getElem?_toList];rw[show (kz m f h)[j]? =(kz m f h)[0+j/2*2+0]? from congrArg (fun z=>(kz m f h)[z]?) e2,XK oG,hf _ hk];rw[show (lnV xs)[j]? =(lnV xs)[j/2*2]? from congrArg (fun z=>(lnV xs)[z]?) oG,h1.1]
  ·have e2:j=0+j/2*2+1:=by omega
   rw[Array.getElem?_toList];rw[show (kz m f h)[j]? =(kz m f h)[0+j/2*2+1]? from congrArg (fun z=>(kz m f h)[z]?) e2,ZQ oG,hh _ hk];rw[show (lnV xs)[j]? =(lnV xs)[j/2*2+1]? from congrArg (fun z=>(lnV xs)[z]?) oG,h1.2]
 ·rw[List.getElem?_eq_none (by simp[kz];omega),List.getElem?_eq_none (by rw[Q7];omega)]
def L6(n:Nat)(P:Nat->Nat)(x:Nat):Nat:=if x<n then P x else x
def R1(n:Nat)(T:Nat->Int)(g:List Nd)(x:Nat):Int:=if x<n then T x else (nd g (x-n)).ty
def shL(n:Nat)(xs:List (Int×Int)):List (Int×Int):=xs.map (fun y=>(y.1,y.2+(n:Int)))
def addL(n:Nat)(L:Nat->List (Int×Int))(g:List Nd)(x:Nat):List (Int×Int):=if x<n then L x else shL n (nd g (x-n)).ln
def J2(V:Nat->Value)(m:Nat)(v:Value)(x:Nat):Value:=if x=m then v else V x
theorem rowL_put{V:Nat->Value}{m:Nat}{v:Value}:jy m V++[v]=jy (m+1) (J2 V m v):=by
 rw[RJ]
 exact oW (fun x hx=>by
  by_cases e:x=m
  ·subst e;simp[J2]
  ·have:x<m:=by omega
   simp[J2,e,this])
theorem addP_new{P:Nat->Nat}:Value.int .i64 ((n+k:Nat):Int)=vN (L6 n P) (n+k):=by
 unfold vN L6;rw[if_neg oG]
theorem addT_new{T:Nat->Int}{g:List Nd}(hk:k<g.length):Value.int .i64 (g[k]).ty=vI (R1 n T g) (n+k):=by
 unfold vI R1;rw[if_neg oG,show n+k-n=k by omega,yK hk]
theorem Zw{w:World}{base b sz c:Nat}{e t:TypeId}{A:Option Addr}{xs:List Value}{cs:Array Value}(h:Own w base e sz A k c xs)(hb:Blk w b t cs)(hne:e≠t):∀ g∈aL A,g≠b:=fun g hg e1=>by
 obtain⟨c2,h2⟩:=h.typ g hg
 subst e1
 exact hne (jz h2 hb)
theorem rowL_ext{g:Nat->Value}{v:Value}(h:v=g n):jy n g++[v]=jy (n+1) g:=by
 rw[RJ]
 exact oW (fun x hx=>by
  by_cases e:x<n
  ·rw[if_pos e]
  ·rw[if_neg e,h,show x=n by omega])
theorem in3_PAdd:(prog.info? 3).map (fun i=>(i.zero,i.size,i.bytes))=some (some (.int .i64 0),1,8):=by kernel_rfl
theorem Y0:(prog.info? 84).map (fun i=>(i.zero,i.size,i.bytes))=some (some (.agg #[.int .i64 0,.int .i64 0]),2,16):=by kernel_rfl
theorem in85:(prog.info? 85).map (fun i=>(i.zero,i.size,i.bytes))=some (some (.slice none 0 0),1,24):=by kernel_rfl
theorem sz165:(prog.info? 165).map (·.size)=some 1:=by kernel_rfl
theorem Lq:(prog.info? 3).map (·.zero)=some (some (.int .i64 0)):=by kernel_rfl
theorem ze85:(prog.info? 85).map (·.zero)=some (some (.slice none 0 0)):=by kernel_rfl
theorem IW:(prog.info? 87).map (·.zero)=some (some (.agg #[.int .i64 0,.slice none 0 0])):=by kernel_rfl
set_option maxHeartbeats 4000000 in
theorem padd_any{ob bp cg nf:Nat}{c0 c1:Value}{PA TA LA G:Option Addr}{cp ct cl:Nat}{P:Nat->Nat}{T:Nat->Int}{V:Nat->Value}{L:Nat->List (Int×Int)}{gr:List Nd}(nt:Nat)(w:World)(hp:PoolAt w ob bp c0 c1 n PA TA LA cp ct cl P T V L)(hbo:bp<ob)(hob:ob<=w.heap.size)(hn:n<=1000000)(hG:∀ w2,Chg ob [bp] w w2->NodesIn w2 G gr)(hk:GOk nt nf gr)(hnf:nf<=1000):Calls prog 102 #[.pointer (some ⟨bp,0,none⟩),.agg #[.slice G gr.length cg]] w fun e w'=>(∃ PA' TA' LA' cp' ct' cl' V',e= .returned (.int .i64 (n:Nat))/\PoolAt w' ob bp c0 c1 (n+gr.length) PA' TA' LA' cp' ct' cl' (L6 n P) (R1 n T gr) V' (addL n L gr))/\Chg ob [bp] w w'/\ob<=w'.heap.size:=by
 have hn6:=hk.le;have hlob:w.heap.size<=w.heap.size:=ai _;obtain⟨a9,a2,a1,a8,a5,bb⟩:=hp;obtain⟨bs,bh⟩:∃ b,b=w.heap.size:=⟨_,rfl⟩
 rw[<- bh]at a5;have a4:bs<=w.heap.size:=ay bh;have a3:Chg ob [bp] w w/\ob<=w.heap.size:=⟨Chg.refl _ _ _,hob⟩
 replace a2:Own w ob 3 1 PA n cp (jy n (vN (L6 n P))):=by rw[oW (g':=vN P) (fun x hx=>by simp[vN,L6,hx])];exact a2
 replace a1:Own w ob 3 1 TA n ct (jy n (vI (R1 n T gr))):=by rw[oW (g':=vI T) (fun x hx=>by simp[vI,R1,hx])];exact a1
 replace a5:∀ x,x<n->RowO w ob bs (V x) (addL n L gr x):=fun x hx=>by have h:=a5 x hx;simp only[addL,if_pos hx];exact h
 refine enter func102 ntmps102 rfl (aA rfl) (zn2 ?_);refine qv (cs:=#[_]) rfl (fun b3 w1 ad t1 hr=>?_);have:=a9.ob hr;have an:=a2.ob hr;have b8:=a1.ob hr;have ao:=a8.ob hr;have d8:=(nLT a3.2 hr)
 have d6:=(nLT a4 hr)
 replace a5:=zY a5 t1;replace a3:=xV a3 t1;replace a4:=zJ a4 t1;refine zn5 ?_;refine wl (x6 (v:= .pointer (some _)) rfl) (wl (Xk rfl) (Jq ?_));replace a9:=a9.tr0 t1;replace a2:=a2.tr0 t1;replace a1:=a1.tr0 t1;replace a8:=a8.tr0 t1;refine qz (rg (rg [] 6 5) 19 62) (fun m g w'=>∃(k:Nat) (PA TA LA:Option Addr) (cp ct cl:Nat) (V:Nat->Value),k<=gr.length/\m=gr.length-k/\g 19= .int .i64 k/\Blk w' b3 28 #[.slice G gr.length cg]/\Blk w' bp 167 #[c0,c1,.slice PA (n+k) cp,.slice TA (n+k) ct,.slice LA (n+k) cl]/\Own w' ob 3 1 PA (n+k) cp (jy (n+k) (vN (L6 n P)))/\Own w' ob 3 1 TA (n+k) ct (jy (n+k) (vI (R1 n T gr)))/\Own w' ob 85 1 LA (n+k) cl (jy (n+k) V)/\(∀ x,x<(n+k)->RowO w' ob w'.heap.size (V x) (addL n L gr x))/\(∀ g∈aL PA,¬g∈aL TA)/\(Chg ob [bp] w w'/\ob<=w'.heap.size)) (gr.length) ?_ (fun m g3 w2 hI=>?_)
 ·exact⟨0,PA,TA,LA,cp,ct,cl,V,ah _,rfl,rfl,ad,a9,a2,a1,a8,fun x hx=>(a5 x hx).up a4,bb,a3⟩
 obtain⟨k,PA,TA,LA,cp,ct,cl,V,hkk,hm,h19,ad,a9,a2,a1,a8,a5,bb,a3⟩:=hI;obtain⟨bs,bh⟩:∃ b,b=w2.heap.size:=⟨_,rfl⟩
 rw[<- bh]at a5;have a4:bs<=w2.heap.size:=ay bh;have hup:=fun g hg=>(a2.lt g hg).2
 have hut:=fun g hg=>(a1.lt g hg).2
 have hul:=fun g hg=>(a8.lt g hg).2
 have hu3:=ad.lt;have dj:=a9.lt;rw[<- bh]at hup hut hul hu3 dj;have an:=Zw a2 ad dE;have b8:=Zw a1 ad dE;have ao:=Zw a8 ad dE;refine zQ 19 _ h19 nu (zn6 ?_);refine zZ rfl (fun c20=>?_) (fun c20=>?_)
 ·have ac:k<gr.length:=by omega
  obtain⟨nb,no,LA0,lc,rfl,hnb,hnr,dk⟩:=(hG _ a3.1).at_ (Below.refl _ _:Bel w2 w2) ac;have hmx:=dk.1;unfold vX at hmx;have hfw:=hk.few k ac;obtain⟨wN,hwN⟩:∃ x,x=w2:=⟨_,rfl⟩
  have bi:Bel wN w2:=by rw[hwN];exact Below.refl _ _
  rw[<- hwN]at hnb hnr dk;refine zn7 ?_;refine wl (x7 (i:=k) U26 Qw rfl rfl ac rfl) (wl (qw U87 rfl rfl (bi.range hnb hnr) Qw) ?_);refine qQ (cs:=#[.int .i64 0,.slice none 0 0]) IW rfl (fun b7 w3 b1 t2 hr=>?_);have:=a9.ob hr;have b9:=a2.ob hr;have b6:=a1.ob hr;have bf:=a8.ob hr;have d7:=(nLT a3.2 hr)
  have:=ad.ob hr;have d5:=(nLT a4 hr)
  have lo7:=bi.ob hr;have bg:=bi.ob hr;replace a5:=zY a5 t2;replace a3:=xV a3 t2;replace a4:=zJ a4 t2;refine waI rfl ?_;refine zV b1 (fun w4 hq t3=>?_);replace a2:=a2.tr0 t2;replace a2:=a2.cB t3;replace a1:=a1.tr0 t2;replace a1:=a1.cB t3;replace a8:=a8.tr0 t2;replace a8:=a8.cB t3;replace a5:=zY a5 t3;replace a3:=xV a3 t3;replace a4:=zJ a4 t3;replace b1:=hq;refine zn7 ?_;refine Lk (m:=(gr[k]'ac).ln.length) U85 Y0 rfl rfl oG oG (fun dh w5 b2 t4 hr=>?_);replace a9:=(a9.tr0 t2).tr1 t3 oG;have:=a9.ob hr;have c7:=a2.ob hr;have c3:=a1.ob hr;have cb:=a8.ob hr;have cn:=(nLT a3.2 hr)
  have:=ad.u.ob hr;have cf:=(nLT a4 hr)
  have:=b1.ob hr;have lo27:=bi.u.ob hr;have cx:=bi.u.ob hr;replace a5:=zY a5 t4;replace a3:=xV a3 t4;replace a4:=zJ a4 t4;refine zn5 ?_;replace ad:=((ad.tr0 t2).tr1 t3 oG).tr0 t4;replace bi:=((bi.tr0 t2).tr1 t3 bg).tr0 t4;replace a9:=a9.tr0 t4;replace a2:=a2.tr0 t4;replace a1:=a1.tr0 t4;replace a8:=a8.tr0 t4;replace b1:=b1.tr0 t4;replace b2:Blk w5 dh 84 (kz (gr[k]'ac).ln.length (fun _=> .int .i64 0) (fun _=> .int .i64 0)):=by
    have h:=b2;rw[show (Value.agg #[.int .i64 0,.int .i64 0]).cells= #[.int .i64 0,.int .i64 0]from rfl,M9]at h;exact h
  refine zn8 ?_;refine qz (rg [9,10] 31 16) (fun m g w'=>∃ j:Nat,j<=(gr[k]'ac).ln.length/\m=(gr[k]'ac).ln.length-j/\g 31= .int .i64 j/\Blk w' b3 28 #[.slice (some ⟨nb,no,none⟩) gr.length cg]/\Blk w' bp 167 #[c0,c1,.slice PA (n+k) cp,.slice TA (n+k) ct,.slice LA (n+k) cl]/\Own w' ob 3 1 PA (n+k) cp (jy (n+k) (vN (L6 n P)))/\Own w' ob 3 1 TA (n+k) ct (jy (n+k) (vI (R1 n T gr)))/\Own w' ob 85 1 LA (n+k) cl (jy (n+k) V)/\(∀ x,x<(n+k)->RowO w' ob bs (V x) (addL n L gr x))/\bs<=w'.heap.size/\Bel wN w'/\Blk w' b7 87 #[.int .i64 (gr[k]'ac).ty,.slice LA0 (gr[k]'ac).ln.length lc]/\Blk w' dh 84 (kz (gr[k]'ac).ln.length (fun x=>if x<j then .int .i64 (((gr[k]'ac)).ln.getD x (0,0)).1 else .int .i64 0) (fun x=>if x<j then .int .i64 ((((gr[k]'ac)).ln.getD x (0,0)).2+(n:Int))else .int .i64 0))/\(Chg ob [bp] w w'/\ob<=w'.heap.size)) ((gr[k]'ac).ln.length) ?_ (fun m g7 w6 hI=>?_)
  ·refine⟨0,ah _,rfl,rfl,ad,a9,a2,a1,a8,a5,a4,bi,b1,?_,a3⟩;rw[oY (f':=fun _=> .int .i64 0) (h':=fun _=> .int .i64 0) (fun x _=>by simp) (fun x _=>by simp)];exact b2
  obtain⟨j,hj,hmj,h31,ad,a9,a2,a1,a8,a5,a4,bi,b1,b2,a3⟩:=hI;refine zQ 31 _ h31 nu (zn6 ?_);refine zZ rfl (fun c32=>?_) (fun c32=>?_)
  ·have d9:j<(gr[k]'ac).ln.length:=by omega
   obtain⟨lb,lof,rfl,hlb,hlr⟩:=dk.at_ bi d9;have hxr:=hk.ln k ac _ (aq d9);refine zn8 ?_;refine wl (qw U84 rfl rfl hlr qx) ?_;refine qQ (cs:=#[.int .i64 0,.int .i64 0]) Qv rfl (fun b10 w7 da t5 hr=>?_);have:=a9.ob hr;have c8:=a2.ob hr;have c4:=a1.ob hr;have cc:=a8.ob hr;have co:=(nLT a3.2 hr)
   have:=ad.ob hr;have cj:=(nLT a4 hr)
   have:=b1.ob hr;have:=b2.ob hr;have lo10:=bi.ob hr;have cy:=bi.ob hr;replace a5:=zY a5 t5;replace a3:=xV a3 t5;replace a4:=zJ a4 t5;refine waI rfl ?_;refine zV da (fun w8 hq t6=>?_);replace a2:=a2.tr0 t5;replace a2:=a2.cB t6;replace a1:=a1.tr0 t5;replace a1:=a1.cB t6;replace a8:=a8.tr0 t5;replace a8:=a8.cB t6;replace a5:=zY a5 t6;replace a3:=xV a3 t6;replace a4:=zJ a4 t6;replace da:=hq;refine yj ?_;refine wl (uW (c:=(((gr[k]'ac).ln[j]'d9).2+(n:Int))) rfl rfl oG oG) (vy (wl (x7 (i:=j) U85 qx rfl rfl d9 rfl) ?_));replace b2:=(b2.tr0 t5).tr1 t6 oG;refine Jj b2 rfl rfl qx (by rw[u5];show 0+j*2+2<=_;omega) xW row2_splice (fun w9 hq t7=>?_);replace a2:=a2.cB t7;replace a1:=a1.cB t7;replace a8:=a8.cB t7;replace a5:=zY a5 t7;replace a3:=xV a3 t7;replace a4:=zJ a4 t7;replace b2:=hq
   rw[oY (f':=fun x=>if x<j+1 then .int .i64 (((gr[k]'ac)).ln.getD x (0,0)).1 else .int .i64 0) (h':=fun x=>if x<j+1 then .int .i64 ((((gr[k]'ac)).ln.getD x (0,0)).2+(n:Int))else .int .i64 0) (fun x _=>by
     by_cases e:x=j
     · subst e;simp[List.getD,d9]
     · have e1:(x<j+1)↔(x<j):=by omega
       simp[e,e1]) (fun x _=>by
     by_cases e:x=j
     · subst e;simp[List.getD,d9]
     · have e1:(x<j+1)↔(x<j):=by omega
       simp[e,e1])]at b2
   refine zn7 ?_;refine x9 ((gr[k]'ac).ln.length-(j+1)) oG agA ?_;replace a9:=((a9.tr0 t5).tr1 t6 oG).tr1 t7 oG;exact⟨j+1,by omega,rfl,rfl,ad.u,a9,a2,a1,a8,a5,a4,bi.u,b1.u,b2,a3⟩
  have hjx:j=(gr[k]'ac).ln.length:=by omega
  subst hjx;refine zn6 ?_
  have ab:=RowO.of (lo:=ob) (xs:=shL n (gr[k]'ac).ln) (cap:=(gr[k]'ac).ln.length) (base:=ob) (ai _) (A:=some ⟨dh,0,none⟩) (w:=w6) (by
    have hl:(shL n (gr[k]'ac).ln).length=(gr[k]'ac).ln.length:=by simp[shL]
    rw[hl];have h:=V6 (base:=ob) (sz:=2) (m:=(gr[k]'ac).ln.length) b2 oG (by rw[u5]) oG
    rw[row2_lnV hl (fun x hx=>by
      have di:x<(gr[k]'ac).ln.length:=by omega
      simp[shL,List.getD,di]) (fun x hx=>by
      have di:x<(gr[k]'ac).ln.length:=by omega
      simp[shL,List.getD,di])]at h
    exact h)
  rw[show (shL n (gr[k]'ac).ln).length=(gr[k]'ac).ln.length by simp[shL]]at ab;obtain⟨s9,hs9⟩:∃ b,b=w6.heap.size:=⟨_,rfl⟩
  rw[<- hs9]at ab;have b5:s9<=w6.heap.size:=ay hs9;refine Qq (wl (x6 (v:= .pointer (some _)) rfl) (wl (x6 (v:= .pointer (some _)) rfl) (wl (Xk rfl) (zn4 ?_))));refine wl (uW (c:=((n+k:Nat):Int)) rfl rfl oG oG) ?_;refine qZ (cs:=#[_]) [(0,.int _ _)] rfl U62 xw Lq dE dE kR rfl (fun b55 w10 dp t8 hr=>?_);have:=a9.ob hr;have c6:=a2.ob hr;have c2:=a1.ob hr;have ca:=a8.ob hr;have cm:=(nLT a3.2 hr)
  have:=ad.ob hr;have ce:=(nLT a4 hr)
  have:=b1.ob hr;have bx:=(nLT b5 hr)
  replace a5:=zY a5 t8;replace a3:=xV a3 t8;replace a4:=zJ a4 t8;replace ab:=ab.tr t8 (by simp);replace b5:=zJ b5 t8;replace a1:=a1.tr0 t8;have hzz:=fun g hg=>(a1.lt g hg).2
  replace a2:=a2.tr0 t8;refine vV U62 in3_PAdd rfl dE a2 dp rfl rfl rfl xW dE oG oG a3.2 (fun d3 bv w11 bt t9 hg=>?_);replace a9:=a9.tr0 t8;have cu:d3≠bp:=neA a2 a9.lt hg
  have cw:d3≠b3:=neB ad.u.lt hg (fun g hg=>by have:=an g hg;omega)
  have cv:d3≠b7:=neB b1.u.lt hg (fun g hg=>by have:=b9 g hg;omega)
  replace a9:=a9.ta t9 a2;replace a1:=a1.c t9;replace a8:=a8.tr0 t8;replace a8:=a8.c t9;replace a5:=zY a5 t9;replace a3:=xV a3 t9;replace ad:=ad.tr0 t8;replace ad:=ad.tb t9 (fun g hg=>by have:=an g hg;omega);replace a4:=zJ a4 t9;replace b1:=b1.tr0 t8;replace b1:=b1.tb t9 (fun g hg=>by have:=b9 g hg;omega);replace ab:=ab.c t9;replace b5:=zJ b5 t9;have bb:∀ g∈aL (some ⟨d3,0,none⟩),¬g∈aL TA:=fun g hg' h=>by
    simp only[aL,List.mem_singleton]at hg';subst hg';rcases hg with hg|hg
    · exact bb _ (by rw[hg];exact ar.2 rfl) h
    · have:=hzz _ h;omega
  replace bt:Own w11 ob 3 1 (some ⟨d3,0,none⟩) (n+k+1) bv (jy (n+k+1) (vN (L6 n P))):=by rw[rowL_ext addP_new]at bt;exact bt
  have a2:=bt;refine wl (Xk rfl) (zn1 ?_);refine xx (v:= .slice _ _ _) a9 rfl rfl Jv (by first|decide|simp) rfl rfl (fun w12 hq bj=>?_);replace a1:=a1.cB bj;replace a8:=a8.cB bj;replace a5:=zY a5 bj;replace a3:=xV a3 bj;replace a4:=zJ a4 bj;replace ab:=ab.c bj;replace b5:=zJ b5 bj;replace a2:=a2.cB bj;replace a9:=hq;refine zn3 ?_;have zo:=fun g hg=>(a1.lt g hg).2
  refine J9 11 (rg [] 59 11) (aL TA) 8 (fun ix v wv=>match ix with|0=>v= .pointer (some ⟨bp,0,none⟩)|1=>v= .pointer (some ⟨bp,0,none⟩)|2=>v= .pointer (some ⟨bp,0,none⟩)|3=>v= .pointer (some ⟨bp,3,none⟩)|4=>v= .slice TA (n+k) ct|5=>v= .pointer (some ⟨b7,0,none⟩)|6=>v= .int .i64 (gr[k]'ac).ty|7=>∃ b,v= .slice (some ⟨b,0,none⟩) 1 1/\w12.heap.size<=b/\Blk wv b 3 #[.int .i64 (gr[k]'ac).ty]|8=>∃ g cap,v= .slice (some ⟨g,0,none⟩) (n+k+1) cap/\Own wv ob 3 1 (some ⟨g,0,none⟩) (n+k+1) cap (jy (n+k) (vI (R1 n T gr))++[.int .i64 (gr[k]'ac).ty])/\(∀ g2∈aL (some (⟨d3,0,none⟩:Addr)),¬g2∈aL (some (⟨g,0,none⟩:Addr)))|9=>v= .pointer (some ⟨bp,0,none⟩)|10=>v= .pointer (some ⟨bp,3,none⟩)|_=>True) (fun _=>True) kR kR ?_ (fun _ _ _ _=>trivial) ?_ ?_ dE ?_
  ·intro ix v wv wv2 h t11
   match ix,h with
   | 0,h=>exact h
   | 1,h=>exact h
   | 2,h=>exact h
   | 3,h=>exact h
   | 4,h=>exact h
   | 5,h=>exact h
   | 6,h=>exact h
   | 7,h=>
    obtain⟨df,dc,bq,be⟩:=h;exact⟨df,dc,bq,be.tr0 t11⟩
   | 8,h=>
    obtain⟨db,bc,dq,ba,d2⟩:=h;exact⟨db,bc,dq,ba.tr0 t11,d2⟩
   | 9,h=>exact h
   | 10,h=>exact h
   | _+11,h=>exact trivial
  ·intro ix o hix cz b4 gg wx t12 hd
   match ix,hix,cz,b4 with
   | 0,_,_,b4=>
    cases sI b4;refine qk (x6 (v:= .pointer (some _)) rfl) ⟨Same.refl _ _,?_⟩;exact rfl
   | 1,_,_,b4=>
    cases sI b4;refine qk (x6 (v:= .pointer (some _)) rfl) ⟨Same.refl _ _,?_⟩;exact rfl
   | 2,_,_,b4=>
    cases sI b4;refine aZ 60 (hd 1 a6) ?_;refine qk (Xk rfl) ⟨Same.refl _ _,?_⟩;exact rfl
   | 3,_,_,b4=>
    cases sI b4;refine aZ 61 (hd 2 a6) ?_;refine qk (jX L8 Jv dE rfl rfl rfl) ⟨Same.refl _ _,?_⟩;exact rfl
   | 4,_,_,b4=>
    cases sI b4;replace a9:=a9.ta t12 a1;refine aZ 62 (hd 3 a6) ?_;refine qk (qj (v:= .slice _ _ _) U62 rfl rfl (a9.cell rfl)) ⟨Same.refl _ _,?_⟩;exact rfl
   | 5,_,_,b4=>
    cases sI b4;refine qk (jX U87 xw dE rfl rfl rfl) ⟨Same.refl _ _,?_⟩;exact rfl
   | 6,_,_,b4=>
    cases sI b4;replace b1:=b1.tr1 bj oG;replace b1:=b1.tb t12 (fun g hg=>by have:=b6 g hg;omega);refine aZ 64 (hd 5 a6) ?_;refine qk (qj (v:= .int _ _) U3 rfl rfl (b1.cell rfl)) ⟨Same.refl _ _,?_⟩;exact rfl
   | 7,_,_,b4=>
    cases sI b4;have hs0:=t12;refine aZ 65 (hd 6 a6) ?_;refine jq (fun ops Q K=>?_);refine qZ (cs:=#[_]) [(0,.int _ _)] rfl U62 xw Lq dE dE kR rfl (fun df w13 be t13 hr=>?_);exact K _ _ ⟨t13,⟨_,rfl,nLT hs0.size hr,be⟩⟩
   | 8,_,cz,_=>exact absurd rfl cz
   | 9,_,_,b4=>
    cases sI b4;refine aZ 59 (hd 0 a6) ?_;refine qk (Xk rfl) ⟨Same.refl _ _,?_⟩;exact rfl
   | 10,_,_,b4=>
    cases sI b4;refine aZ 68 (hd 9 a6) ?_;refine qk (jX L8 Jv dE rfl rfl rfl) ⟨Same.refl _ _,?_⟩;exact rfl
   | _+11,hix,_,_=>exact absurd hix oG
  ·intro o b4 gg wx d4 hd;cases sI b4;replace a5:=zY a5 d4;replace a3:=xV a3 d4;replace a4:=zJ a4 d4;replace b5:=zJ b5 d4;obtain⟨df,dc,bq,be⟩:=hd 7 (zj kR);refine aZ 63 (hd 4 a6) (zq 66 _ dc nu ?_);refine jq (fun ops Q K=>?_);replace a1:=a1.tr0 d4;refine vV U62 in3_PAdd rfl dE a1 be rfl rfl rfl xW dE oG oG a3.2 (fun db bc w2 ba hs2 dm=>?_);replace a2:=a2.tr0 d4
   refine K _ _ ⟨hs2,⟨_,_,rfl,ba,fun g2 h2 h3=>by
       simp only[aL,List.mem_singleton]at h3;subst h3;rcases dm with hg|hg
       · exact bb _ h2 (by rw[hg];exact ar.2 rfl)
       · have:=(a2.lt _ h2).2;omega⟩,trivial,fun kx v cz h=>?_⟩
   match kx,cz,h with
   | 0,_,h=>exact h
   | 1,_,h=>exact h
   | 2,_,h=>exact h
   | 3,_,h=>exact h
   | 4,_,h=>exact h
   | 5,_,h=>exact h
   | 6,_,h=>exact h
   | 7,_,h=>
    obtain⟨df,dc,bq,be⟩:=h;exact⟨df,dc,bq,be.tr hs2 (fun hx=>by have:=zo _ hx;omega)⟩
   | 8,cz,_=>exact absurd rfl cz
   | 9,_,h=>exact h
   | 10,_,h=>exact h
   | _+11,_,_=>exact trivial
  intro gg w14 bm _ hR;replace a9:=a9.ta bm a1;replace a8:=a8.c bm;replace a5:=zY a5 bm;replace a3:=xV a3 bm;replace ad:=ad.tr1 bj oG;replace ad:=ad.tb bm (fun g hg=>by have:=b8 g hg;omega);replace a4:=zJ a4 bm;replace b1:=b1.tr1 bj oG;replace b1:=b1.tb bm (fun g hg=>by have:=b6 g hg;omega);replace ab:=ab.c bm;replace b5:=zJ b5 bm;replace a2:=a2.c bm;obtain⟨db,bc,dq,ba,d2⟩:=hR 8 dE;replace ba:Own w14 ob 3 1 (some ⟨db,0,none⟩) (n+k+1) bc (jy (n+k+1) (vI (R1 n T gr))):=by rw[rowL_ext (addT_new ac)]at ba;exact ba
  have a1:=ba;replace bb:=d2;refine x8 67 _ dq nu (x8 69 _ (hR 10 dE) nu ?_);refine xx (v:= .slice _ _ _) a9 rfl rfl Jv (by first|decide|simp) rfl rfl (fun w15 hq bo=>?_);replace a8:=a8.cB bo;replace a5:=zY a5 bo;replace a3:=xV a3 bo;replace a4:=zJ a4 bo;replace ab:=ab.c bo;replace b5:=zJ b5 bo;replace a2:=a2.cB bo;replace a1:=a1.cB bo;replace a9:=hq;refine zn3 ?_;refine wl (x6 (v:= .pointer (some _)) rfl) (wl (x6 (v:= .pointer (some _)) rfl) (wl (Xk rfl) (zn3 ?_)));refine qZ (cs:=#[_]) [(0,.slice _ _ _)] rfl R5 gZ ze85 dE dE kR rfl (fun b76 w16 dn bk hr=>?_);have:=a9.ob hr;have c9:=a8.ob hr;have ck:=(nLT a3.2 hr)
  have:=ad.u.ob hr;have cd:=(nLT a4 hr)
  have:=b1.u.ob hr;have bw:=(nLT b5 hr)
  have c5:=a2.ob hr;have bz:=a1.ob hr;replace a5:=zY a5 bk;replace a3:=xV a3 bk;replace a4:=zJ a4 bk;replace ab:=ab.tr bk (by simp);replace b5:=zJ b5 bk;replace a8:=a8.tr0 bk;refine vV R5 in85 rfl dE a8 dn rfl rfl rfl xW dE oG oG a3.2 (fun dg de w17 br bn hg=>?_);replace a9:=a9.tr0 bk;have bd:dg≠bp:=neA a8 a9.lt hg
  have cr:dg≠b3:=neB ad.u.lt hg (fun g hg=>by have:=ao g hg;omega)
  have cq:dg≠b7:=neB b1.u.lt hg (fun g hg=>by have:=bf g hg;omega)
  replace a9:=a9.ta bn a8;replace a5:=zY a5 bn;replace a3:=xV a3 bn;replace ad:=(ad.tr1 bo oG).tr0 bk;replace ad:=ad.tb bn (fun g hg=>by have:=ao g hg;omega);replace a4:=zJ a4 bn;replace ab:=ab.c bn;replace b5:=zJ b5 bn;replace a2:=a2.tr0 bk;replace a2:=a2.c bn;replace a1:=a1.tr0 bk;replace a1:=a1.c bn;refine wl (Xk rfl) (zn1 ?_);refine xx (v:= .slice _ _ _) a9 rfl rfl sz165 (by first|decide|simp) rfl rfl (fun w18 hq bu=>?_);replace a5:=zY a5 bu;replace a3:=xV a3 bu;replace a4:=zJ a4 bu;replace ab:=ab.c bu;replace b5:=zJ b5 bu;replace a2:=a2.cB bu;replace a1:=a1.cB bu;replace br:=br.tr1 bu (neS bd);replace a9:=hq;refine zn7 ?_;refine x9 (gr.length-(k+1)) oG agA ?_;refine⟨k+1,some ⟨d3,0,none⟩,some ⟨db,0,none⟩,some ⟨dg,0,none⟩,bv,bc,de,J2 V (n+k) (.slice (some ⟨dh,0,none⟩) (gr[k]'ac).ln.length (gr[k]'ac).ln.length),by omega,rfl,rfl,ad.u,a9,a2,a1,?_,fun x hx=>?_,bb,a3⟩
  · rw[rowL_put]at br;exact br
  · by_cases e:x=n+k
    · subst e
      simp only[J2,if_true];have e2:addL n L gr (n+k)=shL n (gr[k]'ac).ln:=by simp only[addL,if_neg (show ¬n+k<n by omega),show n+k-n=k by omega,yK ac]
      rw[e2];exact ab.up b5
    · simp only[J2,if_neg e]
      exact(a5 x oG).up a4
 have hke:k=gr.length:=by omega
 refine uJ ?_;refine⟨⟨PA,TA,LA,cp,ct,cl,V,rfl,?_⟩,a3.1,a3.2⟩;rw[hke]at a9 a2 a1 a8 a5;exact⟨a9,a2,a1,a8,fun x hx=>(a5 x hx).up a4,bb⟩
end Go.Proofs.YtndbjnkilegebaaGreatDoor
