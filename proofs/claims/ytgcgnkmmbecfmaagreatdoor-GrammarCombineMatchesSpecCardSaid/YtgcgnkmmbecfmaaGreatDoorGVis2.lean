/- What these functions compute, at every world: graph.From, slices.Equal[[]api.Link,api.Link], equal.Nodes, slices.Clone[[]int,int], ref3.visit; and plain laws. -/
import Derived.Test.YtgcgnkmmbecfmaaGreatDoorGLoose
import Derived.Test.YtgcgnkmmbecfmaaGreatDoorEng4
import Derived.Test.YtgcgnkmmbecfmaaGreatDoorU
import Derived.Test.YtgcgnkmmbecfmaaGreatDoorZst
namespace Go.Proofs.YtgcgnkmmbecfmaaGreatDoor
open Go.RowKit Go.Proofs.Tryz
variable {V f:Nat->Value}{Z:Nat->Prop}{a b is o:List Nat}{base bs k m x:Nat}{g gr:List Nd}{w w' w0:World}
section
def SameQ(X:List Nat)(w w':World):Prop:=Same X w w'
theorem SameQ.trans{X:List Nat}{a b c:World}(h:SameQ X a b){Y:List Nat}(k:Same Y b c)(hy:∀ g∈Y,g∈X):SameQ X a c:=Same.trans h (k.weak hy)
structure ChG(Z:Nat->Prop)(w w':World):Prop where
 os:w'.os=w.os
 tape:w'.tape=w.tape
 output:w'.output=w.output
 size:w.heap.size<=w'.heap.size
 blk:∀ k,k<w.heap.size->¬Z k->w'.heap[k]? =w.heap[k]?
theorem ChG.refl(Z:Nat->Prop)(w:World):ChG Z w w:=⟨rfl,rfl,rfl,ah _,fun _ _ _=>rfl⟩
theorem ChG.st{Y:List Nat}{a b c:World}(h:ChG Z a b)(k:Same Y b c)(hy:∀ g∈Y,Z g\/a.heap.size<=g):ChG Z a c:=
 ⟨k.os.trans h.os,k.tape.trans h.tape,k.output.trans h.output,nLT h.size k.size,fun i hi hx=>(k.blk i (nLL hi h.size) (fun hm=>(hy i hm).elim hx (fun h2=>by omega))).trans (h.blk i hi hx)⟩
theorem ChG.trans{Z Z':Nat->Prop}{a b c:World}(h:ChG Z a b)(k:ChG Z' b c)(hz:∀ g,Z' g->Z g\/a.heap.size<=g):ChG Z a c:=
 ⟨k.os.trans h.os,k.tape.trans h.tape,k.output.trans h.output,nLT h.size k.size,fun i hi hx=>(k.blk i (nLL hi h.size) (fun hm=>(hz i hm).elim hx (fun h2=>by omega))).trans (h.blk i hi hx)⟩
theorem ChG.one{b:Nat}(h:ChG (fun g=>g=b) w w'):Same [b] w w':=⟨h.os,h.tape,h.output,h.size,fun k hk hx=>h.blk k hk (fun e=>hx (aq.2 e))⟩
theorem Blk.chG{b t:Nat}{cs:Array Value}(h:Blk w b t cs)(hc:ChG Z w w')(hx:¬Z b):Blk w' b t cs:=(hc.blk b h.lt hx).trans h
theorem Bel.chG(h:Bel w0 w)(hc:ChG Z w w')(hz:∀ g,Z g->w0.heap.size<=g):Bel w0 w':=
 ⟨hc.os.trans h.os,hc.tape.trans h.tape,hc.output.trans h.output,nLT h.size hc.size,fun k hk=>(hc.blk k (nLL hk h.size) (fun hm=>by have:=hz k hm;omega)).trans (h.block k hk)⟩
theorem ChG.bel(h:Bel w w'):ChG Z w w':=⟨h.os,h.tape,h.output,h.size,fun k hk _=>h.block k hk⟩
theorem RowO.chG{lo g:Nat}{v:Value}{xs:List (Int×Int)}{cs:Array Value}{t:TypeId}(h:RowO w lo bs v xs)(hb:Blk w g t cs)(ht:83≠t)(hc:ChG (fun k=>k=g) w w'):RowO w' lo bs v xs:=by
 obtain⟨A,c,e,h1,h2⟩:=h;refine⟨A,c,e,⟨h1.1,?_⟩,h2⟩;have hty:=h1.typ;rcases h1.2 with hn|⟨q,c,cur,hv,hbb,hg,r⟩
 ·exact .inl hn
 ·refine .inr ⟨q,c,cur,hv,hbb,?_,r⟩
  rw[hc.blk q (uv hg) (fun e=>?_)]
  ·exact hg
  ·subst e;exact ht (jy hg hb)
def rtG(gr:List Nd)(T:Nat->Int):List Nd:=(List.range gr.length).map (fun i=>⟨T i,(nd gr i).ln⟩)
theorem D7(gr:List Nd)(T:Nat->Int):(rtG gr T).length=gr.length:=by simp[rtG]
theorem L6(gr:List Nd):rtG gr (fun x=>(nd gr x).ty)=gr:=by
 refine List.ext_getElem (D7 _ _) (fun i h1 h2=>?_);have:=vx h2;simp[rtG,this]
theorem Dq(hx:x<o.length):nd (yK gr o) x=⟨(nd gr (o.getD x 0)).ty,(nd gr (o.getD x 0)).ln.map (Yx o)⟩:=by simp[nd,yK,SZ,List.getD,hx]
def GrT(w:World)(lo hi:Nat)(A:Option Addr)(c:Nat)(gr:List Nd)(T:Nat->Int):Prop:=
 ∃ V:Nat->Value,Own w lo 80 2 A gr.length c (ndV (fun x=> .int .i64 (T x)) V gr.length)/\(∀ g∈aL A,g<hi)/\∀ x,x<gr.length->RowO w lo hi (V x) (nd gr x).ln
def Dis(V:Nat->Value)(n:Nat):Prop:=∀ x y,x<n->y<n->x≠y->∀ A m c A' m' c',V x= .slice A m c->V y= .slice A' m' c'->∀ g∈aL A,¬g∈aL A'
theorem Dis.congr{V':Nat->Value}{n:Nat}(h:Dis V n)(e:∀ x,x<n->V x=V' x):Dis V' n:=fun x y hx hy hne A m c A' m' c' h1 h2=>h x y hx hy hne A m c A' m' c' ((e x hx).trans h1) ((e y hy).trans h2)
theorem Dis.snoc{V:Nat->Value}{L:Nat->List (Int×Int)}{w:World}{lo bs k n c:Nat}{A:Option Addr}(h:Dis V k)(hr:∀ x,x<k->RowO w lo bs (V x) (L x))(hg:∀ g∈aL A,bs<=g):Dis (fun x=>if x=k then .slice A n c else V x) (k+1):=fun x y hx hy hne A1 m1 c1 A2 m2 c2 h1 h2 g hg1 a1=>by
 have far:∀ z,z<k->∀ A3 m3 c3,V z= .slice A3 m3 c3->∀ g∈aL A3,g<bs:=fun z hz A3 m3 c3 e g hg=>by
  obtain⟨A4,c4,e4,_,h4⟩:=hr z hz
  rw[e]at e4
  cases e4
  exact h4 g hg
 by_cases e:x=k
 ·simp only[e,if_true,Value.slice.injEq]at h1
  by_cases e2:y=k
  ·exact hne (by rw[e,e2])
  ·simp only[e2,if_false]at h2
   rw[<- h1.1]at hg1
   have:=far y oG _ _ _ h2 g a1
   have:=hg g hg1
   omega
 ·simp only[e,if_false]at h1
  by_cases e2:y=k
  ·simp only[e2,if_true,Value.slice.injEq]at h2
   rw[<- h2.1]at a1
   have:=far x oG _ _ _ h1 g hg1
   have:=hg g a1
   omega
  ·simp only[e2,if_false]at h2
   exact h x y oG oG hne _ _ _ _ _ _ h1 h2 g hg1 a1
def GrD(w:World)(lo hi:Nat)(A:Option Addr)(c:Nat)(gr:List Nd)(T:Nat->Int):Prop:=
 ∃ V:Nat->Value,Own w lo 80 2 A gr.length c (ndV (fun x=> .int .i64 (T x)) V gr.length)/\(∀ g∈aL A,g<hi)/\(∀ x,x<gr.length->RowO w lo hi (V x) (nd gr x).ln)/\Dis V gr.length
section
variable {w w':World} {lo hi c:Nat} {A:Option Addr} {gr:List Nd} {T:Nat->Int}
theorem GrD.grt(h:GrD w lo hi A c gr T):GrT w lo hi A c gr T:=by obtain⟨V,h1,h2,h3,_⟩:=h;exact⟨V,h1,h2,h3⟩
theorem GrD.mk(ho:Own w base 80 2 A m c (ndV f V m))(hm:gr.length=m)(hb:lo<=base)(hf:∀ x,x<m->f x= .int .i64 (T x))(hA:∀ g∈aL A,g<hi)(hbs:bs<=hi)(hr:∀ x,x<m->RowO w lo bs (V x) (nd gr x).ln)(hd:Dis V m):GrD w lo hi A c gr T:=by
 subst hm;refine⟨V,?_,hA,fun x hx=>(hr x hx).up hbs,hd⟩;rw[gX (f':=f) (h':=V) (fun x hx=>(hf x hx).symm) (fun _ _=>rfl)];exact ho.low hb
theorem GrT.nodes(h:GrT w lo hi A c gr T):NodesIn w A (rtG gr T):=by
 obtain⟨V,ho,_,hr⟩:=h;refine Ov (lo:=lo) (bs:=hi) ho (D7 gr T) (fun k hk=>?_) (fun k hk=>?_)
 ·simp[rtG]
 ·rw[D7]at hk
  have e:((rtG gr T)[k]'(by rw[D7];exact hk)).ln=(nd gr k).ln:=by simp[rtG]
  rw[e];exact hr k hk
theorem GrT.cap_le(h:GrT w lo hi A c gr T):gr.length<=c:=by obtain⟨V,ho,_⟩:=h;exact ho.cap_le
theorem GrT.congr(h:GrT w lo hi A c gr T){T':Nat->Int}(e:∀ i,i<gr.length->T i=T' i):GrT w lo hi A c gr T':=by
 obtain⟨V,ho,hA,hr⟩:=h;exact⟨V,by rw[gX (f':=fun x=> .int .i64 (T x)) (h':=V) (fun x hx=>by rw[e x hx]) (fun _ _=>rfl)];exact ho,hA,hr⟩
theorem GrT.tr{X:List Nat}(h:GrT w lo hi A c gr T)(hs:Same X w w')(hx:∀ g∈X,g<lo\/hi<=g):GrT w' lo hi A c gr T:=by
 obtain⟨V,ho,hA,hr⟩:=h;refine⟨V,ho.tr hs (fun g hg hm=>?_),hA,fun x hxl=>?_⟩
 ·have h1:=hx g hm
  have h2:=(ho.lt g hg).1;have h3:=hA g hg;omega
 ·obtain⟨A2,c2,e,h1,h2⟩:=hr x hxl
  refine⟨A2,c2,e,h1.tr hs (fun g hg hm=>?_),h2⟩;have h3:=hx g hm;have h4:=(h1.lt g hg).1;have h5:=h2 g hg;omega
theorem GrT.fr{w2:World}(h:GrT w lo hi A c gr T)(hf:FrSame lo w w2):GrT w2 lo hi A c gr T:=by
 obtain⟨V,ho,hA,hr⟩:=h;exact⟨V,ho.fr (ah _) hf,hA,fun x hx=>(hr x hx).fr hf⟩
theorem GrT.up{hi':Nat}(h:GrT w lo hi A c gr T)(hh:hi<=hi'):GrT w lo hi' A c gr T:=by
 obtain⟨V,ho,hA,hr⟩:=h;exact⟨V,ho,fun g hg=>nLL (hA g hg) hh,fun x hx=>(hr x hx).up hh⟩
theorem RowO.low{lo' bs:Nat}{v:Value}{xs:List (Int×Int)}(h:RowO w lo bs v xs)(hl:lo'<=lo):RowO w lo' bs v xs:=by
 obtain⟨A,c,e,h1,h2⟩:=h;exact⟨A,c,e,h1.low hl,h2⟩
theorem GrT.low{lo':Nat}(h:GrT w lo hi A c gr T)(hl:lo'<=lo):GrT w lo' hi A c gr T:=by
 obtain⟨V,ho,hA,hr⟩:=h;exact⟨V,ho.low hl,hA,fun x hx=>(hr x hx).low hl⟩
theorem GrT.mk(ho:Own w base 80 2 A m c (ndV f V m))(hm:gr.length=m)(hb:lo<=base)(hf:∀ x,x<m->f x= .int .i64 (T x))(hA:∀ g∈aL A,g<hi)(hbs:bs<=hi)(hr:∀ x,x<m->RowO w lo bs (V x) (nd gr x).ln):GrT w lo hi A c gr T:=by
 subst hm;refine⟨V,?_,hA,fun x hx=>(hr x hx).up hbs⟩;rw[gX (f':=f) (h':=V) (fun x hx=>(hf x hx).symm) (fun _ _=>rfl)];exact ho.low hb
theorem own_of{e:TypeId}{sz cap g:Nat}{cur:Array Value}{xs:List Value}(hb:Blk w g e cur)(a1:base<=g)(hk:k<=cap)(hm:cap<=9223372036854775807)(hs:cur.size=cap*sz)(hx:cur.toList.take (k*sz)=xs):Own w base e sz (some ⟨g,0,none⟩) k cap xs:=by
 have hle:k*sz<=cap*sz:=aV sz hk;subst hx;exact⟨by rw[List.length_take,Array.length_toList];omega,.inr ⟨g,cap,cur,rfl,a1,hb,hk,by simpa[maxLen]using hm,hs,rfl⟩⟩
theorem own_row2{b:Nat}{h:Nat->Value}(hb:Blk w b 80 (kz m f h))(hl:lo<=b)(hm:m<=1000000):Own w lo 80 2 (some ⟨b,0,none⟩) m m (ndV f h m):=by
 refine own_of hb hl (ah _) oG (uq m f h) ?_;refine List.ext_getElem? (fun j=>?_);by_cases hj:j<m*2
 ·have h2:j/2<m:=by omega
  rw[List.getElem?_take_of_lt hj,Array.getElem?_toList];rcases Nat.mod_two_eq_zero_or_one j with e|e
  ·have e2:j=j/2*2:=by omega
   have h3:=Xy (f:=f) (h:=h) h2;rw[show 0+j/2*2+0=j by omega]at h3;have h4:=(Q5 f h h2).1;rw[<- e2]at h4;rw[h3,h4]
  ·have e2:j=j/2*2+1:=by omega
   have h3:=ZX (f:=f) (h:=h) h2;rw[show 0+j/2*2+1=j by omega]at h3;have h4:=(Q5 f h h2).2;rw[<- e2]at h4;rw[h3,h4]
 ·rw[List.getElem?_eq_none (by rw[List.length_take];omega),List.getElem?_eq_none (by rw[Jw];omega)]
theorem ndV_set0{n:Nat}{v:Value}:(ndV f V n).set (0+k*2+0) v=ndV (fun x=>if x=k then v else f x) V n:=by
 refine List.ext_getElem? (fun j=>?_);by_cases hj:j<n*2
 ·have h2:j/2<n:=by omega
  rcases Nat.mod_two_eq_zero_or_one j with e|e
  ·have e2:j=j/2*2:=by omega
   by_cases hjk:j/2=k
   ·rw[show 0+k*2+0=j by omega,List.getElem?_set_self (by rw[Jw];exact hj)]
    have h3:=(Q5 (fun x=>if x=k then v else f x) V h2).1;rw[<- e2]at h3;rw[h3,if_pos hjk]
   ·rw[List.getElem?_set_ne oG]
    have h3:=(Q5 (fun x=>if x=k then v else f x) V h2).1;have h4:=(Q5 f V h2).1;rw[<- e2]at h3 h4;rw[h3,h4,if_neg hjk]
  ·have e2:j=j/2*2+1:=by omega
   rw[List.getElem?_set_ne oG];have h3:=(Q5 (fun x=>if x=k then v else f x) V h2).2;have h4:=(Q5 f V h2).2;rw[<- e2]at h3 h4;rw[h3,h4]
 ·rw[List.getElem?_eq_none (by rw[List.length_set,Jw];omega),List.getElem?_eq_none (by rw[Jw];omega)]
theorem GrT.open_{k:Nat}(h:GrT w lo hi A c gr T)(hk:k<gr.length):∃(V:Nat->Value) (g:Nat) (cur:Array Value),A=some ⟨g,0,none⟩/\lo<=g/\g<hi/\Blk w g 80 cur/\gr.length*2<=cur.size/\(∀ x,x<gr.length->cur[0+x*2+0]? =some (.int .i64 (T x)))/\(∀ x,x<gr.length->cur[0+x*2+1]? =some (V x))/\(∀ x,x<gr.length->RowO w lo hi (V x) (nd gr x).ln)/\
  ∀ w1 v,Blk w1 g 80 (cur.setIfInBounds (0+k*2+0) (.int .i64 v))->(∀ x,x<gr.length->RowO w1 lo hi (V x) (nd gr x).ln)->GrT w1 lo hi (some ⟨g,0,none⟩) c gr (fun x=>if x=k then v else T x):=by
 obtain⟨V,ho,hA,hr⟩:=h;obtain⟨g,cur,rfl,hg,hb,hsz,hrd,hcl⟩:=ho.open_ oG;refine⟨V,g,cur,rfl,hg,hA g (aq.2 rfl),hb,hsz,fun x hx=>?_,fun x hx=>?_,hr,fun w1 v hw hr2=>⟨V,?_,hA,hr2⟩⟩
 ·rw[hrd _ oG,show 0+x*2+0=x*2 by omega];exact(Q5 _ _ hx).1
 ·rw[hrd _ oG,show 0+x*2+1=x*2+1 by omega];exact(Q5 _ _ hx).2
 ·have h1:=hcl w1 _ _ hw
  rw[ndV_set0,gX (f':=fun x=> .int .i64 (if x=k then v else T x)) (h':=V) (fun x _=>by by_cases e:x=k<;>simp[e]) (fun _ _=>rfl)]at h1;exact h1
end
end
theorem in80:(prog.info? 80).map (fun i=>(i.zero,i.size,i.bytes))=some (some (.agg #[.int .i64 0,.slice none 0 0]),2,32):=by kernel_rfl
theorem in83:(prog.info? 83).map (fun i=>(i.zero,i.size,i.bytes))=some (some (.agg #[.int .i64 0,.int .i64 0]),2,16):=by kernel_rfl
theorem sz137:(prog.info? 137).map (·.size)=some 1:=by kernel_rfl
theorem ze137:(prog.info? 137).map (·.zero)=some (some (.nilFunc)):=by kernel_rfl
theorem H0:(prog.info? 30).map (·.zero)=some (some (.agg #[.slice none 0 0])):=by kernel_rfl
theorem ze59:(prog.info? 59).map (·.zero)=some (some (.slice none 0 0)):=by kernel_rfl
set_option maxHeartbeats 4000000 in
theorem from4_any(G:Option Addr)(cg nf:Nat)(gr:List Nd)(r:Nat)(w:World)(hG:NodesIn w G gr)(hk:N1 nf gr)(hnf:nf<=1000)(hr:r<gr.length):Calls prog 62 #[.agg #[.slice G gr.length cg],.int .i64 r] w fun e w'=>(∃ o A,DL gr [r] [] o/\OOk gr.length o/\e= .returned (.agg #[.slice A o.length o.length])/\GrD w' w.heap.size w'.heap.size A o.length (yK gr o) (fun x=>(nd (yK gr o) x).ty))/\Bel w w':=by
 have hn6:=hk.le;have hrg:=IJ hk;refine enT func62 ntmps62 rfl rfl fun hB=>?_;refine zn2 ?_;refine xy (v:= .agg #[_]) (cs:=#[_]) rfl rfl (fun b2 w1 an s1 hr=>?_);have lo2:=nLT (Bel.size hB) hr;clear hr;refine qW (cs:=#[.slice none 0 0]) H0 rfl (fun b4 w2 ac s2 hr=>?_);have:=nLL an.lt hr;have lo4:=nLT (Bel.size hB.u) hr;clear hr;refine zn7 ?_;refine XV (m:=gr.length) U59 in3 rfl rfl rfl oG oG (fun bq w3 a1 s3 hr=>?_);have:=nLL an.u.lt hr;have:=nLL ac.lt hr;have c5:=nLT (Bel.size hB.u) hr;clear hr;refine qW (cs:=#[.slice none 0 0]) ze59 rfl (fun b5 w4 a5 s4 hr=>?_);have:=nLL an.u.lt hr;have:=nLL ac.u.lt hr;have:=nLL a1.lt hr;have lo5:=nLT (Bel.size hB.u) hr;clear hr;refine xQ (v:= .slice _ _ _) a5 rfl rfl P8 (by first|decide|simp) rfl rfl (fun w5 hq s5=>?_);replace a5:=hq;refine jq ?_;refine qx (rg [6] 20 7) (fun m g w'=>∃ k:Nat,k<=gr.length/\m=gr.length-k/\g 20= .int .i64 k/\Bel w w'/\Blk w' b2 30 #[.slice G gr.length cg]/\Blk w' b4 30 #[.slice none 0 0]/\Blk w' b5 59 #[.slice (some ⟨bq,0,none⟩) gr.length gr.length]/\Blk w' bq 3 (row gr.length (fun x=> .int .i64 (if x<k then -1 else 0)))) (gr.length) ?_ (fun m g3 w6 hI=>?_)
 ·refine⟨0,ag _,rfl,rfl,hB.u,an.u,ac.u,a5,?_⟩;replace a1:=(a1.tr0 s4).tr1 s5 oG;rw[xJ (g':=fun _=> .int .i64 0) (fun x _=>by simp)];exact a1
 obtain⟨k,hkk,hm,h20,hB,an,ac,a5,a1⟩:=hI;refine zX 20 _ h20 nu (zn6 ?_);refine zQ rfl (fun c21=>?_) (fun c21=>?_)
 ·have bw:k<gr.length:=by omega
  refine ZW ?_;refine xQ (v:= .int _ _) a1 rfl rfl qk (by rw[row_size];omega) rfl kv (fun w7 hq s6=>?_);replace a1:=hq
  rw[xJ (g':=fun x=> .int .i64 (if x<k+1 then -1 else 0)) (fun x _=>by
    by_cases e:x=k
    · subst e;simp
    · have e1:(x<k+1)↔(x<k):=by omega
      simp[e,e1])]at a1
  refine zn7 ?_;refine x8 (gr.length-(k+1)) oG agA ?_;exact⟨k+1,by omega,rfl,rfl,hB.u,an.u,ac.u,a5.u,a1⟩
 have cu:k=gr.length:=by omega
 rw[cu,xJ (g':=fun x=> .int .i64 (kV [] x)) (fun x hx=>by simp[hx,LQ])]at a1;refine zn7 ?_;refine qW (cs:=#[.slice none 0 0]) ze59 rfl (fun b7 w8 bd s7 hr=>?_);have:=nLL an.lt hr;have:=nLL ac.lt hr;have:=nLL a1.lt hr;have:=nLL a5.lt hr;have lo7:=nLT (Bel.size hB) hr;clear hr;refine zn4 ?_;refine qW (cs:=#[.nilFunc]) ze137 rfl (fun b8 w9 cf s8 hr=>?_);have:=nLL an.u.lt hr;have:=nLL ac.u.lt hr;have:=nLL a1.u.lt hr;have:=nLL a5.u.lt hr;have:=nLL bd.lt hr;have lo8:=nLT (Bel.size hB.u) hr;clear hr;refine zn4 ?_;refine wl (r_mf rfl) ?_;refine xQ (v:= .func _ _ _) cf rfl rfl sz137 (by first|decide|simp) rfl rfl (fun w10 hq s9=>?_);replace cf:=hq;refine zn3 ?_;obtain⟨base,b1⟩:∃ b,b=w10.heap.size:=⟨_,rfl⟩
 replace hB:=(hB.tr0 (s7.t s8)).tr1 s9 lo8;have hlo:w.heap.size<=base:=by rw[b1];exact Bel.size hB
 have hbs:base<=w10.heap.size:=ay b1;replace a5:=(a5.tr0 (s7.t s8)).tr1 s9 oG;have lt5:b5<base:=by rw[b1];exact a5.lt
 replace bd:=(bd.tr0 s8).tr1 s9 oG;have lt7:b7<base:=by rw[b1];exact bd.lt
 replace an:=(an.tr0 (s7.t s8)).tr1 s9 oG;have lt2:b2<base:=by rw[b1];exact an.lt
 replace ac:=(ac.tr0 (s7.t s8)).tr1 s9 oG;have lt4:b4<base:=by rw[b1];exact ac.lt
 have lt8:b8<base:=by rw[b1];exact cf.lt
 replace a1:=(a1.tr0 (s7.t s8)).tr1 s9 oG;have cn:bq<base:=by rw[b1];exact a1.lt
 refine zn3 ?_;refine yy rfl kR (visit_any (w0:=w) (G:=G) (cg:=cg) (bP:=b5) (bQ:=b7) (bG:=b2) (bV:=b8) (bn:=bq) (base:=base) hG hk hlo lo5 lo7 lo2 lo8 c5 lt5 lt7 lt2 lt8 cn oG oG oG oG oG oG oG gr.length [] none 0 _ r (Dj _ _) hr hB hbs (OOk.nil _) a5 bd an cf a1 (Own.nil _ _ _ _)) rfl rfl (fun e' w11 hr=>?_);obtain⟨rfl,o,AO,bx,hD,cw,b3,c8,hC⟩:=hr;replace hB:=hB.chg hC hlo (by simp[lo7,c5])
 replace an := an.chg hC lt2 (by
   have:b2 ≠ b7 := by omega
   have:b2≠bq:=by omega
   simp[*])
 replace ac := ac.chg hC lt4 (by
   have:b4 ≠ b7 := by omega
   have:b4≠bq:=by omega
   simp[*])
 replace a5 := a5.chg hC lt5 (by
   have:b5 ≠ b7 := by omega
   have:b5≠bq:=by omega
   simp[*])
 replace bd:=cw;replace a1:=c8;obtain⟨cq,_,_⟩:=hD.ok hrg (fun i hi=>by rw[List.mem_singleton.1 hi];exact hr) (OOk.nil _);have hol:=cq.cnt;refine⟨_,rfl,?_⟩;refine zn6 ?_;refine H2 (m:=o.length) U28 in80 rfl rfl oG oG (fun br w12 a3 c1 hr=>?_);have:=nLL an.lt hr;have:=nLL ac.lt hr;have:=nLL a1.lt hr;have:=nLL a5.lt hr;have:=nLL bd.lt hr;have b6:=fun g hg=>nLL (b3.lt g hg).2 hr
 have co:=nLT (Bel.size hB) hr;clear hr;refine wl (YQ (v0:= .slice _ _ _) (fun v0=>#[v0]) rfl kR) ?_;refine yx (cs:=#[.slice none 0 0]) H0 rfl (fun _=>rfl) (fun _=>rfl) QQ rfl qz (fun b9 w14 be c0 hr=>?_);have:=nLL a3.lt hr;clear hr;refine zn4 ?_;replace hB:=hB.tr0 (c1.t c0);replace an:=an.tr0 (c1.t c0);replace ac:=ac.tr0 (c1.t c0);replace a1:=a1.tr0 (c1.t c0);replace a5:=a5.tr0 (c1.t c0);replace bd:=bd.tr0 (c1.t c0);replace b3:=b3.tr0 (c1.t c0);replace a3:=a3.tr0 c0;replace a3:Blk w14 br 80 (kz o.length (fun _=> .int .i64 0) (fun _=> .slice none 0 0)):=by
   have h:=a3;rw[show (Value.agg #[.int .i64 0,.slice none 0 0]).cells= #[.int .i64 0,.slice none 0 0]from rfl,M2]at h;exact h
 refine zn7 ?_;refine qx (rg [10,11,13] 37 50) (fun m g w'=>∃(k:Nat) (V:Nat->Value),k<=o.length/\m=o.length-k/\g 37= .int .i64 k/\Bel w w'/\Blk w' b2 30 #[.slice G gr.length cg]/\Blk w' b4 30 #[.slice none 0 0]/\Blk w' b5 59 #[.slice (some ⟨bq,0,none⟩) gr.length gr.length]/\Blk w' b7 59 #[.slice AO o.length bx]/\Blk w' bq 3 (row gr.length (fun x=> .int .i64 (kV o x)))/\Blk w' b9 30 #[.slice (some ⟨br,0,none⟩) o.length o.length]/\Own w' base 3 1 AO o.length bx (oV o)/\Blk w' br 80 (kz o.length (fun x=>if x<k then .int .i64 (nd gr (o.getD x 0)).ty else .int .i64 0) (fun x=>if x<k then V x else .slice none 0 0))/\(∀ x,x<k->RowO w' w.heap.size w'.heap.size (V x) ((nd gr (o.getD x 0)).ln.map (Yx o)))/\Dis V k) (o.length) ?_ (fun m g13 cj hI=>?_)
 ·refine⟨0,fun _=> .slice none 0 0,ag _,rfl,rfl,hB,an,ac,a5,bd,a1,be,b3,?_,fun x hx=>by omega,fun x y hx=>by omega⟩;rw[oX (f':=fun _=> .int .i64 0) (h':=fun _=> .slice none 0 0) (fun x _=>by simp) (fun x _=>by simp)];exact a3
 obtain⟨k,V,hkk,hm,h37,hB,an,ac,a5,bd,a1,be,b3,a3,a2,c4⟩:=hI;obtain⟨bs,bc⟩:∃ b,b=cj.heap.size:=⟨_,rfl⟩
 rw[<- bc]at a2;have bb:bs<=cj.heap.size:=ay bc;have c6:w.heap.size<=bs:=by rw[bc];exact Bel.size hB
 have lu2:b2<bs:=by rw[bc];exact an.lt
 have lu4:b4<bs:=by rw[bc];exact ac.lt
 have lu5:b5<bs:=by rw[bc];exact a5.lt
 have lu7:b7<bs:=by rw[bc];exact bd.lt
 have lu17:bq<bs:=by rw[bc];exact a1.lt
 have lu9:b9<bs:=by rw[bc];exact be.lt
 have lu33:br<bs:=by rw[bc];exact a3.lt
 have luo:∀ g∈aL AO,g<bs:=fun g hg=>by rw[bc];exact(b3.lt g hg).2
 refine zX 37 _ h37 nu (zn6 ?_);refine zQ rfl (fun c38=>?_) (fun c38=>?_)
 ·have bw:k<o.length:=by omega
  obtain⟨i,cr,ao⟩:∃ i:Nat,o[k]'bw=i/\i<gr.length:=⟨_,rfl,cq.lt _ (am bw)⟩
  have hgd:o.getD k 0=i:=by simp[List.getD,bw,cr]
  have hnd:=vx ao
  obtain⟨q,rfl,hqb,hql,hqc⟩:=b3.cell (by
    intro h0;have:=congrArg List.length h0;simp[oV]at this;rw[this]at bw
    simp at bw)
  have hz:cj.cell? ⟨q,0+k*1,none⟩=some (.int .i64 (i:Int)):=by
    have:=hqc k (.int .i64 (i:Int)) (by simp[oV,bw,cr])
    simpa using this
  obtain⟨nb,no,LA,lc,rfl,hnb,hnr,hln⟩:=hG.at_ (Below.refl _ _:Bel w w) ao;have hmx:=hln.1;unfold vX at hmx;have hfw:=hk.few i ao;refine zn8 ?_;refine wl (qw (v:= .int _ _) U3 rfl rfl hz) (zn5 ?_);refine X1 11 kR kR (fun w16 ce=>?_);replace a2:=qj a2 ce;replace bb:=zV bb ce;refine zn6 ?_;refine ws (x9 (i:=i) U28 o6 rfl rfl ao rfl) (zn1 ?_);refine ws (qw (v:= .int _ _) U3 rfl rfl (hB.u.cell hnb (hnr 0 _ rfl))) (zn2 ?_);refine QY ?_;replace a3:=a3.tr0 ce;refine xQ (v:= .int _ _) a3 rfl rfl qk (by rw[uq];show 0+k*2+0<o.length*2;omega) rfl VZ (fun w17 hq cm=>?_);replace b3:=b3.tr0 ce;replace b3:=b3.tr1 cm (neL b6);replace a2:=qj a2 cm;replace bb:=zV bb cm;replace a3:=hq
  rw[oX (f':=(fun x=>if x<k+1 then .int .i64 (nd gr (o.getD x 0)).ty else .int .i64 0)) (h':=fun x=>if x=k then .slice none 0 0 else if x<k then V x else .slice none 0 0) (fun x _=>by
    by_cases e:x=k
    · subst e;simp[List.getD,bw,cr,hnd]
    · have e1:(x<k+1)↔(x<k):=by omega
      simp[e,e1]) (fun x _=>by
    by_cases e:x=k
    · subst e;simp
    · simp[e])]at a3
  refine zn7 ?_;refine wl (x9 (i:=i) U28 o6 rfl rfl ao rfl) (zn1 ?_);refine wl (qw (v:= .slice _ _ _) U78 rfl rfl (hB.u.cell hnb (hnr 1 _ rfl))) (zn5 ?_);refine qx (rg [13] 60 26) (fun m g w'=>∃(j:Nat) (A5:Option Addr) (bh:Nat),j<=(gr[i]'ao).ln.length/\m=(gr[i]'ao).ln.length-j/\g 60= .int .i64 j/\Bel w w'/\Blk w' b2 30 #[.slice (some ⟨nb,no,none⟩) gr.length cg]/\Blk w' b4 30 #[.slice none 0 0]/\Blk w' b5 59 #[.slice (some ⟨bq,0,none⟩) gr.length gr.length]/\Blk w' b7 59 #[.slice (some ⟨q,0,none⟩) o.length bx]/\Blk w' bq 3 (row gr.length (fun x=> .int .i64 (kV o x)))/\Blk w' b9 30 #[.slice (some ⟨br,0,none⟩) o.length o.length]/\Own w' base 3 1 (some ⟨q,0,none⟩) o.length bx (oV o)/\Blk w' br 80 (kz o.length (fun x=>if x<k+1 then .int .i64 (nd gr (o.getD x 0)).ty else .int .i64 0) (fun x=>if x=k then .slice A5 j bh else if x<k then V x else .slice none 0 0))/\(∀ x,x<k->RowO w' w.heap.size bs (V x) ((nd gr (o.getD x 0)).ln.map (Yx o)))/\bs<=w'.heap.size/\Own w' bs 83 2 A5 j bh (lnV (((gr[i]'ao).ln.take j).map (Yx o)))) ((gr[i]'ao).ln.length) ?_ (fun m g17 w18 hI=>?_)
  ·exact⟨0,none,0,ag _,rfl,rfl,hB.u,an.u,ac.u,a5.u,bd.u,a1.u,be.u,b3,a3,a2,bb,Own.nil _ _ _ _⟩
  obtain⟨j,A5,bh,hj,hmj,h60,hB,an,ac,a5,bd,a1,be,b3,a3,a2,bb,ab⟩:=hI;refine zX 60 _ h60 nu (zn6 ?_);refine zQ rfl (fun c61=>?_) (fun c61=>?_)
  ·have bu:j<(gr[i]'ao).ln.length:=by omega
   obtain⟨lb,lof,rfl,hlb,hlr⟩:=hln.at_ hB bu;obtain⟨t,ht,htl⟩:∃ t:Nat,((gr[i]'ao).ln[j]'bu).2=(t:Int)/\t<gr.length:=by
     have h1:=hk.ln i ao _ (am bu);exact⟨(((gr[i]'ao).ln[j]'bu).2).toNat,by omega,by omega⟩
   refine zn7 ?_;refine wl (qy U83 rfl rfl hlr uW) ?_;refine qW (cs:=#[.int .i64 0,.int .i64 0]) K4 rfl (fun b13 w19 bf bj hr=>?_);have:=nLL an.lt hr;have:=nLL ac.lt hr;have:=nLL a1.lt hr;have:=nLL a5.lt hr;have:=nLL bd.lt hr;have:=nLL a3.lt hr;have:=nLL be.lt hr;have c2:=(nLT bb hr)
   have bk:=fun g hg=>nLL (b3.lt g hg).2 hr
   have a9:=fun g hg=>nLL (ab.lt g hg).2 hr
   have cp:=nLT (Bel.size hB) hr;replace a2:=qj a2 bj;replace bb:=zV bb bj;clear hr;refine zZ bf rfl rfl uW rfl qz (fun w20 hq bi=>?_);replace a2:=qj a2 bi;replace bb:=zV bb bi;replace b3:=b3.tr0 bj;replace b3:=b3.tr1 bi (neL bk);replace ab:=ab.tr0 bj;replace ab:=ab.tr1 bi (neL a9);replace bf:=hq;refine zJ (e_S ?_);rw[ht]at bf;have zo:=fun g hg=>(ab.lt g hg).2
   have c7:(kz o.length (fun x=>if x<k+1 then .int .i64 (nd gr (o.getD x 0)).ty else .int .i64 0) (fun x=>if x=k then .slice A5 j bh else if x<k then V x else .slice none 0 0))[0+k*2+1]? =some (.slice A5 j bh):=by rw[ZX bw];simp
   replace hB:=(hB.tr0 bj).tr1 bi cp;have hsz:=Bel.size hB;refine J1 21 (rg [] 64 21) (aL A5) 18 (fun ix v wv=>match ix with|0=>v= .pointer (some ⟨b9,0,none⟩)|1=>v= .slice (some ⟨br,0,none⟩) o.length o.length|2=>v= .int .i64 k|3=>v= .pointer (some ⟨b9,0,none⟩)|4=>v= .slice (some ⟨br,0,none⟩) o.length o.length|5=>v= .int .i64 k|6=>v= .pointer (some ⟨br,0+k*2,none⟩)|7=>v= .pointer (some ⟨br,0+k*2+1,none⟩)|8=>v= .slice A5 j bh|9=>v= .pointer (some ⟨b13,0,none⟩)|10=>v= .int .i64 ((gr[i]'ao).ln[j]'bu).1|11=>v= .slice (some ⟨bq,0,none⟩) gr.length gr.length|12=>v= .pointer (some ⟨b13,1,none⟩)|13=>v= .int .i64 (t:Nat)|14=>v= .pointer (some ⟨bq,0+t*1,none⟩)|15=>v= .int .i64 (kV o t)|16=>v= .agg #[.int .i64 ((gr[i]'ao).ln[j]'bu).1,.int .i64 (kV o t)]|17=>∃ b,v= .slice (some ⟨b,0,none⟩) 1 1/\w20.heap.size<=b/\Blk wv b 83 #[.int .i64 ((gr[i]'ao).ln[j]'bu).1,.int .i64 (kV o t)]|18=>∃ g cap,v= .slice (some ⟨g,0,none⟩) (j+1) cap/\Own wv bs 83 2 (some ⟨g,0,none⟩) (j+1) cap (lnV (((gr[i]'ao).ln.take j).map (Yx o))++[.int .i64 ((gr[i]'ao).ln[j]'bu).1,.int .i64 (kV o t)])|19=>v= .pointer (some ⟨br,0+k*2,none⟩)|20=>v= .pointer (some ⟨br,0+k*2+1,none⟩)|_=>True) (fun _=>True) kR kR ?_ (fun _ _ _ _=>trivial) ?_ ?_ dE ?_
   ·intro ix v wv wv2 h s16
    match ix,h with
    | 0,h=>exact h
    | 1,h=>exact h
    | 2,h=>exact h
    | 3,h=>exact h
    | 4,h=>exact h
    | 5,h=>exact h
    | 6,h=>exact h
    | 7,h=>exact h
    | 8,h=>exact h
    | 9,h=>exact h
    | 10,h=>exact h
    | 11,h=>exact h
    | 12,h=>exact h
    | 13,h=>exact h
    | 14,h=>exact h
    | 15,h=>exact h
    | 16,h=>exact h
    | 17,h=>
     obtain⟨cb,ca,bv,bo⟩:=h;exact⟨cb,ca,bv,bo.tr0 s16⟩
    | 18,h=>
     obtain⟨c9,bg,cx,bm⟩:=h;exact⟨c9,bg,cx,bm.tr0 s16⟩
    | 19,h=>exact h
    | 20,h=>exact h
    | _+21,h=>exact trivial
   ·intro ix o cv c3 a4 gg wx bz hd;replace be:=(be.tr0 bj).tr1 bi oG
    match ix,cv,c3,a4 with
    | 0,_,_,a4=>
     cases sI a4;refine qZ (u6 U30 sz28 dE rfl rfl rfl) ⟨Same.refl _ _,?_⟩;exact rfl
    | 1,_,_,a4=>
     cases sI a4;replace be:=be.ta bz ab;refine a7 64 (hd 0 a8) ?_;refine qZ (qw (v:= .slice _ _ _) U28 rfl rfl (be.cell rfl)) ⟨Same.refl _ _,?_⟩;exact rfl
    | 2,_,_,a4=>
     cases sI a4;refine qZ (xz (v:= .int _ _) rfl) ⟨Same.refl _ _,?_⟩;exact rfl
    | 3,_,_,a4=>
     cases sI a4;refine qZ (u6 U30 sz28 dE rfl rfl rfl) ⟨Same.refl _ _,?_⟩;exact rfl
    | 4,_,_,a4=>
     cases sI a4;replace be:=be.ta bz ab;refine a7 67 (hd 3 a8) ?_;refine qZ (qw (v:= .slice _ _ _) U28 rfl rfl (be.cell rfl)) ⟨Same.refl _ _,?_⟩;exact rfl
    | 5,_,_,a4=>
     cases sI a4;refine qZ (xz (v:= .int _ _) rfl) ⟨Same.refl _ _,?_⟩;exact rfl
    | 6,_,_,a4=>
     cases sI a4;refine a7 68 (hd 4 a8) (a7 69 (hd 5 a8) ?_);refine qZ (x9 (i:=k) U28 o6 rfl rfl oG rfl) ⟨Same.refl _ _,?_⟩;exact rfl
    | 7,_,_,a4=>
     cases sI a4;refine a7 70 (hd 6 a8) ?_;refine qZ (u6 U80 BW dE rfl rfl rfl) ⟨Same.refl _ _,?_⟩;exact rfl
    | 8,_,_,a4=>
     cases sI a4;replace a3:=(a3.tr0 bj).tr1 bi oG;replace a3:=a3.ta bz ab;refine a7 71 (hd 7 a8) ?_;refine qZ (qw (v:= .slice _ _ _) U78 rfl rfl (a3.cell c7)) ⟨Same.refl _ _,?_⟩;exact rfl
    | 9,_,_,a4=>
     cases sI a4;refine qZ (u6 U83 qk dE rfl rfl rfl) ⟨Same.refl _ _,?_⟩;exact rfl
    | 10,_,_,a4=>
     cases sI a4;replace bf:=bf.tb bz (neL a9);refine a7 73 (hd 9 a8) ?_;refine qZ (qw (v:= .int _ _) U3 rfl rfl (bf.cell rfl)) ⟨Same.refl _ _,?_⟩;exact rfl
    | 11,_,_,a4=>
     cases sI a4;replace a5:=(a5.tr0 bj).tr1 bi oG;replace a5:=a5.ta bz ab;refine qZ (qw (v:= .slice _ _ _) U59 rfl rfl (a5.cell rfl)) ⟨Same.refl _ _,?_⟩;exact rfl
    | 12,_,_,a4=>
     cases sI a4;refine qZ (u6 U83 qk dE rfl rfl rfl) ⟨Same.refl _ _,?_⟩;exact rfl
    | 13,_,_,a4=>
     cases sI a4;replace bf:=bf.tb bz (neL a9);refine a7 76 (hd 12 a8) ?_;refine qZ (qw (v:= .int _ _) U3 rfl rfl (bf.cell rfl)) ⟨Same.refl _ _,?_⟩;exact rfl
    | 14,_,_,a4=>
     cases sI a4;refine a7 75 (hd 11 a8) (a7 77 (hd 13 a8) ?_);refine qZ (x9 (i:=t) U59 qk rfl rfl htl rfl) ⟨Same.refl _ _,?_⟩;exact rfl
    | 15,_,_,a4=>
     cases sI a4;replace a1:=(a1.tr0 bj).tr1 bi oG;replace a1:=a1.ta bz ab;refine a7 78 (hd 14 a8) ?_;refine qZ (qw (v:= .int _ _) U3 rfl rfl (a1.cell (vW htl))) ⟨Same.refl _ _,?_⟩;exact rfl
    | 16,_,_,a4=>
     cases sI a4;refine a7 74 (hd 10 a8) (a7 79 (hd 15 a8) ?_);refine qZ (vw (v0:= .int _ _) (v1:= .int _ _) (fun v0 v1=>#[v0,v1]) rfl rfl kR) ⟨Same.refl _ _,?_⟩;exact rfl
    | 17,_,_,a4=>
     cases sI a4;have hs0:=bz;refine a7 80 (hd 16 a8) ?_;refine jK (fun ops Q K=>?_);refine qV (cs:=#[_,_]) [(0,.agg _)] rfl U78 uW K4 dE dE kR rfl (fun cb w21 bo s18 hr=>?_);exact K _ _ ⟨s18,⟨_,rfl,nLT hs0.size hr,bo⟩⟩
    | 18,_,c3,_=>exact absurd rfl c3
    | 19,_,_,a4=>
     cases sI a4;refine a7 65 (hd 1 a8) (a7 66 (hd 2 a8) ?_);refine qZ (x9 (i:=k) U28 o6 rfl rfl oG rfl) ⟨Same.refl _ _,?_⟩;exact rfl
    | 20,_,_,a4=>
     cases sI a4;refine a7 83 (hd 19 a8) ?_;refine qZ (u6 U80 BW dE rfl rfl rfl) ⟨Same.refl _ _,?_⟩;exact rfl
    | _+21,cv,_,_=>exact absurd cv oG
   ·intro o a4 gg wx ck hd;cases sI a4;replace a2:=qj a2 ck;replace bb:=zV bb ck;obtain⟨cb,ca,bv,bo⟩:=hd 17 (zk kR);refine a7 72 (hd 8 a8) (zq 81 _ ca nu ?_);refine jK (fun ops Q K=>?_);replace ab:=ab.tr0 ck;refine j7 U78 in83 rfl dE ab bo rfl rfl rfl qz dE oG oG bb (fun c9 bg w2 bm hs2 hg82=>?_);refine K _ _ ⟨hs2,⟨_,_,rfl,bm⟩,trivial,fun kx v c3 h=>?_⟩
    match kx,c3,h with
    | 0,_,h=>exact h
    | 1,_,h=>exact h
    | 2,_,h=>exact h
    | 3,_,h=>exact h
    | 4,_,h=>exact h
    | 5,_,h=>exact h
    | 6,_,h=>exact h
    | 7,_,h=>exact h
    | 8,_,h=>exact h
    | 9,_,h=>exact h
    | 10,_,h=>exact h
    | 11,_,h=>exact h
    | 12,_,h=>exact h
    | 13,_,h=>exact h
    | 14,_,h=>exact h
    | 15,_,h=>exact h
    | 16,_,h=>exact h
    | 17,_,h=>
     obtain⟨cb,ca,bv,bo⟩:=h;exact⟨cb,ca,bv,bo.tr hs2 (fun hx=>by have:=zo _ hx;omega)⟩
    | 18,c3,_=>exact absurd rfl c3
    | 19,_,h=>exact h
    | 20,_,h=>exact h
    | _+21,_,_=>exact trivial
   intro gg w22 bt _ hR;replace hB:=hB.tr bt (fun g hg=>nLT c6 (ab.lt g hg).1);replace an:=(an.tr0 bj).tr1 bi oG;replace an:=an.ta bt ab;replace ac:=(ac.tr0 bj).tr1 bi oG;replace ac:=ac.ta bt ab;replace a1:=(a1.tr0 bj).tr1 bi oG;replace a1:=a1.ta bt ab;replace a5:=(a5.tr0 bj).tr1 bi oG;replace a5:=a5.ta bt ab;replace bd:=(bd.tr0 bj).tr1 bi oG;replace bd:=bd.ta bt ab;replace a3:=(a3.tr0 bj).tr1 bi oG;replace a3:=a3.ta bt ab;replace be:=(be.tr0 bj).tr1 bi oG;replace be:=be.ta bt ab;replace a2:=fun x hx=>(a2 x hx).tr bt (fun g hg=> .inl ((ab).lt g hg).1)
   replace bb:=zV bb bt;replace b3:=b3.tr bt (fun g hg hx=>by have:=(ab.lt _ hx).1;(try have:=luo g hg);omega);obtain⟨c9,bg,cx,bm⟩:=hR 18 dE;replace bm:Own w22 bs 83 2 (some ⟨c9,0,none⟩) (j+1) bg (lnV (((gr[i]'ao).ln.take (j+1)).map (Yx o))):=by
     rw[List.take_succ_eq_append_getElem bu,List.map_append,List.map_cons,List.map_nil,<- E8];have e:Yx o ((gr[i]'ao).ln[j]'bu)=(((gr[i]'ao).ln[j]'bu).1,kV o t):=by simp[Yx,ht]
     rw[e];exact bm
   have ab:=bm;refine xj 82 _ cx nu (xj 84 _ (hR 20 dE) nu ?_);refine xQ (v:= .slice _ _ _) a3 rfl rfl BW (by rw[uq];show 0+k*2+1<o.length*2;omega) rfl M1 (fun w23 hq cd=>?_);replace a2:=qj a2 cd;replace bb:=zV bb cd;replace b3:=b3.tr1 cd (neL b6);replace ab:=ab.tq cd;replace a3:=hq
   rw[oX (f':=(fun x=>if x<k+1 then .int .i64 (nd gr (o.getD x 0)).ty else .int .i64 0)) (h':=fun x=>if x=k then .slice (some ⟨c9,0,none⟩) (j+1) bg else if x<k then V x else .slice none 0 0) (fun x _=>rfl) (fun x _=>by
     by_cases e:x=k
     · subst e;simp
     · simp[e])]at a3
   refine zn7 ?_;refine x8 ((gr[i]'ao).ln.length-(j+1)) oG agA ?_;exact⟨j+1,_,_,by omega,rfl,rfl,hB.u,an.u,ac.u,a5.u,bd.u,a1.u,be.u,b3,a3,a2,bb,ab⟩
  have hjx:j=(gr[i]'ao).ln.length:=by omega
  subst hjx;refine yW ?_;refine x8 (o.length-(k+1)) oG agA ?_;refine⟨k+1,fun x=>if x=k then .slice A5 (gr[i]'ao).ln.length bh else V x,by omega,rfl,rfl,hB,an,ac,a5,bd,a1,be,b3,?_,fun x hx=>?_,c4.snoc a2 (fun g hg=>(ab.lt g hg).1)⟩
  · rw[oX (f':=(fun x=>if x<k+1 then .int .i64 (nd gr (o.getD x 0)).ty else .int .i64 0)) (h':=(fun x=>if x<k+1 then (if x=k then .slice A5 (gr[i]'ao).ln.length bh else V x)else .slice none 0 0)) (fun x _=>rfl) (fun x _=>by
      by_cases e:x=k
      · subst e;simp
      · have e1:(x<k+1)↔(x<k):=by omega
        simp[e,e1])]at a3
    exact a3
  · by_cases e:x=k
    · subst e
      simp only[if_true]
      have h:=RowO.of (lo:=w.heap.size) (xs:=(gr[i]'ao).ln.map (Yx o)) c6 (by
        rw[List.take_length]at ab
        rw[List.length_map];exact ab)
      rw[List.length_map]at h;rw[hgd,hnd];exact h
    · simp only[if_neg e]
      exact(a2 x oG).up bb
 have cu:k=o.length:=by omega
 rw[cu]at a3 a2 c4;refine zn8 ?_;refine zZ ac rfl rfl QQ rfl qz (fun w24 hq cc=>?_);replace a2:=qj a2 cc;replace bb:=zV bb cc;replace ac:=hq;refine zn3 ?_;refine xK (.inl rfl) rfl (zW U30 rfl rfl ac.range0 QQ) ?_;have hcl:(yK gr o).length=o.length:=by simp[yK]
 replace hB:=hB.tr1 cc lo4;replace a3:=a3.tr1 cc oG;refine⟨⟨o,_,hD,cq,rfl,GrD.mk (own_row2 a3 co oG) hcl (ah _) (fun x hx=>?_) (fun g hg=>?_) bb (fun x hx=>?_) (c4.congr (fun x hx=>by simp[hx]))⟩,hB⟩
 · rw[Dq hx];simp[hx]
 · rw[List.mem_singleton.1 hg];exact a3.lt
 · rw[Dq hx]
   have h:=a2 x hx
   simpa[hx]using h
theorem from3_any(G:Option Addr)(cg nf:Nat)(gr:List Nd)(r:Nat)(w:World)(hG:NodesIn w G gr)(hk:N1 nf gr)(hnf:nf<=1000)(hr:r<gr.length):Calls prog 62 #[.agg #[.slice G gr.length cg],.int .i64 r] w fun e w'=>(∃ o A,DL gr [r] [] o/\OOk gr.length o/\e= .returned (.agg #[.slice A o.length o.length])/\GrT w' w.heap.size w'.heap.size A o.length (yK gr o) (fun x=>(nd (yK gr o) x).ty))/\Bel w w':=(from4_any G cg nf gr r w hG hk hnf hr).mono fun e w' h=>by
 obtain⟨⟨o,A,h1,h2,h3,h4⟩,hs⟩:=h
 exact⟨⟨o,A,h1,h2,h3,h4.grt⟩,hs⟩
theorem TX(G:Option Addr)(cg nf:Nat)(gr:List Nd)(r:Nat)(w:World)(hG:NodesIn w G gr)(hk:N1 nf gr)(hnf:nf<=1000)(hr:r<gr.length):Calls prog 62 #[.agg #[.slice G gr.length cg],.int .i64 r] w fun e w'=>(∃ o A,DL gr [r] [] o/\OOk gr.length o/\e= .returned (.agg #[.slice A o.length o.length])/\(∀ w2,FrSame w.heap.size w' w2->NodesIn w2 A (yK gr o)))/\Bel w w':=(from3_any G cg nf gr r w hG hk hnf hr).mono fun e w' h=>by
 obtain⟨⟨o,A,h1,h2,h3,h4⟩,hs⟩:=h
 exact⟨⟨o,A,h1,h2,h3,fun w2 hf=>by have:=(h4.fr hf).nodes;rwa[L6]at this⟩,hs⟩
theorem from_any(G:Option Addr)(cg nt nf:Nat)(gr:List Nd)(r:Nat)(w:World)(hG:NodesIn w G gr)(hk:GOk nt nf gr)(hnf:nf<=1000)(hr:r<gr.length):Calls prog 62 #[.agg #[.slice G gr.length cg],.int .i64 r] w fun e w'=>(∃ o A,DL gr [r] [] o/\OOk gr.length o/\e= .returned (.agg #[.slice A o.length o.length])/\(∀ w2,FrSame w.heap.size w' w2->NodesIn w2 A (yK gr o)))/\Bel w w':=TX G cg nf gr r w hG hk.two hnf hr
structure GV(l:List Ty)(fs:List Ft)(g:List Nd):Prop where
 h:(qK l fs).1=0
 s:V5 l
 few:fs.length<=40
 f:FOk l.length fs
 gok:GOk l.length fs.length g
 t:tyF l fs g=(0,0)
 u:¬0<=Kq g
 lo:(j9 l.length fs.length g).1=0
theorem gv_of{l:List Ty}{fs:List Ft}(h:(Q9 l fs g).1=0):GV l fs g:=by
 by_cases h0:(qK l fs).1=0
 ·rw[gf_in h0]at h
  by_cases h1:(j9 l.length fs.length g).1=0
  ·by_cases h2:(tyF l fs g).1=0
   ·have h2':tyF l fs g=(0,0):=TK h2
    by_cases h3:0<=Kq g
    ·grind[wi_unr,h1]
    ·refine⟨h0,Ky h0,?_,By h0,Bv h1,h2',h3,h1⟩
     grind[qK]
   ·grind[xk,h1]
  ·grind[N3,h1]
 ·grind[gf_hier]
theorem DL.sub(h:DL g is a b):∀ x∈a,x∈b:=by
 induction h with
 | nil=>exact fun x h=>h
 | old h t ih=>exact ih
 | new h s t ihs iht=>exact fun x hx=>iht x (ihs x (List.mem_append_left _ hx))
theorem DL.has(h:DL g is a b):∀ i∈is,i∈b:=by
 induction h with
 | nil=>exact fun i h=>by cases h
 | old h t ih=>
  intro i hi;rcases ax.1 hi with rfl|hi
  ·exact t.sub _ h
  ·exact ih i hi
 | new h s t ihs iht=>
  intro i hi;rcases ax.1 hi with rfl|hi
  ·exact t.sub _ (s.sub _ (by simp))
  ·exact iht i hi
theorem DL.clo(h:DL g is a b):∀ x∈b,¬x∈a->∀ t∈vy g x,t∈b:=by
 induction h with
 | nil=>exact fun x h1 h2=>absurd h1 h2
 | old h t ih=>exact ih
 | new h s t ihs iht=>
  rename_i i is o o1 o'
  intro x hx hn y hy;by_cases h1:x∈o1
  ·by_cases h2:x=i
   ·subst h2;exact t.sub _ (s.has y hy)
   ·exact t.sub _ (ihs x h1 (fun h3=>by
     rcases aE.1 h3 with h3|h3
     ·exact hn h3
     ·exact h2 (aq.1 h3)) y hy)
  ·exact iht x hx h1 y hy
theorem DL.nodup(h:DL g is a b):a.Nodup->b.Nodup:=by
 induction h with
 | nil=>exact fun h=>h
 | old h t ih=>exact ih
 | new h s t ihs iht=>
  grind
theorem DL.rch(hr:∀ i,i<g.length->∀ t∈vy g i,t<g.length)(h:DL g is a b):(∀ i∈is,i<g.length)->(∀ i∈is,Rch g i)->(∀ x∈a,Rch g x)->∀ x∈b,Rch g x:=by
 induction h with
 | nil=>exact fun _ _ h=>h
 | old h t ih=>exact fun hi hR ha=>ih (fun i h=>hi i (ar _ h)) (fun i h=>hR i (ar _ h)) ha
 | new h s t ihs iht=>
  rename_i i is o o1 o'
  intro hi hR ha;have a1:=hi i (aB ..);have hRi:=hR i (aB ..);refine iht (fun i h=>hi i (ar _ h)) (fun i h=>hR i (ar _ h)) (ihs (hr i a1) (fun t ht=>?_) (fun x hx=>?_))
  ·simp only[vy,vx a1,List.mem_map]at ht
   obtain⟨y,hy,rfl⟩:=ht;exact .step hRi a1 hy
  ·grind
structure Tr(g:List Nd)(o:List Nat):Prop where
 dl:DL g [0] [] o
 ok:OOk g.length o
 nd:o.Nodup
 pos:0<o.length
 zero:o.idxOf 0=0
 clo:∀ x∈o,∀ t∈vy g x,t∈o
theorem Dv(hn:o.Nodup)(hk:k<o.length):o.idxOf o[k]=k:=by
 grind
theorem oq(hx:x∈o):∃ h:o.idxOf x<o.length,o[o.idxOf x]=x:=⟨List.idxOf_lt_length_of_mem hx,List.getElem_idxOf _⟩
theorem D8(hx:x∈o):kV o x=(o.idxOf x:Nat):=by simp[kV,hx]
theorem uY(g:List Nd)(o:List Nat):(yK g o).length=o.length:=by simp[yK]
theorem EJ(hx:x∈o):nd (yK g o) (o.idxOf x)=SZ g o x:=by
 grind[h1,oq,vx,uY,yK]
theorem R7(h:∀ x∈o,∀ t∈vy g x,t∈o)(hx:x∈o):vy (yK g o) (o.idxOf x)=(vy g x).map (o.idxOf ·):=by
 unfold vy;rw[EJ hx];simp only[SZ,List.map_map];refine aP (fun y hy=>?_);have:y.2.toNat∈o:=h x hx _ (by simp only[vy,List.mem_map];exact⟨y,hy,rfl⟩);simp[Yx,D8 this]
theorem DL.map{g:List Nd}{o:List Nat}(hc:∀ x∈o,∀ t∈vy g x,t∈o){is a b:List Nat}(h:DL g is a b):(∀ x∈b,x∈o)->DL (yK g o) (is.map (o.idxOf ·)) (a.map (o.idxOf ·)) (b.map (o.idxOf ·)):=by
 have inj:∀ x y,x∈o->y∈o->o.idxOf x=o.idxOf y->x=y:=fun x y hx hy e=>by
  obtain⟨h1,h2⟩:=oq hx
  grind
 induction h with
 | nil=>exact fun _=> .nil
 | old h t ih=>
  intro hb;exact .old (List.mem_map_of_mem h) (ih hb)
 | new h s t ihs iht=>
  rename_i i is o0 o1 o'
  intro hb;have hio:=hb i (t.sub _ (s.sub _ (by simp)));refine .new (fun hm=>?_) ?_ (iht hb)
  ·obtain⟨y,hy,e⟩:=av.1 hm
   have hyo:=hb y (t.sub _ (s.sub _ (List.mem_append_left _ hy)))
   grind
  ·have:=ihs (fun x hx=>hb x (t.sub _ hx))
   rw[List.map_append]at this;rw[R7 hc hio];exact this
theorem FJ(hn:o.Nodup):o.map (o.idxOf ·)=List.range o.length:=by
 apply List.ext_getElem
 ·simp
 ·grind
theorem Tr.can(h:Tr g o):DL (yK g o) [0] [] (List.range o.length):=by
 have:=h.dl.map h.clo (fun x hx=>hx);rw[FJ h.nd]at this
 simpa[h.zero]using this
theorem FrSame.then{B B0:Nat}{w1 w2:World}(h:FrSame B w0 w1)(k:FrSame B0 w1 w2)(hb:B0<=B):FrSame B w0 w2:=
 ⟨nLT h.size k.size,fun i hi hl=>(k.blk i (nLT hb hi) (nLL hl h.size)).trans (h.blk i hi hl)⟩
theorem fd83:(prog.fieldsOf 83).toList.map (fun f=>(f.name == "_",f.type,f.offset))= [(false,3,0),(false,3,1)]:=by kernel_rfl
theorem ft83:prog.underlying 83=some (.struct (prog.fieldsOf 83)):=by kernel_rfl
theorem leq_any(A B:Option Addr)(c d:Nat)(xs ys:List (Int×Int))(w:World)(hX:LinksIn w A xs)(hY:LinksIn w B ys):Calls prog 26 #[.slice A xs.length c,.slice B ys.length d] w fun e w'=>e= .returned (.bool (decide (xs=ys)))/\Bel w w':=by
 have hmx:=hX.1;unfold vX at hmx;refine enT func26 ntmps26 rfl rfl fun hB=>?_;refine Yv ?_;refine zQ rfl (fun c10=>?_) (fun c10=>?_)
 ·refine zn8 ?_;exact⟨jJ (ap (fun h=>c10 (by rw[h]))),hB⟩
 refine jq ?_;refine qx (rg [4,5] 13 13) (fun m g w'=>∃ k:Nat,k<=xs.length/\m=xs.length-k/\g 13= .int .i64 k/\Bel w w'/\xs.take k=ys.take k) (xs.length) ?_ (fun m g4 w1 hI=>?_)
 ·exact⟨0,ag _,rfl,rfl,hB,rfl⟩
 obtain⟨k,hk,hm,h13,hB,hE⟩:=hI;refine zX 13 _ h13 nu (zn6 ?_);refine zQ rfl (fun c14=>?_) (fun c14=>?_)
 ·have a2:k<xs.length:=by omega
  have a1:k<ys.length:=by omega
  obtain⟨pb,po,rfl,hpb,hpc⟩:=hX.at_ (Below.refl _ _:Bel w w) a2;obtain⟨qb,qo,rfl,hqb,hqc⟩:=hY.at_ (Below.refl _ _:Bel w w) a1;refine jq ?_;refine oZ kR kR (fun w2 s1=>?_);refine zn8 ?_;refine ws (r_neF Tryz.eqGuardType83 ft83 Tryz.stoodInHeld83 fd83 U3 rfl rfl) (ux (e_S ?_));refine zQ rfl (fun a4=>?_) (fun a4=>?_)
  ·refine vj ?_;replace hB:=hB.tr0 s1;exact⟨jJ (ap (fun h=>a4 (by subst h;exact⟨rfl,rfl⟩))),hB⟩
  refine zn7 ?_;refine x8 (xs.length-(k+1)) oG agA ?_;have hx:xs[k]'a2=ys[k]'a1:=by
    have h:=az.1 a4;exact Prod.ext h.1 h.2
  replace hB:=hB.tr0 s1;exact⟨k+1,by omega,rfl,rfl,hB,by rw[List.take_succ_eq_append_getElem a2,List.take_succ_eq_append_getElem a1,hE,hx]⟩
 have hek:k=xs.length:=by omega
 have a3:xs=ys:=by
   rw[hek]at hE;have e2:ys.take xs.length=ys:=aZ oG;rw[List.take_length,e2]at hE;exact hE
 refine vj ?_;exact⟨jJ (ai a3),hB⟩
set_option maxHeartbeats 1000000 in
theorem nodes_any(A B:Option Addr)(c d:Nat)(ga gb:List Nd)(w:World)(hA:NodesIn w A ga)(hBn:NodesIn w B gb):Calls prog 6 #[.agg #[.slice A ga.length c],.agg #[.slice B gb.length d]] w fun e w'=>e= .returned (.bool (decide (ga=gb)))/\Bel w w':=by
 have hmx:=hA.1;unfold vX at hmx;refine enT func6 ntmps6 rfl rfl fun hB=>?_;refine zn2 ?_;refine xy (v:= .agg #[_]) (cs:=#[_]) rfl rfl (fun b2 w1 a5 s1 hr=>?_);refine xy (v:= .agg #[_]) (cs:=#[_]) rfl rfl (fun b3 w2 a4 s2 hr=>?_);refine Yv ?_;refine zQ rfl (fun c12=>?_) (fun c12=>?_)
 ·refine zn8 ?_;replace hB:=hB.tr0 (s1.t s2);exact⟨jJ (ap (fun h=>c12 (by rw[h]))),hB⟩
 refine vj ?_;refine qx (rg [4,5] 16 33) (fun m g w'=>∃ k:Nat,k<=ga.length/\m=ga.length-k/\g 16= .int .i64 k/\Bel w w'/\Blk w' b2 30 #[.slice A ga.length c]/\Blk w' b3 30 #[.slice B gb.length d]/\ga.take k=gb.take k) (ga.length) ?_ (fun m g4 w3 hI=>?_)
 ·exact⟨0,ag _,rfl,rfl,hB.u,a5.u,a4,rfl⟩
 obtain⟨k,hk,hm,h16,hB,a5,a4,hE⟩:=hI;refine zX 16 _ h16 nu (zn6 ?_);refine zQ rfl (fun c17=>?_) (fun c17=>?_)
 ·have a3:k<ga.length:=by omega
  have a2:k<gb.length:=by omega
  obtain⟨ab,ao,LA,la,rfl,hab,har,b4⟩:=hA.at_ (Below.refl _ _:Bel w w) a3;obtain⟨bb,bo,LB,lb,rfl,hbb,hbr,b1⟩:=hBn.at_ (Below.refl _ _:Bel w w) a2;refine jq ?_;refine y8 (rg [] 19 29) (fun g w'=>g 47= .bool (decide (¬(ga[k]'a3).ty=(gb[k]'a2).ty) || !decide ((ga[k]'a3).ln=(gb[k]'a2).ln))/\Same [] w3 w') ?_ (fun g6 w4 hI=>?_)
  ·refine uz [] [0,1,2,3,4,5,6,7,8,9,10,11,12,13,14,15,16,17,18,19,20,21,22,23,24,25,26,27,28] rfl (fun w5 s3=>?_);have ac:=s3;refine zn5 ?_;refine hl1 (v:= .int _ _) rfl U3 rfl rfl (hB.u.cell hab (har 0 _ rfl)) (zn5 ?_);refine hl1 (v:= .int _ _) rfl U3 rfl rfl (hB.u.cell hbb (hbr 0 _ rfl)) (zn2 ?_);refine h_casesd 32 rfl (fun b5=>?_) (fun b5=>?_)
   ·refine Kz ?_;refine e_R ⟨agA,?_,ac⟩;show Value.bool _=Value.bool _;exact ae (by simp[b5])
   refine zn5 ?_;refine hg1 (v:= .slice _ _ _) 32 rfl rfl rfl U78 rfl rfl (hB.u.cell hab (har 1 _ rfl)) (zn5 ?_);refine hg1 (v:= .slice _ _ _) 32 rfl rfl rfl U78 rfl rfl (hB.u.cell hbb (hbr 1 _ rfl)) (h1 rfl (zn1 ?_));refine qq kR (leq_any _ _ _ _ _ _ w5 (b4.mono hB.u) (b1.mono hB.u)) rfl (fun e' w6 hr=>?_);obtain⟨rfl,s4⟩:=hr;replace s4:=sB s4;have a1:=s4;refine⟨_,rfl,?_⟩;refine zJ (K9 a1 (zn3 ?_));replace ac:=ac.t s4;refine e_R ⟨agA,?_,ac⟩;show Value.bool _=Value.bool _;exact ae (by simp[b5])
  obtain⟨h47,s5⟩:=hI;refine jj 47 _ h47 nu (e_S ?_);refine jQ rfl (fun a9=>?_) (fun a9=>?_)
  ·refine vj ?_;replace hB:=hB.tr0 s5
   exact⟨jJ (ap (fun h=>by
     subst h
     simp at a9)),hB⟩
  have hx:ga[k]'a3=gb[k]'a2:=by
    simp only[Bool.or_eq_false_iff,decide_eq_false_iff_not,Bool.not_eq_false',decide_eq_true_eq]at a9;exact V8 (az.1 a9.1) a9.2
  refine zn7 ?_;refine x8 (ga.length-(k+1)) oG agA ?_;replace hB:=hB.tr0 s5;replace a5:=a5.tr0 s5;replace a4:=a4.tr0 s5;exact⟨k+1,by omega,rfl,rfl,hB,a5,a4,by rw[List.take_succ_eq_append_getElem a3,List.take_succ_eq_append_getElem a2,hE,hx]⟩
 have hek:k=ga.length:=by omega
 have an:ga=gb:=by
   rw[hek]at hE;have e2:gb.take ga.length=gb:=aZ oG;rw[List.take_length,e2]at hE;exact hE
 refine vj ?_;exact⟨jJ (ai an),hB⟩
theorem clone_any(A:Option Addr)(c bn bd:Nat)(o:List Nat)(w:World)(hO:OrdF w bn bd A o)(hl:o.length<=1000000):Calls prog 69 #[.slice A o.length c] w fun e w'=>(∃ A' cap',e= .returned (.slice A' o.length cap')/\Own w' w.heap.size 3 1 A' o.length cap' (oV o))/\Bel w w':=by
 refine enT func69 ntmps69 rfl rfl fun hB=>?_;refine zn9 ?_;refine wl (Lq U59 rfl rfl) (zJ (e_S ?_));refine jQ rfl (fun c4=>?_) (fun c4=>?_)
 ·have hn:o= []:=by
    rcases hO with h|⟨_,b,h,_⟩
    · exact h.1
    · rw[h]at c4;cases c4
  subst hn;refine zn8 ?_;exact⟨⟨none,0,rfl,Own.nil _ _ _ _⟩,hB⟩
 obtain⟨hne,b,rfl,hbn,hbd,hbl,hc⟩:o≠[]/\∃ b,A=some ⟨b,0,none⟩/\b≠bn/\b<bd/\b<w.heap.size/\∀ k (hk:k<o.length),w.cell? ⟨b,0+k,none⟩=some (.int .i64 (o[k]:Nat)):=by
   rcases hO with h|h
   · rw[h.2]at c4;cases c4
   · exact h
 have a1:=List.length_pos_iff.2 hne;refine zn4 ?_;refine wl_bs0 U59 qk (fun b5 w1 hb5 s1 hr=>?_);have lo5:=nLT (Bel.size hB) hr;refine wmS rfl ?_;have a2:=YK (sz:=1) (m:=0) hb5 (ah b5) rfl dE;replace hB:=hB.tr0 s1;refine wl_appC (b:=b) (o':=0) (news:=oV o) U59 in3 rfl dE a2 rfl rfl (fun j u hj=>?_) (by simp[oV]) (by simp[oV,List.all_eq_true];intros;rfl) a1 oG oG (Nat.le_of_lt hb5.lt) (fun g7 a3 w9 ho7 s2 hg=>?_)
 · simp only[oV,List.getElem?_map,Option.map_eq_some_iff]at hj
   obtain⟨x,hx,rfl⟩:=hj;obtain⟨hk,rfl⟩:=au.1 hx;exact hB.cell hbl (hc j hk)
 have hB9:Bel w w9:=hB.tr s2 (fun g hg=>by cases aq.1 hg;exact lo5);refine zn5 ?_;refine⟨⟨some ⟨g7,0,none⟩,a3,?_,?_⟩,hB9⟩
 · show Ending.returned (.slice _ (0+o.length) _)=_
   rw[Nat.zero_add]
 · have h:=ho7.low lo5
   rw[Nat.zero_add]at h;exact h
set_option maxHeartbeats 2000000 in
theorem P6{G:Option Addr}{cg nf bn:Nat}(hG:NodesIn w0 G gr)(hk:N1 nf gr)(l0n:w0.heap.size<=bn){A:Option Addr}{cap:Nat}(hB:Bel w0 w)(hok:OOk gr.length o)(a2:Blk w bn 3 (row gr.length (fun x=> .int .i64 (kV o x))))(hO:OrdF w bn w.heap.size A o){i:Nat}(a4:i<gr.length)(IH:∀(t:Nat) (o2:List Nat) (A2:Option Addr) (a9:Nat) (w2:World),uk gr.length (Xx o2)<uk gr.length (Xx o)->t<gr.length->Bel w0 w2->OOk gr.length o2->Blk w2 bn 3 (row gr.length (fun x=> .int .i64 (kV o2 x)))->OrdF w2 bn w2.heap.size A2 o2->Calls prog 53 #[.agg #[.slice G gr.length cg],.int .i64 (t:Nat),.slice (some ⟨bn,0,none⟩) gr.length gr.length,.slice A2 (o2).length a9] w2 fun e w'=>∃ o' A' cap',DL gr [t] o2 o'/\e= .returned (.slice A' o'.length cap')/\Blk w' bn 3 (row gr.length (fun x=> .int .i64 (kV o' x)))/\OrdF w' bn w'.heap.size A' o'/\Same [bn] w2 w'):Calls prog 53 #[.agg #[.slice G gr.length cg],.int .i64 (i:Nat),.slice (some ⟨bn,0,none⟩) gr.length gr.length,.slice A (o).length cap] w fun e w'=>∃ o' A' cap',DL gr [i] o o'/\e= .returned (.slice A' o'.length cap')/\Blk w' bn 3 (row gr.length (fun x=> .int .i64 (kV o' x)))/\OrdF w' bn w'.heap.size A' o'/\Same [bn] w w':=by
 have a1:Same [bn] w w/\w.heap.size<=w.heap.size:=⟨Same.refl _ _,ah _⟩
 obtain⟨bd,ac⟩:∃ b,b=w.heap.size:=⟨_,rfl⟩
 rw[<- ac]at hO;have a3:bd<=w.heap.size:=ay ac;have hn6:=hk.le;have hrg:=IJ hk;have hol:=hok.cnt;have hnl:=a2.lt;refine enter func53 ntmps53 rfl (aD rfl) (zn2 ?_);refine xy (v:= .agg #[_]) (cs:=#[_]) rfl rfl (fun b4 w1 a5 t1 hr=>?_);have:=nLL a2.lt hr;have bb:=(nLT a1.2 hr)
 have b9:=(nLT a3 hr)
 replace hO:=hO.tr t1 (by simp);replace a1:=And.intro (a1.1.freshL t1 (by simp)) (nLT a1.2 (Same.size t1));replace a3:=zV a3 t1;refine zn8 ?_;refine wl (x9 (i:=i) U59 qk rfl rfl a4 rfl) ?_;replace a2:=a2.tr0 t1;refine wl (qw (v:= .int _ _) U3 rfl rfl (a2.cell (vW a4))) (zn3 ?_);refine zQ rfl (fun bx=>?_) (fun bx=>?_)
 ·refine zn9 ?_;exact⟨o,A,cap,.old (LZ bx) .nil,rfl,a2,hO.up a3,a1.1⟩
 have bi:=LX bx;have bg:=hok.snoc a4 bi;have hol2:=bg.cnt;refine zn8 ?_;refine wl (x9 (i:=i) U59 qk rfl rfl a4 rfl) ?_;refine xQ (v:= .int _ _) a2 rfl rfl qk (by rw[row_size];omega) rfl kv (fun w2 hq t2=>?_);replace hB:=hB.u.tr1 t2 l0n;replace hO:=hO.tr t2 (fun g hg=>by have h1:=aq.1 hg;omega);replace a1:=And.intro (a1.1.freshL t2 (fun g hg=>by have h1:=aq.1 hg;first|(left;rw[h1];simp;done)|(right;omega))) (nLT a1.2 (Same.size t2));replace a3:=zV a3 t2;replace a2:=hq;rw[row_num bi]at a2;refine zn3 ?_;obtain⟨bq,b7⟩:∃ b,b=w2.heap.size:=⟨_,rfl⟩
 have bf:bq<=w2.heap.size:=ay b7;replace a5:=a5.tr1 t2 oG;have lq4:b4<bq:=by rw[b7];exact a5.lt
 have lqn:bn<bq:=by rw[b7];exact a2.lt
 have hbd0:bd<=bq:=by rw[b7];exact a3
 have hSz:w.heap.size<=bq:=by rw[b7];exact a1.2
 have hB0:w0.heap.size<=bq:=by rw[b7];exact Bel.size hB
 refine zn2 ?_;refine qq kR (clone_any _ _ _ _ o _ hO oG) rfl (fun e' w3 hr=>?_);obtain⟨⟨AC,capC,rfl,ab⟩,t3⟩:=hr;replace t3:=sB t3;replace hO:=hO.tr t3 (by simp);replace a1:=And.intro (a1.1.freshL t3 (by simp)) (nLT a1.2 (Same.size t3));replace a3:=zV a3 t3;replace bf:=zV bf t3;rw[<- b7]at ab;refine⟨_,rfl,?_⟩;refine wmI rfl ?_;refine qV (cs:=#[_]) [(0,.int _ _)] rfl U59 qk gY dE dE kR rfl (fun b25 w4 bv t4 hr=>?_);replace a2:=a2.tr0 t3;have:=nLL a2.lt hr;have b2:=(nLT a1.2 hr)
 have ao:=(nLT a3 hr)
 have:=nLL a5.u.lt hr;have an:=fun g hg=>nLL (ab.lt g hg).2 hr
 replace hO:=hO.tr t4 (by simp);replace a1:=And.intro (a1.1.freshL t4 (by simp)) (nLT a1.2 (Same.size t4));replace a3:=zV a3 t4;replace bf:=zV bf t4;replace ab:=ab.tr0 t4;refine j7 U59 in3 rfl dE ab bv rfl rfl rfl qz dE oG oG bf (fun g26 cap26 w5 bo t5 hg=>?_);replace a2:=a2.tr0 t4;have b5:g26≠bn:=neA ab a2.lt hg
 have b6:g26≠b4:=neA ab a5.u.lt hg
 replace hB:=hB.u.tr t5 (fun g hg=>nLT hB0 (ab.lt g hg).1);replace a2:=a2.ta t5 ab;replace a1:=And.intro (a1.1.freshL t5 (fun g hg=> .inr (by have:=((ab).lt g hg).1;omega))) (nLT a1.2 (Same.size t5));replace a5:=a5.tr0 (t3.t t4);replace a5:=a5.ta t5 ab;have hO2:=ord_own bo lqn;obtain⟨be,hbe⟩:∃ b,b=w5.heap.size:=⟨_,rfl⟩
 rw[<- hbe]at hO2;have bu:be<=w5.heap.size:=ay hbe;refine zn5 ?_;obtain⟨nb,no,LA,lc,rfl,hnb,hnr,hln⟩:=hG.at_ hB a4;have hmx:=hln.1;unfold vX at hmx;refine zn4 ?_;refine wl (x9 (i:=i) U28 o6 rfl rfl a4 rfl) (zn1 ?_);refine wl (qw (v:= .slice _ _ _) U78 rfl rfl (hnr 1 _ rfl)) (zn5 ?_);refine qx (rg [3,10] 34 11) (fun m g w'=>∃(j:Nat) (o2:List Nat) (A2:Option Addr) (a9:Nat),j<=(gr[i]'a4).ln.length/\m=(gr[i]'a4).ln.length-j/\g 34= .int .i64 j/\g 3= .slice A2 o2.length a9/\DL gr ((vy gr i).take j) (o++[i]) o2/\Bel w0 w'/\Blk w' b4 30 #[.slice (some ⟨nb,no,none⟩) gr.length cg]/\Blk w' bn 3 (row gr.length (fun x=> .int .i64 (kV o2 x)))/\OrdF w' bn w'.heap.size A2 o2/\(Same [bn] w w'/\w.heap.size<=w'.heap.size)) ((gr[i]'a4).ln.length) ?_ (fun m g6 w6 hI=>?_)
 ·exact⟨0,_,_,_,ag _,rfl,rfl,sl_oV _ _ _ _,.nil,hB,a5,a2,hO2.up bu,a1⟩
 obtain⟨j,o2,A2,a9,hj,hm,h34,h3,hD,hB,a5,a2,hO,a1⟩:=hI;obtain⟨bd,ac⟩:∃ b,b=w6.heap.size:=⟨_,rfl⟩
 rw[<- ac]at hO;have a3:bd<=w6.heap.size:=ay ac;have hnl:=a2.lt;refine zX 34 _ h34 nu (zX 3 _ h3 nu (zn6 ?_));refine zQ rfl (fun c35=>?_) (fun c35=>?_)
 ·have bh:j<(gr[i]'a4).ln.length:=by omega
  obtain⟨lb,lof,rfl,hlb,hlr⟩:=hln.at_ hB bh;obtain⟨t,ht,htl⟩:∃ t:Nat,((gr[i]'a4).ln[j]'bh).2=(t:Int)/\t<gr.length:=by
    have h1:=hk.ln i a4 _ (am bh);exact⟨(((gr[i]'a4).ln[j]'bh).2).toNat,by omega,by omega⟩
  obtain⟨bm,s3,hs3⟩:=hD.ok hrg (fun x hx=>hrg i a4 x (List.mem_of_mem_take hx)) bg;have hlk:uk gr.length (Xx o2)<uk gr.length (Xx o):=by
    rw[hs3];exact Nat.lt_of_le_of_lt (Tk _ _ _) (M7 a4 bi)
  refine zn7 ?_;refine wl (qy U83 rfl rfl hlr uW) ?_;refine qW (cs:=#[.int .i64 0,.int .i64 0]) K4 rfl (fun b10 w7 b8 t6 hr=>?_);have:=nLL a2.lt hr;have b3:=(nLT a1.2 hr)
  have:=nLL a5.lt hr;have b1:=(nLT a3 hr)
  have bk:=nLT (Bel.size hB) hr;replace a1:=And.intro (a1.1.freshL t6 (by simp)) (nLT a1.2 (Same.size t6));replace hO:=hO.tr t6 (by simp);replace a3:=zV a3 t6;refine zZ b8 rfl rfl uW rfl qz (fun w8 hq t7=>?_);replace a1:=And.intro (a1.1.freshL t7 (fun g hg=>by have h1:=aq.1 hg;first|(left;rw[h1];simp;done)|(right;omega))) (nLT a1.2 (Same.size t7));replace hO:=hO.tr t7 (fun g hg=>by have h1:=aq.1 hg;omega);replace a3:=zV a3 t7;replace b8:=hq;refine zJ (e_S ?_);rw[ht]at b8;refine zn6 ?_;replace a5:=(a5.tr0 t6).tr1 t7 oG;have lb4:=a5.lt;have hO4:=hO.up a3;replace a2:=(a2.tr0 t6).tr1 t7 oG;have bc:b4≠bn:=fun e=>absurd (jy (e ▸ a5) a2) dE
  refine qq kR (IH t o2 A2 a9 _ hlk htl hB.u bm a2 hO4) rfl (fun e' w9 hr=>?_);obtain⟨o3,A3,bw,hD3,rfl,bt,hO3,bj⟩:=hr;replace hB:=(hB.tr0 t6).tr1 t7 bk;replace hB:=hB.tr bj (by simpa using l0n);replace a5:=a5.tr bj (by simpa using bc);replace a2:=bt;replace hO:=hO3;replace a1:=And.intro (a1.1.trans bj) (nLT a1.2 bj.size);refine⟨_,rfl,?_⟩;refine zn8 ?_;refine x8 ((gr[i]'a4).ln.length-(j+1)) oG agA ?_;exact⟨j+1,o3,A3,bw,by omega,rfl,rfl,rfl,by rw[C5 a4 bh ht];exact hD.append hD3,hB,a5,a2,hO,a1⟩
 have hjx:j=(gr[i]'a4).ln.length:=by omega
 have br:DL gr (vy gr i) (o++[i]) o2:=by
   have e:(vy gr i).take j=vy gr i:=aZ (by simp[vy,vx a4,hjx]);rw[e]at hD;exact hD
 refine uw ?_;exact⟨o2,A2,a9,.new bi br .nil,rfl,a2,hO.up a3,a1.1⟩
theorem visit2_any{G:Option Addr}{cg nf bn:Nat}(hG:NodesIn w0 G gr)(hk:N1 nf gr)(l0n:w0.heap.size<=bn):∀(m:Nat) (o:List Nat) (A:Option Addr) (cap:Nat) (w:World) (i:Nat),uk gr.length (Xx o)<=m->i<gr.length->Bel w0 w->OOk gr.length o->Blk w bn 3 (row gr.length (fun x=> .int .i64 (kV o x)))->OrdF w bn w.heap.size A o->Calls prog 53 #[.agg #[.slice G gr.length cg],.int .i64 (i:Nat),.slice (some ⟨bn,0,none⟩) gr.length gr.length,.slice A (o).length cap] w fun e w'=>∃ o' A' cap',DL gr [i] o o'/\e= .returned (.slice A' o'.length cap')/\Blk w' bn 3 (row gr.length (fun x=> .int .i64 (kV o' x)))/\OrdF w' bn w'.heap.size A' o'/\Same [bn] w w':=by
 intro m
 induction m with
 | zero=>intro o A cap w i hm a3 hB a2 h1 h2;exact P6 hG hk l0n hB a2 h1 h2 a3 (fun t o2 A2 a1 w2 hl=>by omega)
 | succ m ih=>intro o A cap w i hm a3 hB a2 h1 h2;exact P6 hG hk l0n hB a2 h1 h2 a3 (fun t o2 A2 a1 w2 hl=>ih o2 A2 a1 w2 t oG)
end Go.Proofs.YtgcgnkmmbecfmaaGreatDoor
