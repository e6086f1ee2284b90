/- What these functions compute, at every world: slices.Index[[]bool,bool], graph.fault, graph.Loose, ref3.LooseFault, graph.Unreached, ref3.Unreached; and plain laws. -/
import Derived.Test.YtiofaflajkgiaaaGreatDoorGraph
import Derived.Test.YtiofaflajkgiaaaGreatDoorU
import Derived.Test.YtiofaflajkgiaaaGreatDoorZst
namespace Go.Proofs.YtiofaflajkgiaaaGreatDoor
open Go.RowKit Go.Proofs.Tryz
set_option maxHeartbeats 1000000
def nd(g:List Nd)(i:Nat):Nd:=g.getD i ⟨0,[]⟩
theorem yV{g:List Nd}{i:Nat}(hi:i<g.length):nd g i=g[i]:=by simp[nd,List.getD,hi]
def vZ(g:List Nd)(i:Nat):List Nat:=(nd g i).ln.map (fun x=>x.2.toNat)
inductive DL(g:List Nd):List Nat->List Nat->List Nat->Prop
 | nil {o:List Nat}:DL g [] o o
 | old {i:Nat} {is o o':List Nat} (h:i∈o) (t:DL g is o o'):DL g (i::is) o o'
 | new {i:Nat} {is o o1 o':List Nat} (h:¬i∈o) (s:DL g (vZ g i) (o++[i]) o1) (t:DL g is o1 o'):DL g (i::is) o o'
theorem DL.det{g:List Nd}{is o a:List Nat}(h:DL g is o a):∀ {b:List Nat},DL g is o b->a=b:=by
 induction h with
 | nil=>intro b k;cases k;rfl
 | old h t ih=>
  intro b k;cases k with
  | old h' t'=>exact ih t'
  | new h' s' t'=>exact absurd h h'
 | new h s t ihs iht=>
  intro b k;cases k with
  | old h' t'=>exact absurd h' h
  | new h' s' t'=>
   have:=ihs s';subst this;exact iht t'
theorem DL.append{g:List Nd}{xs a b:List Nat}(h:DL g xs a b):∀ {ys c:List Nat},DL g ys b c->DL g (xs++ys) a c:=by
 induction h with
 | nil=>intro ys c k;exact k
 | old h t ih=>intro ys c k;exact .old h (ih k)
 | new h s t ihs iht=>intro ys c k;exact .new h s (iht k)
def J1(o:List Nat)(x:Nat):Bool:=decide (x∈o)
structure OOk(n:Nat)(o:List Nat):Prop where
 lt:∀ x∈o,x<n
 cnt:o.length+jW n (J1 o)<=n
theorem OOk.nil(n:Nat):OOk n []:=⟨fun x hx=>by simp at hx,by have:=Pv n (J1 []);simpa using this⟩
theorem O2{n i:Nat}{o:List Nat}(hi:i<n)(h:¬i∈o):jW n (J1 (o++[i]))<jW n (J1 o):=
 Z9 (fun x hx=>by
  simp only[J1,Bool.not_eq_true',decide_eq_false_iff_not,List.mem_append,not_or]at hx ⊢
  exact hx.1) (List.range n) i (ax.2 hi) (by simp[J1,h]) (by simp[J1])
theorem lack_more(n:Nat)(o s:List Nat):jW n (J1 (o++s))<=jW n (J1 o):=
 List.countP_mono_left (fun x _ hx=>by
  simp only[J1,Bool.not_eq_true',decide_eq_false_iff_not,List.mem_append,not_or]at hx ⊢
  exact hx.1)
theorem OOk.snoc{n i:Nat}{o:List Nat}(h:OOk n o)(hi:i<n)(hn:¬i∈o):OOk n (o++[i]):=
 ⟨fun x hx=>by
  rcases az.1 hx with hx|hx
  ·exact h.lt x hx
  ·rw[List.mem_singleton.1 hx];exact hi,by
  have h1:=O2 hi hn
  have h2:=h.cnt
  simp only[List.length_append,List.length_cons,List.length_nil]
  omega⟩
theorem DL.ok{g:List Nd}(hr:∀ i,i<g.length->∀ t∈vZ g i,t<g.length){is o o':List Nat}(h:DL g is o o'):(∀ i∈is,i<g.length)->OOk g.length o->OOk g.length o'/\∃ s,o'=o++s:=by
 induction h with
 | nil=>intro _ k;exact⟨k,[],by simp⟩
 | old h t ih=>intro hi k;exact ih (fun i h=>hi i (aq _ h)) k
 | new h s t ihs iht=>
  intro hi k;have hlt:=hi _ (aw ..);obtain⟨h1,s1,e1⟩:=ihs (hr _ hlt) (k.snoc hlt h);obtain⟨h2,s2,e2⟩:=iht (fun i h=>hi i (aq _ h)) h1;exact⟨h2,_,by rw[e2,e1,List.append_assoc,List.append_assoc]⟩
theorem BZ{nf:Nat}{g:List Nd}(h:B4 nf g):∀ i,i<g.length->∀ t∈vZ g i,t<g.length:=fun i hi t ht=>by
 simp only[vZ,yV hi,List.mem_map]at ht
 obtain⟨x,hx,rfl⟩:=ht
 have:=h.ln i hi x hx
 omega
theorem Lk{g:List Nd}{i j t:Nat}(hi:i<g.length)(hj:j<(g[i]).ln.length)(ht:((g[i]).ln[j]).2=(t:Int)):(vZ g i).take (j+1)=(vZ g i).take j++[t]:=by
 have hl:j<(vZ g i).length:=by simp[vZ,yV hi,hj]
 rw[List.take_succ_eq_append_getElem hl]
 congr 2
 simp[vZ,yV hi,ht]
def o8(o:List Nat)(x:Nat):Int:=if x∈o then (o.idxOf x:Nat)else -1
theorem numO_nil(x:Nat):o8 [] x= -1:=by simp[o8]
theorem numO_neg{o:List Nat}{x:Nat}(h:¬0<=o8 o x):¬x∈o:=fun hx=>h (by simp only[o8,if_pos hx];omega)
theorem numO_pos{o:List Nat}{x:Nat}(h:0<=o8 o x):x∈o:=by
 unfold o8 at h;by_cases hx:x∈o
 ·exact hx
 ·rw[if_neg hx]at h;omega
theorem numO_snoc{o:List Nat}{i:Nat}(h:¬i∈o)(x:Nat):(if x=i then ((o.length:Nat):Int)else o8 o x)=o8 (o++[i]) x:=by
 unfold o8;by_cases e:x=i
 ·subst e
  simp[List.idxOf_append,h]
 ·by_cases hx:x∈o
  ·simp[e,hx,List.idxOf_append]
  ·simp[e,hx]
theorem row_num{n:Nat}{o:List Nat}{i:Nat}(h:¬i∈o):row n (fun x=>if x=i then Value.int .i64 ((o.length:Nat):Int)else .int .i64 (o8 o x))=row n (fun x=> .int .i64 (o8 (o++[i]) x)):=
 vx (fun x _=>by rw[<- numO_snoc h];split<;>rfl)
def oV(o:List Nat):List Value:=o.map (fun(n:Nat)=>Value.int .i64 (n:Int))
theorem own_oV{w:World}{base:Nat}{A:Option Addr}{cap i:Nat}{o:List Nat}(h:Own w base 3 1 A (o.length+1) cap (oV o++[Value.int .i64 (i:Int)])):Own w base 3 1 A (o++[i]).length cap (oV (o++[i])):=by
 unfold oV at h ⊢;rw[List.length_append,List.map_append];exact h
theorem sl_oV(A:Option Addr)(cap:Nat)(o:List Nat)(i:Nat):Value.slice A (o.length+1) cap=Value.slice A (o++[i]).length cap:=by rw[List.length_append];rfl
structure Chg(base:Nat)(X:List Nat)(w w':World):Prop where
 os:w'.os=w.os
 tape:w'.tape=w.tape
 output:w'.output=w.output
 size:w.heap.size<=w'.heap.size
 blk:∀ k,k<base->¬k∈X->w'.heap[k]? =w.heap[k]?
theorem Chg.refl(base:Nat)(X:List Nat)(w:World):Chg base X w w:=⟨rfl,rfl,rfl,ae _,fun _ _ _=>rfl⟩
theorem Chg.trans{base:Nat}{X:List Nat}{a b c:World}(h:Chg base X a b)(k:Chg base X b c):Chg base X a c:=
 ⟨k.os.trans h.os,k.tape.trans h.tape,k.output.trans h.output,nLT h.size k.size,fun i hi hx=>(k.blk i hi hx).trans (h.blk i hi hx)⟩
theorem Chg.st{base:Nat}{X Y:List Nat}{a b c:World}(h:Chg base X a b)(k:Same Y b c)(hb:base<=b.heap.size)(hy:∀ g∈Y,g∈X\/base<=g):Chg base X a c:=
 h.trans ⟨k.os,k.tape,k.output,k.size,fun i hi hx=>k.blk i (nLL hi hb) (fun hm=>by
  rcases hy i hm with h1|h1
  ·exact hx h1
  ·omega)⟩
theorem Blk.chg{base b t:Nat}{X:List Nat}{w w':World}{cs:Array Value}(h:Blk w b t cs)(hc:Chg base X w w')(hb:b<base)(hx:¬b∈X):Blk w' b t cs:=(hc.blk b hb hx).trans h
theorem Bel.chg{base:Nat}{X:List Nat}{w0 w w':World}(h:Bel w0 w)(hc:Chg base X w w')(hb:w0.heap.size<=base)(hx:∀ g∈X,w0.heap.size<=g):Bel w0 w':=
 ⟨hc.os.trans h.os,hc.tape.trans h.tape,hc.output.trans h.output,nLT h.size hc.size,fun k hk=>(hc.blk k (nLL hk hb) (fun hm=>by have:=hx k hm;omega)).trans (h.block k hk)⟩
def kX(m:Nat)(f h:Nat->Value):Array Value:=Array.ofFn (n:=m*2) (fun i=>if i.val%2=0 then f (i.val/2)else h (i.val/2))
theorem gz(m:Nat)(f h:Nat->Value):(kX m f h).size=m*2:=by simp[kX]
theorem EK{m i:Nat}{f h:Nat->Value}(hi:i<m):(kX m f h)[0+i*2+0]? =some (f i):=by
 have e1:0+i*2+0=i*2:=by omega
 have e2:i*2<m*2:=by omega
 rw[e1];simp[kX,e2]
theorem I8{m i:Nat}{f h:Nat->Value}(hi:i<m):(kX m f h)[0+i*2+1]? =some (h i):=by
 have e1:0+i*2+1=i*2+1:=by omega
 have e2:i*2+1<m*2:=by omega
 have e3:(i*2+1)%2=1:=by omega
 have e4:(i*2+1)/2=i:=by omega
 rw[e1];simp[kX,e2,e3,e4]
theorem EQ{m i:Nat}{f h:Nat->Value}{v:Value}:(kX m f h).setIfInBounds (0+i*2+0) v=kX m (fun j=>if j=i then v else f j) h:=by
 apply Array.ext
 ·simp[kX]
 ·intro k h1 h2
  rw[Array.getElem_setIfInBounds (by simpa using h1)];simp only[kX,Array.getElem_ofFn];by_cases e:0+i*2+0=k
  ·have e1:k%2=0:=by omega
   have e2:k/2=i:=by omega
   rw[if_pos e];simp[e1,e2]
  ·rw[if_neg e]
   by_cases e1:k%2=0
   ·have e2:¬k/2=i:=by omega
    simp[e1,e2]
   ·simp[e1]
theorem EZ{m i:Nat}{f h:Nat->Value}{v:Value}:(kX m f h).setIfInBounds (0+i*2+1) v=kX m f (fun j=>if j=i then v else h j):=by
 apply Array.ext
 ·simp[kX]
 ·intro k h1 h2
  rw[Array.getElem_setIfInBounds (by simpa using h1)];simp only[kX,Array.getElem_ofFn];by_cases e:0+i*2+1=k
  ·have e1:k%2=1:=by omega
   have e2:k/2=i:=by omega
   rw[if_pos e];simp[e1,e2]
  ·rw[if_neg e]
   by_cases e1:k%2=0
   ·simp[e1]
   ·have e2:¬k/2=i:=by omega
    simp[e1,e2]
theorem Q4{m:Nat}{f f' h h':Nat->Value}(hf:∀ j,j<m->f j=f' j)(hh:∀ j,j<m->h j=h' j):kX m f h=kX m f' h':=by
 apply Array.ext
 ·simp[kX]
 ·intro k h1 h2
  have hk:k<m*2:=by simpa[kX]using h1
  simp only[kX,Array.getElem_ofFn];rw[hf _ oG,hh _ oG]
theorem EJ(m:Nat)(a b:Value):madeCells #[a,b] (m*2)=kX m (fun _=>a) (fun _=>b):=by
 apply Array.ext
 ·simp[kX,madeCells]
 ·intro k h1 h2
  simp only[kX,madeCells,Array.getElem_ofFn,Array.getElem_map,Array.getElem_range];rcases(by omega:k%2=0\/k%2=1)with e|e
  ·simp[e]
  ·simp[e]
def Mw(o:List Nat)(x:Int×Int):Int×Int:=(x.1,o8 o x.2.toNat)
def CV(g:List Nd)(o:List Nat)(i:Nat):Nd:=⟨(nd g i).ty,(nd g i).ln.map (Mw o)⟩
def yQ(g:List Nd)(o:List Nat):List Nd:=o.map (CV g o)
def lnV(xs:List (Int×Int)):List Value:=xs.flatMap (fun x=>[Value.int .i64 x.1,Value.int .i64 x.2])
theorem WQ(xs:List (Int×Int))(x:Int×Int):lnV xs++[Value.int .i64 x.1,Value.int .i64 x.2]=lnV (xs++[x]):=by simp[lnV]
theorem J2:∀(xs:List (Int×Int)) (k:Nat) (hk:k<xs.length),(lnV xs)[k*2]? =some (Value.int .i64 (xs[k]).1)/\(lnV xs)[k*2+1]? =some (Value.int .i64 (xs[k]).2)
 | [],k,hk=>by simp at hk
 | x::xs,0,_=>by simp[lnV]
 | x::xs,k+1,hk=>by
  have h:=J2 xs k (by simpa using hk)
  have e1:(k+1)*2=k*2+1+1:=by omega
  have e2:(k+1)*2+1=k*2+1+1+1:=by omega
  have e3:lnV (x::xs)=Value.int .i64 x.1::Value.int .i64 x.2::lnV xs:=by simp[lnV]
  rw[e1,e3]
  simpa using h
theorem BY{w:World}{base:Nat}{A:Option Addr}{cap:Nat}{xs:List (Int×Int)}(h:Own w base 90 2 A xs.length cap (lnV xs)):LinksIn w A xs:=
 ⟨h.max,fun hn=>by
  have hne:lnV xs≠[]:=by
   cases xs with
   | nil=>exact absurd rfl hn
   | cons x r=>simp[lnV]
  obtain⟨g,e,hb,hg,hc⟩:=h.cell hne;refine⟨g,0,e,hg,fun k hk j v hj=>?_⟩;have h2:=J2 xs k hk
  match j,hj with
  | 0,hj=>cases hj;have:=hc _ _ h2.1;simpa using this
  | 1,hj=>cases hj;have:=hc _ _ h2.2;simpa using this
  | _+2,hj=>cases hj⟩
structure FrSame(B:Nat)(w w2:World):Prop where
 size:w.heap.size<=w2.heap.size
 blk:∀ k,B<=k->k<w.heap.size->w2.heap[k]? =w.heap[k]?
theorem FrSame.of{B:Nat}{w0 w w':World}{X:List Nat}(h:FrSame B w0 w)(hs:Same X w w')(hx:∀ g∈X,g<B\/w0.heap.size<=g):FrSame B w0 w':=
 ⟨nLT h.size hs.size,fun k hk hk2=>by
  rw[hs.blk k (nLL hk2 h.size) (fun hm=>by have:=hx k hm;omega)]
  exact h.blk k hk hk2⟩
theorem FrSame.refl(B:Nat)(w:World):FrSame B w w:=⟨ae _,fun _ _ _=>rfl⟩
theorem FrSame.at_{B b t:Nat}{w w2:World}{cs:Array Value}(h:FrSame B w w2)(hb:Blk w b t cs)(hl:B<=b):Blk w2 b t cs:=(h.blk b hl hb.lt).trans hb
def RowO(w:World)(lo bs:Nat)(v:Value)(xs:List (Int×Int)):Prop:=∃ A c,v= .slice A xs.length c/\Own w lo 90 2 A xs.length c (lnV xs)/\∀ g∈aL A,g<bs
theorem Own.typ{w:World}{base:Nat}{e:TypeId}{sz:Nat}{A:Option Addr}{k cap:Nat}{xs:List Value}(h:Own w base e sz A k cap xs):∀ g∈aL A,∃ cs,Blk w g e cs:=fun g hg=>by
 rcases h.2 with ⟨hn,_⟩|⟨g',c,cur,hv,hb,hgg,r⟩
 ·cases hn;cases hg
 ·cases hv
  simp only[aL,List.mem_singleton]at hg
  subst hg;exact⟨cur,hgg⟩
theorem RowO.tr{w w':World}{lo bs:Nat}{v:Value}{xs:List (Int×Int)}{X:List Nat}(h:RowO w lo bs v xs)(hs:Same X w w')(hx:∀ g∈X,bs<=g\/∃ cs t,Blk w g t cs/\t≠90):RowO w' lo bs v xs:=by
 obtain⟨A,c,h1,h2,h3⟩:=h;refine⟨A,c,h1,h2.tr hs (fun g hg hm=>?_),h3⟩;rcases hx g hm with h4|⟨cs,t,h4,h5⟩
 ·have:=h3 g hg;omega
 ·obtain⟨cs2,h6⟩:=h2.typ g hg
  exact h5 (vW h4 h6)
theorem RowO.up{w:World}{lo bs bs':Nat}{v:Value}{xs:List (Int×Int)}(h:RowO w lo bs v xs)(hb:bs<=bs'):RowO w lo bs' v xs:=by
 obtain⟨A,c,h1,h2,h3⟩:=h;exact⟨A,c,h1,h2,fun g hg=>nLL (h3 g hg) hb⟩
theorem RowO.of{w:World}{lo base:Nat}{A:Option Addr}{cap:Nat}{xs:List (Int×Int)}(hl:lo<=base)(h:Own w base 90 2 A xs.length cap (lnV xs)):RowO w lo w.heap.size (.slice A xs.length cap) xs:=⟨A,cap,rfl,h.low hl,fun g hg=>(h.lt g hg).2⟩
theorem RowO.fr{w w2:World}{lo bs:Nat}{v:Value}{xs:List (Int×Int)}(h:RowO w lo bs v xs)(hf:FrSame lo w w2):RowO w2 lo bs v xs:=by
 obtain⟨A,c,h1,h2,h3⟩:=h;refine⟨A,c,h1,⟨h2.1,?_⟩,h3⟩;rcases h2.2 with hn|⟨g,c,cur,hv,hb,hg,r⟩
 ·exact .inl hn
 ·exact .inr ⟨g,c,cur,hv,hb,(hf.blk g hb (u4 hg)).trans hg,r⟩
def OrdF(w:World)(bn bd:Nat)(A:Option Addr)(o:List Nat):Prop:=
 (o= []/\A=none)\/(o≠[]/\∃ b,A=some ⟨b,0,none⟩/\b≠bn/\b<bd/\b<w.heap.size/\∀ k (hk:k<o.length),w.cell? ⟨b,0+k,none⟩=some (.int .i64 (o[k]:Nat)))
theorem OrdF.nil(w:World)(bn bd:Nat):OrdF w bn bd none []:= .inl ⟨rfl,rfl⟩
theorem OrdF.tr{w w':World}{bn bd:Nat}{A:Option Addr}{o:List Nat}{X:List Nat}(h:OrdF w bn bd A o)(hs:Same X w w')(hx:∀ g∈X,g=bn\/bd<=g):OrdF w' bn bd A o:=by
 rcases h with h|⟨h1,b,h2,h3,h4,h5,h6⟩
 ·exact .inl h
 ·refine .inr ⟨h1,b,h2,h3,h4,nLL h5 hs.size,fun k hk=>?_⟩
  rw[World.cell?_of_block (hs.blk b h5 (fun hm=>by rcases hx b hm with h|h<;>omega))];exact h6 k hk
theorem OrdF.up{w:World}{bn bd bd':Nat}{A:Option Addr}{o:List Nat}(h:OrdF w bn bd A o)(hb:bd<=bd'):OrdF w bn bd' A o:=by
 rcases h with h|⟨h1,b,h2,h3,h4,h5,h6⟩
 ·exact .inl h
 ·exact .inr ⟨h1,b,h2,h3,nLL h4 hb,h5,h6⟩
theorem Same.freshL{X Y:List Nat}{w w1 w2:World}(h:Same X w w1)(hs:Same Y w1 w2)(hb:∀ g∈Y,g∈X\/w.heap.size<=g):Same X w w2:=
 ⟨hs.os.trans h.os,hs.tape.trans h.tape,hs.output.trans h.output,nLT h.size hs.size,fun k hk hx=>(hs.blk k (nLL hk h.size) (fun hm=>by
  rcases hb k hm with h1|h1
  ·exact hx h1
  ·omega)).trans (h.blk k hk hx)⟩
def ndV(f h:Nat->Value)(k:Nat):List Value:=(List.range k).flatMap (fun x=>[f x,h x])
theorem V4(f h:Nat->Value)(k:Nat):ndV f h (k+1)=ndV f h k++[f k,h k]:=by simp[ndV,List.range_succ,List.flatMap_append]
theorem Q6{f f' h h':Nat->Value}:∀ {k:Nat},(∀ x,x<k->f x=f' x)->(∀ x,x<k->h x=h' x)->ndV f h k=ndV f' h' k
 | 0,_,_=>rfl
 | k+1,h1,h2=>by rw[V4,V4,Q6 (fun x hx=>h1 x oG) (fun x hx=>h2 x oG),h1 k oG,h2 k oG]
theorem VY(f h:Nat->Value):∀ k,(ndV f h k).length=k*2
 | 0=>rfl
 | k+1=>by rw[V4,List.length_append,VY f h k];simp only[List.length_cons,List.length_nil];omega
theorem ZQ(f h:Nat->Value):∀ {k x:Nat},x<k->(ndV f h k)[x*2]? =some (f x)/\(ndV f h k)[x*2+1]? =some (h x)
 | 0,_,hx=>by omega
 | k+1,x,hx=>by
  have hl:=VY f h k
  rw[V4]
  by_cases e:x<k
  ·have ih:=ZQ f h e
   rw[List.getElem?_append_left oG,List.getElem?_append_left oG]
   exact ih
  ·have e2:x=k:=by omega
   subst e2
   rw[List.getElem?_append_right oG,List.getElem?_append_right oG,hl]
   have e3:x*2-x*2=0:=by omega
   have e4:x*2+1-x*2=1:=by omega
   rw[e3,e4];exact⟨rfl,rfl⟩
theorem Own.fr{w w2:World}{lo base:Nat}{e:TypeId}{sz:Nat}{A:Option Addr}{k cap:Nat}{xs:List Value}(h:Own w base e sz A k cap xs)(hl:lo<=base)(hf:FrSame lo w w2):Own w2 base e sz A k cap xs:=by
 refine⟨h.1,?_⟩;rcases h.2 with hn|⟨g,c,cur,hv,hb,hg,r⟩
 ·exact .inl hn
 ·exact .inr ⟨g,c,cur,hv,hb,(hf.blk g (nLT hl hb) (u4 hg)).trans hg,r⟩
theorem S4{w:World}{lo base m cap bs:Nat}{A:Option Addr}{f h:Nat->Value}{gr:List Nd}(ho:Own w base 93 2 A m cap (ndV f h m))(hm:gr.length=m)(hf:∀ k (hk:k<gr.length),f k= .int .i64 (gr[k]).ty)(hh:∀ k (hk:k<gr.length),RowO w lo bs (h k) (gr[k]).ln):NodesIn w A gr:=
 ⟨by rw[hm];exact ho.max,fun hn=>by
  have hne:ndV f h m≠[]:=fun h0=>by
   have h1:=VY f h m
   rw[h0]at h1
   exact hn (aB.1 (by simp only[List.length_nil]at h1;omega))
  obtain⟨g,e,hb,hg,hc⟩:=ho.cell hne
  refine⟨g,0,e,hg,fun k hk=>?_⟩
  obtain⟨A',c,h1,h2,_⟩:=hh k hk
  have h3:=ZQ f h (show k<m by omega)
  refine⟨A',c,fun j v hj=>?_,BY h2⟩
  match j,hj with
  | 0,hj=>cases hj;rw[<- hf k hk];have:=hc _ _ h3.1;simpa using this
  | 1,hj=>cases hj;rw[<- h1];have:=hc _ _ h3.2;simpa using this
  | _+2,hj=>cases hj⟩
theorem sz26:(prog.info? 26).map (·.size)=some 1:=by kernel_rfl
theorem xx:(prog.info? 3).map (·.size)=some 1:=by kernel_rfl
theorem jQ:(prog.info? 4).map (·.size)=some 1:=by kernel_rfl
theorem zq:(prog.info? 45).map (·.size)=some 2:=by kernel_rfl
theorem Yj:(prog.info? 90).map (·.size)=some 2:=by kernel_rfl
theorem sz91:(prog.info? 91).map (·.size)=some 1:=by kernel_rfl
theorem JW:(prog.info? 93).map (·.size)=some 2:=by kernel_rfl
theorem qK:(prog.info? 45).map (·.zero)=some (some (.agg #[.int .i64 0,.int .i64 0])):=by kernel_rfl
theorem OK:(prog.info? 90).map (·.zero)=some (some (.agg #[.int .i64 0,.int .i64 0])):=by kernel_rfl
theorem ze93:(prog.info? 93).map (·.zero)=some (some (.agg #[.int .i64 0,.slice none 0 0])):=by kernel_rfl
theorem S7(b n:Nat)(mk:Nat->Bool)(w:World)(hb:Blk w b 4 (row n (fun x=> .bool (mk x))))(hn:n<=1000):Calls prog 63 #[.slice (some ⟨b,0,none⟩) n n,.bool false] w fun e w'=>(∃ r,e= .returned (.int .i64 r)/\((r= -1/\∀ i,i<n->mk i=true)\/∃ k:Nat,r=k/\k<n/\mk k=false/\∀ i,i<k->mk i=true))/\Bel w w':=by
 refine enT func63 ntmps63 rfl rfl fun hB=>?_;refine Jj ?_;refine qj (rg [4,5] 8 11) (fun m g w'=>∃ k:Nat,k<=n/\m=n-k/\g 8= .int .i64 k/\Bel w w'/\∀ i,i<k->mk i=true) (n) ?_ (fun m g2 w1 hI=>?_)
 ·exact⟨0,ag _,rfl,rfl,hB,fun i hi=>by omega⟩
 obtain⟨k,hk,hm,h8,hB,hA⟩:=hI;refine zK 8 _ h8 nu (zn6 ?_);refine zV rfl (fun c9=>?_) (fun c9=>?_)
 ·have hlt:k<n:=by omega
  refine M2 ?_;refine wl (qW (v:= .bool _) U4 rfl rfl ((hb.bel hB).cell (jJ hlt))) (wl (r_eqlB U4 rfl rfl) (zQ (e_S ?_)));refine ky rfl (fun a1=>?_) (fun a1=>?_)
  ·have hmk:mk k=false:=by simpa using a1
   refine oJ ?_;exact⟨⟨_,rfl,.inr ⟨k,rfl,hlt,hmk,hA⟩⟩,hB⟩
  refine zn7 ?_;refine xK (n-(k+1)) oG agA ?_
  exact⟨k+1,by omega,rfl,rfl,hB,fun i hi=>by
    by_cases e:i=k
    ·subst e;simpa using a1
    ·exact hA i oG⟩
 have hke:k=n:=by omega
 subst hke;refine jz ?_;exact⟨⟨_,rfl,.inl ⟨rfl,hA⟩⟩,hB⟩
theorem Q9(a b:Int)(w:World):Calls prog 85 #[.int .i64 a,.int .i64 b] w fun e w'=>e= .returned (flV (a,b))/\Bel w w':=by
 refine enT func85 ntmps85 rfl rfl fun hB=>?_;refine zn2 ?_;refine qk (cs:=#[.int .i64 0,.int .i64 0]) qK rfl (fun b4 w1 a1 s1 hr=>?_);have lo4:=nLT (Bel.size hB) hr;refine zn6 ?_;refine wl (jk (v0:= .int _ _) (v1:= .int _ _) (fun v0 v1=>#[v0,v1]) rfl rfl kR) ?_;refine zk a1 rfl rfl zq rfl zJ (fun w2 hq s2=>?_);replace a1:=hq;refine zn3 ?_;refine yx (.inl rfl) rfl (zZ U45 rfl rfl a1.range0 zq) ?_;exact⟨rfl,hB.u⟩
theorem loose_any(A B G:Option Addr)(c d cg:Nat)(l:List Ty)(fs:List Ft)(gr:List Nd)(w:World)(hG:NodesIn w G gr):Calls prog 84 #[.agg #[.slice A l.length c,.slice B fs.length d],.agg #[.slice G gr.length cg]] w fun e w'=>e= .returned (flV (vJ l.length fs.length gr))/\Bel w w':=by
 refine enT func84 ntmps84 rfl rfl fun hB=>?_;refine zn2 ?_;refine qY (v:= .agg #[_,_]) (cs:=#[_,_]) rfl rfl (fun b2 w1 a6 s1 hr=>?_);refine qY (v:= .agg #[_]) (cs:=#[_]) rfl rfl (fun b3 w2 a5 s2 hr=>?_);refine qk (cs:=#[.int .i64 0,.int .i64 0]) qK rfl (fun b4 w3 a1 s3 hr=>?_);have lo4:=nLT (Bel.size hB.u) hr;refine zn4 ?_;replace hB:=hB.tr0 (s1.t (s2.t s3));refine xk (rg [] 10 10) 19 (.bool (decide (gr.length=0\/60<gr.length))) nu ?_ (fun gq=>?_)
 ·refine zn6 ?_;refine zw 14 rfl (fun g14=>?_) (fun g14=>?_)
  ·refine zn5 ?_;refine zQ (e_R ⟨rfl,agA,?_⟩);exact clA
  refine zn9 ?_;refine zQ (e_R ⟨rfl,agA,?_⟩);exact clA
 refine e_S ?_;refine zV rfl (fun b7=>?_) (fun b7=>?_)
 ·refine zn2 ?_;refine aY kR (Q9 _ _ _) rfl (fun w4 s4=>?_);refine zk a1.u rfl rfl zq rfl zJ (fun w5 hq s5=>?_);replace a1:=hq;refine zn4 ?_;refine yx (.inl rfl) rfl (zZ U45 rfl rfl a1.range0 zq) ?_;replace hB:=(hB.tr0 s4).tr1 s5 lo4;exact⟨vj (by simp only[vJ,if_pos b7]),hB⟩
 have hR:=Lib.hid (show vJ l.length fs.length gr=vk (XQ l.length fs.length gr) 0 (gr.length-0) by simp only[vJ,if_neg b7,Nat.sub_zero]);refine jz ?_;refine qj (rg [5,6,7,9] 24 61) (fun m g w'=>∃ k:Nat,k<=gr.length/\m=gr.length-k/\g 24= .int .i64 k/\Bel w w'/\Blk w' b2 25 #[.slice A l.length c,.slice B fs.length d]/\Blk w' b3 28 #[.slice G gr.length cg]/\Blk w' b4 45 #[.int .i64 0,.int .i64 0]/\vJ l.length fs.length gr=vk (XQ l.length fs.length gr) k (gr.length-k)) (gr.length) ?_ (fun m g4 w6 hI=>?_)
 ·exact⟨0,ag _,rfl,rfl,hB,a6.u,a5.u,a1,hR.out⟩
 obtain⟨k,hk,hm,hk0,hB,a6,a5,a1,a9⟩:=hI;refine zK 24 _ hk0 nu (zn6 ?_);refine zV rfl (fun c25=>?_) (fun c25=>?_)
 ·have a2:k<gr.length:=by omega
  obtain⟨nb,no,LA,lc,rfl,hnb,hnr,hln⟩:=hG.at_ hB a2;have hmx:=hln.1;unfold jx at hmx;refine zn8 ?_;refine wl (qZ U93 rfl rfl hnr JW) ?_;refine qk (cs:=#[.int .i64 0,.slice none 0 0]) ze93 rfl (fun b6 w7 a8 s6 hr=>?_);have:=nLL a6.lt hr;have:=nLL a5.lt hr;have:=nLL a1.lt hr;have lo6:=nLT (Bel.size hB) hr;refine waI rfl ?_;refine zk a8 rfl rfl JW rfl zJ (fun w8 hq s7=>?_);replace a8:=hq;refine zn4 ?_;replace hB:=(hB.tr0 s6).tr1 s7 lo6;replace a1:=(a1.tr0 s6).tr1 s7 oG;refine xk (rg [] 29 11) 39 (.bool (decide ((gr[k]'a2).ty<0\/(l.length:Int)<=(gr[k]'a2).ty))) nu ?_ (fun gq=>?_)
  ·refine zn5 ?_;refine zw 32 rfl (fun g32=>?_) (fun g32=>?_)
   ·refine zn7 ?_;refine zQ (e_R ⟨rfl,agA,?_⟩);exact clA
   refine oJ ?_;refine zQ (e_R ⟨rfl,agA,?_⟩);exact clA
  refine e_S ?_;refine zV rfl (fun b5=>?_) (fun b5=>?_)
  ·have a7:=Iq (nf:=fs.length) a2 b5;refine zn3 ?_;refine aY kR (Q9 _ _ _) rfl (fun w9 s8=>?_);refine zk a1.u rfl rfl zq rfl zJ (fun w10 hq s9=>?_);replace a1:=hq;refine zn9 ?_;refine yx (.inl rfl) rfl (zZ U45 rfl rfl a1.range0 zq) ?_;exact⟨vj (a9.trans (yW (c:=3) oG a7 dE)),hB.u⟩
  refine M2 ?_;refine qj (rg [7,9] 45 39) (fun m g w'=>∃(j:Nat) (a4:Int),j<=(gr[k]'a2).ln.length/\m=(gr[k]'a2).ln.length-j/\g 45= .int .i64 j/\g 7= .int .i64 a4/\Bel w w'/\Blk w' b2 25 #[.slice A l.length c,.slice B fs.length d]/\Blk w' b3 28 #[.slice (some ⟨nb,no,none⟩) gr.length cg]/\Blk w' b4 45 #[.int .i64 0,.int .i64 0]/\Blk w' b6 93 #[.int .i64 (gr[k]'a2).ty,.slice LA (gr[k]'a2).ln.length lc]/\XQ l.length fs.length gr k=yw fs.length gr.length a4 ((gr[k]'a2).ln.drop j)) ((gr[k]'a2).ln.length) ?_ (fun m g10 w11 hI=>?_)
  ·exact⟨0,-1,ag _,rfl,rfl,rfl,hB,a6.u,a5.u,a1,a8,Xz a2 b5⟩
  obtain⟨j,a4,hj,hmj,h45,h7,hB,a6,a5,a1,a8,hP⟩:=hI;refine zK 45 _ h45 nu (zK 7 _ h7 nu (zn6 ?_));refine zV rfl (fun c46=>?_) (fun c46=>?_)
  ·have a3:j<(gr[k]'a2).ln.length:=by omega
   obtain⟨lb,lof,rfl,hlb,hlr⟩:=hln.at_ hB a3;refine zn7 ?_;refine wl (qZ U90 rfl rfl hlr Yj) ?_;refine yj (cs:=#[.int .i64 0,.int .i64 0]) OK rfl (fun _=>rfl) (fun _=>rfl) Yj rfl zJ (fun b9 w13 hb9 s10 hr=>?_);refine zn4 ?_;replace hB:=hB.tr0 s10;replace a1:=a1.tr0 s10;refine xk (rg [] 49 24) 72 (.bool (decide (((gr[k]'a2).ln[j]'a3).1<0\/(fs.length:Int)<=((gr[k]'a2).ln[j]'a3).1\/((gr[k]'a2).ln[j]'a3).2<0\/(gr.length:Int)<=((gr[k]'a2).ln[j]'a3).2))) nu ?_ (fun gq=>?_)
   ·refine zn5 ?_;refine zw 52 rfl (fun g52=>?_) (fun g52=>?_)
    ·refine zn20 ?_;refine zQ (e_R ⟨rfl,agA,?_⟩);exact clA
    refine Jj ?_;refine zw 60 rfl (fun g60=>?_) (fun g60=>?_)
    ·refine jz ?_;refine zQ (e_R ⟨rfl,agA,?_⟩);exact clA
    refine zn8 ?_;refine zw 65 rfl (fun g65=>?_) (fun g65=>?_)
    ·refine zn7 ?_;refine zQ (e_R ⟨rfl,agA,?_⟩);exact clA
    refine oJ ?_;refine zQ (e_R ⟨rfl,agA,?_⟩);exact clA
   refine e_S ?_;refine zV rfl (fun ad=>?_) (fun ad=>?_)
   ·have a7:=hP.trans (ln_bad a3 (show uX _ _ _ from ad));refine zn3 ?_;refine aY kR (Q9 _ _ _) rfl (fun w14 s11=>?_);refine zk a1.u rfl rfl zq rfl zJ (fun w15 hq s12=>?_);replace a1:=hq;refine oJ ?_;refine yx (.inl rfl) rfl (zZ U45 rfl rfl a1.range0 zq) ?_;exact⟨vj (a9.trans (yW (c:=3) oG a7 dE)),hB.u⟩
   refine kQ ?_;refine zV rfl (fun b1=>?_) (fun b1=>?_)
   ·have a7:=hP.trans (ln_ord a3 (show ¬uX _ _ _ from ad) b1);refine zn3 ?_;refine aY kR (Q9 _ _ _) rfl (fun w16 s13=>?_);refine zk a1.u rfl rfl zq rfl zJ (fun w17 hq s14=>?_);replace a1:=hq;refine oJ ?_;refine yx (.inl rfl) rfl (zZ U45 rfl rfl a1.range0 zq) ?_;exact⟨vj (a9.trans (yW (c:=13) oG a7 dE)),hB.u⟩
   have hP':=hP.trans (TW a3 (show ¬uX _ _ _ from ad) b1);refine oJ ?_;refine xK ((gr[k]'a2).ln.length-(j+1)) oG agA ?_;exact⟨j+1,_,by omega,rfl,rfl,rfl,hB,a6.u,a5.u,a1,a8.u,hP'⟩
  have an:=hP.trans (ln_end oG);refine vy ?_;refine xK (gr.length-(k+1)) oG agA ?_;exact⟨k+1,by omega,rfl,rfl,hB,a6,a5,a1,a9.trans (ov a2 an)⟩
 refine zn7 ?_;refine wl (kK (vs:=#[]) (cs:=#[.int .i64 0,.int .i64 0]) (by simp) kR) ?_;refine zk a1 rfl rfl zq rfl zJ (fun w18 hq s15=>?_);replace a1:=hq;refine zn3 ?_;refine yx (.inl rfl) rfl (zZ U45 rfl rfl a1.range0 zq) ?_;exact⟨vj (a9.trans (Z4 oG)),hB.u⟩
theorem G0(A B G:Option Addr)(c d cg:Nat)(l:List Ty)(fs:List Ft)(gr:List Nd)(w:World)(hG:NodesIn w G gr):Calls prog 37 #[.agg #[.slice A l.length c,.slice B fs.length d],.agg #[.slice G gr.length cg]] w fun e w'=>e= .returned (flV (vJ l.length fs.length gr))/\Bel w w':=by
 refine enT func37 ntmps37 rfl rfl fun hB=>?_;refine zn2 ?_;refine qY (v:= .agg #[_,_]) (cs:=#[_,_]) rfl rfl (fun b2 w1 a6 s1 hr=>?_);refine qY (v:= .agg #[_]) (cs:=#[_]) rfl rfl (fun b3 w2 a5 s2 hr=>?_);refine qk (cs:=#[.int .i64 0,.int .i64 0]) qK rfl (fun b4 w3 a1 s3 hr=>?_);have lo4:=nLT (Bel.size hB.u) hr;refine zn4 ?_;replace hB:=hB.tr0 (s1.t (s2.t s3));refine xk (rg [] 9 10) 18 (.bool (decide (gr.length=0\/60<gr.length))) nu ?_ (fun gq=>?_)
 ·refine zn6 ?_;refine zw 13 rfl (fun g13=>?_) (fun g13=>?_)
  ·refine zn5 ?_;refine zQ (e_R ⟨rfl,agA,?_⟩);exact clA
  refine zn9 ?_;refine zQ (e_R ⟨rfl,agA,?_⟩);exact clA
 refine e_S ?_;refine zV rfl (fun bc=>?_) (fun bc=>?_)
 ·refine zn2 ?_;refine wl (jk (v0:= .int _ _) (v1:= .int _ _) (fun v0 v1=>#[v0,v1]) rfl rfl kR) ?_;refine zk a1 rfl rfl zq rfl zJ (fun w4 hq s4=>?_);replace a1:=hq;refine zn4 ?_;refine yx (.inl rfl) rfl (zZ U45 rfl rfl a1.range0 zq) ?_;replace hB:=hB.tr1 s4 lo4;exact⟨vj (by simp only[vJ,if_pos bc]),hB⟩
 have hR:=Lib.hid (show vJ l.length fs.length gr=vk (XQ l.length fs.length gr) 0 (gr.length-0) by simp only[vJ,if_neg bc,Nat.sub_zero]);refine jz ?_;refine qj (rg [5,6,7,8] 23 70) (fun m g w'=>∃ k:Nat,k<=gr.length/\m=gr.length-k/\g 23= .int .i64 k/\Bel w w'/\Blk w' b2 25 #[.slice A l.length c,.slice B fs.length d]/\Blk w' b3 28 #[.slice G gr.length cg]/\Blk w' b4 45 #[.int .i64 0,.int .i64 0]/\vJ l.length fs.length gr=vk (XQ l.length fs.length gr) k (gr.length-k)) (gr.length) ?_ (fun m g4 w5 hI=>?_)
 ·exact⟨0,ag _,rfl,rfl,hB,a6.u,a5.u,a1,hR.out⟩
 obtain⟨k,hk,hm,hk0,hB,a6,a5,a1,ad⟩:=hI;refine zK 23 _ hk0 nu (zn6 ?_);refine zV rfl (fun c24=>?_) (fun c24=>?_)
 ·have a2:k<gr.length:=by omega
  obtain⟨nb,no,LA,lc,rfl,hnb,hnr,b9⟩:=hG.at_ hB a2;have hmx:=b9.1;unfold jx at hmx;refine zn8 ?_;refine wl (qZ U93 rfl rfl hnr JW) ?_;refine qk (cs:=#[.int .i64 0,.slice none 0 0]) ze93 rfl (fun b6 w6 a7 s5 hr=>?_);have:=nLL a6.lt hr;have:=nLL a5.lt hr;have:=nLL a1.lt hr;have lo6:=nLT (Bel.size hB) hr;refine waI rfl ?_;refine zk a7 rfl rfl JW rfl zJ (fun w7 hq s6=>?_);replace a7:=hq;refine zn4 ?_;replace hB:=(hB.tr0 s5).tr1 s6 lo6;replace a1:=(a1.tr0 s5).tr1 s6 oG;refine xk (rg [] 28 11) 38 (.bool (decide ((gr[k]'a2).ty<0\/(l.length:Int)<=(gr[k]'a2).ty))) nu ?_ (fun gq=>?_)
  ·refine zn5 ?_;refine zw 31 rfl (fun g31=>?_) (fun g31=>?_)
   ·refine zn7 ?_;refine zQ (e_R ⟨rfl,agA,?_⟩);exact clA
   refine oJ ?_;refine zQ (e_R ⟨rfl,agA,?_⟩);exact clA
  refine e_S ?_;refine zV rfl (fun bb=>?_) (fun bb=>?_)
  ·have a9:=Iq (nf:=fs.length) a2 bb;refine zn3 ?_;refine wl (jk (v0:= .int _ _) (v1:= .int _ _) (fun v0 v1=>#[v0,v1]) rfl rfl kR) ?_;refine zk a1 rfl rfl zq rfl zJ (fun w8 hq s7=>?_);replace a1:=hq;refine zn9 ?_;refine yx (.inl rfl) rfl (zZ U45 rfl rfl a1.range0 zq) ?_;exact⟨vj (ad.trans (yW (c:=3) oG a9 dE)),hB.u⟩
  refine kQ ?_;refine qj (rg [7,8] 44 48) (fun m g w'=>∃(j:Nat) (a3:Int),j<=(gr[k]'a2).ln.length/\m=(gr[k]'a2).ln.length-j/\g 44= .int .i64 j/\Bel w w'/\Blk w' b2 25 #[.slice A l.length c,.slice B fs.length d]/\Blk w' b3 28 #[.slice (some ⟨nb,no,none⟩) gr.length cg]/\Blk w' b4 45 #[.int .i64 0,.int .i64 0]/\Blk w' b6 93 #[.int .i64 (gr[k]'a2).ty,.slice LA (gr[k]'a2).ln.length lc]/\(j=0->a3= -1)/\(∀ h:0<j/\j-1<(gr[k]'a2).ln.length,a3=((gr[k]'a2).ln[j-1]'h.2).1)/\XQ l.length fs.length gr k=yw fs.length gr.length a3 ((gr[k]'a2).ln.drop j)) ((gr[k]'a2).ln.length) ?_ (fun m g9 w9 hI=>?_)
  ·exact⟨0,-1,ag _,rfl,rfl,hB,a6.u,a5.u,a1,a7,fun _=>rfl,fun h=>by omega,Xz a2 bb⟩
  obtain⟨j,a3,hj,hmj,h44,hB,a6,a5,a1,a7,hl0,hl1,hP⟩:=hI;refine zK 44 _ h44 nu (zn6 ?_);refine zV rfl (fun c45=>?_) (fun c45=>?_)
  ·have a4:j<(gr[k]'a2).ln.length:=by omega
   have b7:=b9;obtain⟨lb,lof,rfl,hlb,hlr⟩:=b9.at_ hB a4;have hpd:∀ h:j-1<(gr[k]'a2).ln.length,w.rangeAt lb (lof+(j-1)*2) [.int .i64 ((gr[k]'a2).ln[j-1]'h).1,.int .i64 ((gr[k]'a2).ln[j-1]'h).2]:=fun h=>by
     obtain⟨pb,po,he,hpb,hpr⟩:=b7.at_ (Below.refl _ _:Bel w w) h;cases he;exact hpr
   refine zn8 ?_;refine wl (qZ U90 rfl rfl hlr Yj) ?_;refine qk (cs:=#[.int .i64 0,.int .i64 0]) OK rfl (fun b8 w10 ba s8 hr=>?_);have:=nLL a6.lt hr;have:=nLL a5.lt hr;have:=nLL a1.lt hr;have:=nLL a7.lt hr;have lo8:=nLT (Bel.size hB) hr;refine waI rfl ?_;refine zk ba rfl rfl Yj rfl zJ (fun w11 hq s9=>?_);replace ba:=hq;refine zn4 ?_;replace hB:=(hB.tr0 s8).tr1 s9 lo8;replace a1:=(a1.tr0 s8).tr1 s9 oG;refine xk (rg [] 49 24) 72 (.bool (decide (((gr[k]'a2).ln[j]'a4).1<0\/(fs.length:Int)<=((gr[k]'a2).ln[j]'a4).1\/((gr[k]'a2).ln[j]'a4).2<0\/(gr.length:Int)<=((gr[k]'a2).ln[j]'a4).2))) nu ?_ (fun gq=>?_)
   ·refine zn5 ?_;refine zw 52 rfl (fun g52=>?_) (fun g52=>?_)
    ·refine zn20 ?_;refine zQ (e_R ⟨rfl,agA,?_⟩);exact clA
    refine Jj ?_;refine zw 60 rfl (fun g60=>?_) (fun g60=>?_)
    ·refine jz ?_;refine zQ (e_R ⟨rfl,agA,?_⟩);exact clA
    refine zn8 ?_;refine zw 65 rfl (fun g65=>?_) (fun g65=>?_)
    ·refine zn7 ?_;refine zQ (e_R ⟨rfl,agA,?_⟩);exact clA
    refine oJ ?_;refine zQ (e_R ⟨rfl,agA,?_⟩);exact clA
   refine e_S ?_;refine zV rfl (fun an=>?_) (fun an=>?_)
   ·have a9:=hP.trans (ln_bad a4 (show uX _ _ _ from an));refine zn3 ?_;refine wl (jk (v0:= .int _ _) (v1:= .int _ _) (fun v0 v1=>#[v0,v1]) rfl rfl kR) ?_;refine zk a1 rfl rfl zq rfl zJ (fun w12 hq s10=>?_);replace a1:=hq;refine oJ ?_;refine yx (.inl rfl) rfl (zZ U45 rfl rfl a1.range0 zq) ?_;exact⟨vj (ad.trans (yW (c:=3) oG a9 dE)),hB.u⟩
   refine zn3 ?_;refine Qx kR kR (fun w13 a8=>?_);refine zn3 ?_;refine u7 77 rfl (fun g77=>?_) (fun g77=>?_)
   ·refine j8 77 rfl rfl (uK U90 xx dE rfl rfl rfl) (j8 77 rfl rfl (qW (v:= .int _ _) U3 rfl rfl (ba.u.cell rfl)) (j8 77 rfl rfl (uK U93 sz91 dE rfl rfl rfl) (j8 77 rfl rfl (qW (v:= .slice _ _ _) U91 rfl rfl (a7.u.cell rfl)) (j8 77 rfl rfl (xz (v:= .int _ _) rfl) (j8 77 rfl rfl (jX (c:=((j-1:Nat):Int)) rfl rfl oG oG) (j8 77 rfl rfl (xX (i:=j-1) U91 Yj rfl rfl oG rfl) (j8 77 rfl rfl (uK U90 xx dE rfl rfl rfl) (j8 77 rfl rfl (qW (v:= .int _ _) U3 rfl rfl (hB.u.cell hlb (hpd oG 0 _ rfl))) (j8 77 rfl rfl (r_leq rfl rfl) (zn1 ?_))))))))));refine uW (e_S ?_);refine zV rfl (fun c88=>?_) (fun c88=>?_)
    ·have a9:=hP.trans (ln_ord a4 (show ¬uX _ _ _ from an) (by have:=hl1 ⟨by omega,by omega⟩;omega));refine zn3 ?_;refine wl (jk (v0:= .int _ _) (v1:= .int _ _) (fun v0 v1=>#[v0,v1]) rfl rfl kR) ?_;refine zk a1.u rfl rfl zq rfl zJ (fun w14 hq s12=>?_);replace a1:=hq;refine jz ?_;refine yx (.inl rfl) rfl (zZ U45 rfl rfl a1.range0 zq) ?_;exact⟨vj (ad.trans (yW (c:=13) oG a9 dE)),hB.u⟩
    refine zn7 ?_;refine xK ((gr[k]'a2).ln.length-(j+1)) oG agA ?_;have b5:¬((gr[k]'a2).ln[j]'a4).1<=a3:=fun h=>by
      by_cases e:j=0
      · have:=hl0 e;omega
      · have:=hl1 ⟨by omega,by omega⟩
        omega
    replace a6:=((a6.tr0 s8).tr1 s9 oG).tr0 a8;replace a5:=((a5.tr0 s8).tr1 s9 oG).tr0 a8;replace a7:=((a7.tr0 s8).tr1 s9 oG).tr0 a8;replace hB:=hB.tr0 a8;replace a1:=a1.tr0 a8;exact⟨j+1,((gr[k]'a2).ln[j]'a4).1,by omega,rfl,rfl,hB,a6,a5,a1,a7,fun h=>by omega,fun h=>rfl,hP.trans (TW a4 (show ¬uX _ _ _ from an) b5)⟩
   refine kQ ?_;refine uW (zn9 ?_);refine xK ((gr[k]'a2).ln.length-(j+1)) oG agA ?_;have b5:¬((gr[k]'a2).ln[j]'a4).1<=a3:=fun h=>by
     by_cases e:j=0
     · have:=hl0 e;omega
     · have:=hl1 ⟨by omega,by omega⟩
       omega
   replace a6:=((a6.tr0 s8).tr1 s9 oG).tr0 a8;replace a5:=((a5.tr0 s8).tr1 s9 oG).tr0 a8;replace a7:=((a7.tr0 s8).tr1 s9 oG).tr0 a8;replace hB:=hB.tr0 a8;replace a1:=a1.tr0 a8;exact⟨j+1,((gr[k]'a2).ln[j]'a4).1,by omega,rfl,rfl,hB,a6,a5,a1,a7,fun h=>by omega,fun h=>rfl,hP.trans (TW a4 (show ¬uX _ _ _ from an) b5)⟩
  have b1:=hP.trans (ln_end oG);refine vy ?_;refine xK (gr.length-(k+1)) oG agA ?_;exact⟨k+1,by omega,rfl,rfl,hB,a6,a5,a1,ad.trans (ov a2 b1)⟩
 refine zn7 ?_;refine wl (kK (vs:=#[]) (cs:=#[.int .i64 0,.int .i64 0]) (by simp) kR) ?_;refine zk a1 rfl rfl zq rfl zJ (fun w15 hq s13=>?_);replace a1:=hq;refine zn3 ?_;refine yx (.inl rfl) rfl (zZ U45 rfl rfl a1.range0 zq) ?_;exact⟨vj (ad.trans (Z4 oG)),hB.u⟩
theorem in3:(prog.info? 3).map (fun i=>(i.zero,i.size,i.bytes))=some (some (.int .i64 0),1,8):=by kernel_rfl
theorem H0:(prog.info? 4).map (fun i=>(i.zero,i.size,i.bytes))=some (some (.bool false),1,1):=by kernel_rfl
theorem Qj:(prog.info? 3).map (·.zero)=some (some (.int .i64 0)):=by kernel_rfl
theorem unr_any(G:Option Addr)(cg nt nf:Nat)(gr:List Nd)(w:World)(hG:NodesIn w G gr)(hk:GOk nt nf gr):Calls prog 86 #[.agg #[.slice G gr.length cg]] w fun e w'=>e= .returned (.int .i64 (JX gr))/\Bel w w':=by
 have hn6:=hk.le;have hn0:=hk.pos;refine enT func86 ntmps86 rfl rfl fun hB=>?_;refine zn2 ?_;refine qY (v:= .agg #[_]) (cs:=#[_]) rfl rfl (fun b1 w1 a2 s1 hr=>?_);refine zn8 ?_;refine M3 (m:=gr.length) C9 H0 rfl rfl rfl oG oG (fun b3 w2 a1 s2 hr=>?_);have:=nLL a2.lt hr;have b9:=nLT (Bel.size hB.u) hr;refine zn6 ?_;refine wl (xX (i:=0) C9 jQ rfl rfl hn0 rfl) ?_;refine xZ (v:= .bool _) a1 rfl rfl jQ (by rw[row_size];omega) rfl uk (fun w3 hq s3=>?_);replace a1:=hq;rw[vx (g':=fun x=> .bool (Zq (fun _=>false) 0 x)) (fun x _=>by by_cases e:x=0<;>simp[Zq,e])]at a1;refine zn5 ?_;refine qv (cs:=#[_]) [(0,.int _ _)] rfl U68 xx Qj dE dE kR rfl (fun b14 w4 bf s4 hr=>?_);have a4:b3<b14:=nLL a1.lt hr;refine zn4 ?_;refine qj (rg [4,5,7] 15 41) (fun m g w'=>∃(st:List Int) (A4:Option Addr) (ad:Nat) (mk:Nat->Bool),m=2*jW gr.length mk+st.length/\2*jW gr.length mk+st.length<=200/\g 4= .slice A4 st.length ad/\Bel w w'/\Blk w' b1 28 #[.slice G gr.length cg]/\Blk w' b3 4 (row gr.length (fun x=> .bool (mk x)))/\Own w' (b3+1) 3 1 A4 (st).length ad ((st).map (Value.int .i64))/\DS gr mk st gr.length 0) (2*jW gr.length (Zq (fun _=>false) 0)+1) ?_ (fun m g4 w5 hI=>?_)
 ·replace hB:=((hB.tr0 (s1.t s2)).tr1 s3 b9).tr0 s4;replace a2:=((a2.tr0 s2).tr1 s3 oG).tr0 s4;replace a1:=a1.tr0 s4;exact⟨[0],_,_,Zq (fun _=>false) 0,rfl,by have:=Pv gr.length (Zq (fun _=>false) 0);simp only[List.length_cons,List.length_nil];omega,rfl,hB,a2,a1,I9 bf a4 rfl dE,DS.start hn0⟩
 obtain⟨st,A4,ad,mk,hm,hbd,h4,hB,a2,a1,ho,hds⟩:=hI;refine zK 4 _ h4 nu (zn8 ?_);refine zV rfl (fun c17=>?_) (fun c17=>?_)
 ·obtain⟨a5,z,rfl⟩:=snoc_of (show 0<st.length by omega);obtain⟨i,rfl,a3,bd⟩:=hds.pop;have b6:(a5++[(i:Int)]).length=a5.length+1:=by simp
  obtain⟨q,rfl,hqb,hql,hqc⟩:=ho.cell (by simp);have hz:w5.cell? ⟨q,0+a5.length*1,none⟩=some (.int .i64 (i:Int)):=by
    have:=hqc a5.length (.int .i64 (i:Int)) (by simp)
    simpa using this
  obtain⟨nb,no,LA,lc,rfl,hnb,hnr,hln⟩:=hG.at_ hB a3;have hmx:=hln.1;unfold jx at hmx;refine zn8 ?_;refine wl (jX (c:=(a5.length:Int)) rfl rfl (by rw[b6];omega) oG) (wl (xX (i:=a5.length) U68 xx rfl rfl (by rw[b6];omega) rfl) (wl (qW (v:= .int _ _) U3 rfl rfl hz) (zn8 ?_)));refine wl (jX (c:=(a5.length:Int)) rfl rfl (by rw[b6];omega) oG) (wl (Dq (h:=a5.length) U68 xx rfl rfl (by have:=ho.cap_le;omega)) (zn4 ?_));replace ho:Own w5 (b3+1) 3 1 (some ⟨q,0,none⟩) a5.length ad (a5.map (Value.int .i64)):=by
    have h:=ho.take (k':=a5.length) oG oG
    simpa using h
  refine zn4 ?_;refine wl (xX (i:=i) U26 JW rfl rfl a3 rfl) (zn1 ?_);refine wl (qW (v:= .slice _ _ _) U91 rfl rfl (hnr 1 _ rfl)) (zn5 ?_);refine qj (rg [4,7] 36 20) (fun m g w'=>∃(j:Nat) (a6:List Int) (A5:Option Addr) (b8:Nat) (a7:Nat->Bool),j<=(gr[i]'a3).ln.length/\m=(gr[i]'a3).ln.length-j/\g 36= .int .i64 j/\g 4= .slice A5 a6.length b8/\2*jW gr.length a7+a6.length<=2*jW gr.length mk+a5.length/\Bel w w'/\Blk w' b1 28 #[.slice (some ⟨nb,no,none⟩) gr.length cg]/\Blk w' b3 4 (row gr.length (fun x=> .bool (a7 x)))/\Own w' (b3+1) 3 1 A5 (a6).length b8 ((a6).map (Value.int .i64))/\DS gr a7 a6 i j) ((gr[i]'a3).ln.length) ?_ (fun m g8 w6 hI=>?_)
  ·exact⟨0,a5,_,_,mk,ag _,rfl,rfl,rfl,ae _,hB,a2,a1,ho,bd⟩
  obtain⟨j,a6,A5,b8,a7,hj,hmj,h36,h4,hms,hB,a2,a1,ho,a9⟩:=hI;refine zK 36 _ h36 nu (zK 4 _ h4 nu (zn6 ?_));refine zV rfl (fun c37=>?_) (fun c37=>?_)
  ·have b2:j<(gr[i]'a3).ln.length:=by omega
   obtain⟨lb,lof,rfl,hlb,hlr⟩:=hln.at_ hB b2;obtain⟨t,ht,htl⟩:∃ t:Nat,((gr[i]'a3).ln[j]'b2).2=(t:Int)/\t<gr.length:=by
     have h1:=hk.ln i a3 _ (ar b2);exact⟨(((gr[i]'a3).ln[j]'b2).2).toNat,by omega,by omega⟩
   refine zn7 ?_;refine wl (qZ U90 rfl rfl hlr Yj) ?_;refine yj (cs:=#[.int .i64 0,.int .i64 0]) OK rfl (fun _=>rfl) (fun _=>rfl) Yj rfl zJ (fun b7 w8 hb7 s5 hr=>?_);have:=nLL a1.lt hr;have a8:=fun g hg=>nLL (ho.lt g hg).2 hr
   refine zn3 ?_;rw[ht]at hb7;refine zn4 ?_;refine wl (xX (i:=t) C9 jQ rfl rfl htl rfl) (wl (qW (v:= .bool _) U4 rfl rfl (a1.u.cell (jJ htl))) (zn3 ?_));replace ho:=ho.tr0 s5;refine ky rfl (fun bh=>?_) (fun bh=>?_)
   ·have bb:a7 t=false:=by simpa using bh
    refine zn5 ?_;refine wl (xX (i:=t) C9 jQ rfl rfl htl rfl) ?_;replace a1:=a1.tr0 s5;refine xZ (v:= .bool _) a1 rfl rfl jQ (by rw[row_size];omega) rfl uk (fun w9 hq s6=>?_);replace ho:=ho.tq s6;replace a1:=hq;rw[FY]at a1;refine zn6 ?_;refine qv (cs:=#[_]) [(0,.int _ _)] rfl U68 xx Qj dE dE kR rfl (fun b53 w10 be s7 hr=>?_);have:=nLL a2.u.lt hr;have:=nLL a1.lt hr;replace ho:=ho.tr0 s7;refine jv U68 in3 rfl dE ho be rfl rfl rfl zJ dE oG oG a1.u.lt (fun bg cap54 w11 ba s8 hg=>?_);have b5:bg≠b1:=neA ho a2.u.lt hg
    have an:bg≠b3:=neA ho a1.u.lt hg
    have b4:bg≠b7:=neB hb7.u.lt hg (neL a8)
    replace hB:=hB.u.tr s8 (fun g hg=>nLT (aN b9) (ho.lt g hg).1);replace a2:=((a2.tr0 s5).tr1 s6 oG).tr0 s7;replace a2:=a2.ta s8 ho;replace a1:=a1.tr0 s7;replace a1:=a1.ta s8 ho;refine zn8 ?_;refine xK ((gr[i]'a3).ln.length-(j+1)) oG agA ?_
    first
      | exact⟨j+1,a6++[(t:Int)],_,_,Zq a7 t,by omega,rfl,rfl,P9 _ _ _ _,by have:=WX htl bb;simp only[List.length_append,List.length_cons,List.length_nil];omega,hB,a2,a1,NX ba,a9.new a3 b2 ht htl⟩
      | exact⟨j+1,a6,_,_,a7,by omega,rfl,rfl,rfl,hms,hB,a2,a1,ho,a9.old a3 b2 (by rw[ht];exact bb)⟩
   have bb:a7 t=true:=by simpa using bh
   refine zn7 ?_;refine xK ((gr[i]'a3).ln.length-(j+1)) oG agA ?_;replace hB:=hB.tr0 s5;replace a2:=a2.tr0 s5;replace a1:=a1.tr0 s5
   first
     | exact⟨j+1,a6++[(t:Int)],_,_,Zq a7 t,by omega,rfl,rfl,P9 _ _ _ _,by have:=WX htl bb;simp only[List.length_append,List.length_cons,List.length_nil];omega,hB,a2,a1,NX ba,a9.new a3 b2 ht htl⟩
     | exact⟨j+1,a6,_,_,a7,by omega,rfl,rfl,rfl,hms,hB,a2,a1,ho,a9.old a3 b2 (by rw[ht];exact bb)⟩
  have hjx:j=(gr[i]'a3).ln.length:=by omega
  refine zn5 ?_;refine xK (2*jW gr.length a7+a6.length) oG agA ?_;exact⟨a6,_,_,a7,rfl,by omega,rfl,hB,a2,a1,ho,a9.done a3 hjx⟩
 have hst:st= []:=aB.1 oG;subst hst;have bc:=hds.end_;refine zn8 ?_;refine zW kR (S7 b3 gr.length mk _ a1 oG) rfl (fun e' w12 hr=>?_);obtain⟨⟨r,rfl,hr⟩,s9⟩:=hr;replace s9:=sB s9;refine⟨_,rfl,?_⟩;refine zn5 ?_;have hun:r=JX gr:=by
   rcases hr with ⟨h1,h2⟩|⟨k,h1,h2,h3,h4⟩
   · rw[h1];exact bc.yes h2
   · rw[h1];exact bc.no h2 h3 h4
 exact⟨Y0 hun.symm,hB.u⟩
theorem runr_any(G:Option Addr)(cg nt nf:Nat)(gr:List Nd)(w:World)(hG:NodesIn w G gr)(hk:GOk nt nf gr):Calls prog 39 #[.agg #[.slice G gr.length cg]] w fun e w'=>e= .returned (.int .i64 (JX gr))/\Bel w w':=by
 have hn6:=hk.le;have hn0:=hk.pos;have hrg:=gok_rng hk;refine enT func39 ntmps39 rfl rfl fun hB=>?_;refine zn2 ?_;refine qY (v:= .agg #[_]) (cs:=#[_]) rfl rfl (fun b1 w1 a2 s1 hr=>?_);refine zn8 ?_;refine M3 (m:=gr.length) C9 H0 rfl rfl rfl oG oG (fun b2 w2 a1 s2 hr=>?_);have:=nLL a2.lt hr;have b3:=nLT (Bel.size hB.u) hr;refine zn6 ?_;refine wl (xX (i:=0) C9 jQ rfl rfl hn0 rfl) ?_;refine xZ (v:= .bool _) a1 rfl rfl jQ (by rw[row_size];omega) rfl uk (fun w3 hq s3=>?_);replace a1:=hq;rw[vx (g':=fun x=> .bool (Zq (fun _=>false) 0 x)) (fun x _=>by by_cases e:x=0<;>simp[Zq,e])]at a1;refine jz ?_;refine qj (rg [4,5,7] 17 28) (fun m g w'=>∃(p:Nat) (mk:Nat->Bool),p<=gr.length/\m=gr.length-p/\g 17= .int .i64 p/\Bel w w'/\Blk w' b1 28 #[.slice G gr.length cg]/\Blk w' b2 4 (row gr.length (fun x=> .bool (mk x)))/\PS gr mk p) (gr.length) ?_ (fun m g4 w4 hI=>?_)
 ·exact⟨0,Zq (fun _=>false) 0,ag _,rfl,rfl,hB.u,a2.u,a1,PS.start hn0⟩
 obtain⟨p,mk,hp,hm,h17,hB,a2,a1,an⟩:=hI;refine zK 17 _ h17 nu (zn6 ?_);refine zV rfl (fun c18=>?_) (fun c18=>?_)
 ·refine oJ ?_;refine qj (rg [4,5,7] 22 22) (fun m g w'=>∃(i:Nat) (a8:Nat->Bool),i<=gr.length/\m=gr.length-i/\g 22= .int .i64 i/\Bel w w'/\Blk w' b1 28 #[.slice G gr.length cg]/\Blk w' b2 4 (row gr.length (fun x=> .bool (a8 x)))/\PP gr mk a8 i 0) (gr.length) ?_ (fun m g6 w5 hI=>?_)
  ·exact⟨0,mk,ag _,rfl,rfl,hB,a2,a1,PP.start an⟩
  obtain⟨i,a8,hi,hmi,h22,hB,a2,a1,b4⟩:=hI;refine zK 22 _ h22 nu (zn6 ?_);refine zV rfl (fun c23=>?_) (fun c23=>?_)
  ·have a3:i<gr.length:=by omega
   obtain⟨nb,no,LA,lc,rfl,hnb,hnr,hln⟩:=hG.at_ hB a3;have hmx:=hln.1;unfold jx at hmx;refine zn8 ?_;refine wl (qZ U93 rfl rfl hnr JW) ?_;refine qk (cs:=#[.int .i64 0,.slice none 0 0]) ze93 rfl (fun b5 w6 a4 s4 hr=>?_);have:=nLL a2.lt hr;have:=nLL a1.lt hr;have lo5:=nLT (Bel.size hB) hr;refine waI rfl ?_;refine zk a4 rfl rfl JW rfl zJ (fun w7 hq s5=>?_);replace a4:=hq;refine kQ ?_;refine qj (rg [7] 30 13) (fun m g w'=>∃(j:Nat) (a6:Nat->Bool),j<=(gr[i]'a3).ln.length/\m=(gr[i]'a3).ln.length-j/\g 30= .int .i64 j/\Bel w w'/\Blk w' b1 28 #[.slice (some ⟨nb,no,none⟩) gr.length cg]/\Blk w' b2 4 (row gr.length (fun x=> .bool (a6 x)))/\Blk w' b5 93 #[.int .i64 (gr[i]'a3).ty,.slice LA (gr[i]'a3).ln.length lc]/\PP gr mk a6 i j) ((gr[i]'a3).ln.length) ?_ (fun m g9 w8 hI=>?_)
   ·exact⟨0,a8,ag _,rfl,rfl,hB.u,a2.u,a1.u,a4,b4⟩
   obtain⟨j,a6,hj,hmj,h30,hB,a2,a1,a4,a5⟩:=hI;refine zK 30 _ h30 nu (zn6 ?_);refine zV rfl (fun c31=>?_) (fun c31=>?_)
   ·have a7:j<(gr[i]'a3).ln.length:=by omega
    obtain⟨lb,lof,rfl,hlb,hlr⟩:=hln.at_ hB a7;obtain⟨t,ht,htl⟩:∃ t:Nat,((gr[i]'a3).ln[j]'a7).2=(t:Int)/\t<gr.length:=by
      have h1:=hk.ln i a3 _ (ar a7);exact⟨(((gr[i]'a3).ln[j]'a7).2).toNat,by omega,by omega⟩
    refine zn7 ?_;refine wl (qZ U90 rfl rfl hlr Yj) ?_;refine yj (cs:=#[.int .i64 0,.int .i64 0]) OK rfl (fun _=>rfl) (fun _=>rfl) Yj rfl zJ (fun b7 w10 hb7 s6 hr=>?_);refine zn7 ?_;refine wl (qW (v:= .bool _) U4 rfl rfl (a1.u.cell (jJ a3))) (zQ (e_S ?_));refine ky rfl (fun ad=>?_) (fun ad=>?_)
    ·rw[ht]at hb7;refine zn4 ?_;refine wl (xX (i:=t) C9 jQ rfl rfl htl rfl) ?_;replace a1:=a1.tr0 s6;refine xZ (v:= .bool _) a1 rfl rfl jQ (by rw[row_size];omega) rfl uk (fun w11 hq s7=>?_);replace a1:=hq;rw[FY]at a1;refine zn7 ?_;refine xK ((gr[i]'a3).ln.length-(j+1)) oG agA ?_;replace hB:=(hB.tr0 s6).tr1 s7 b3;replace a2:=(a2.tr0 s6).tr1 s7 oG;replace a4:=(a4.tr0 s6).tr1 s7 oG
     first
       | exact⟨j+1,Zq a6 t,by omega,rfl,rfl,hB,a2,a1,a4,a5.mark a3 a7 ht ad⟩
       | exact⟨j+1,a6,by omega,rfl,rfl,hB,a2,a1,a4,a5.skip ad⟩
    refine zn7 ?_;refine xK ((gr[i]'a3).ln.length-(j+1)) oG agA ?_;replace hB:=hB.tr0 s6;replace a2:=a2.tr0 s6;replace a1:=a1.tr0 s6;replace a4:=a4.tr0 s6
    first
      | exact⟨j+1,Zq a6 t,by omega,rfl,rfl,hB,a2,a1,a4,a5.mark a3 a7 ht ad⟩
      | exact⟨j+1,a6,by omega,rfl,rfl,hB,a2,a1,a4,a5.skip ad⟩
   have hjx:j=(gr[i]'a3).ln.length:=by omega
   refine vy ?_;refine xK (gr.length-(i+1)) oG agA ?_;exact⟨i+1,a6,by omega,rfl,rfl,hB,a2,a1,a5.next a3 hjx⟩
  have hie:i=gr.length:=by omega
  rw[hie]at b4;refine vy ?_;refine xK (gr.length-(p+1)) oG agA ?_;exact⟨p+1,a8,by omega,rfl,rfl,hB,a2,a1,PP.end_ hrg an b4⟩
 have hpe:p=gr.length:=by omega
 rw[hpe]at an;have a9:=an.end_;refine zn8 ?_;refine zW kR (S7 b2 gr.length mk _ a1 oG) rfl (fun e' w12 hr=>?_);obtain⟨⟨r,rfl,hr⟩,s8⟩:=hr;replace s8:=sB s8;refine⟨_,rfl,?_⟩;refine zn5 ?_;have hun:r=JX gr:=by
   rcases hr with ⟨h1,h2⟩|⟨k,h1,h2,h3,h4⟩
   · rw[h1];exact a9.yes h2
   · rw[h1];exact a9.no h2 h3 h4
 exact⟨Y0 hun.symm,hB.u⟩
end Go.Proofs.YtiofaflajkgiaaaGreatDoor
