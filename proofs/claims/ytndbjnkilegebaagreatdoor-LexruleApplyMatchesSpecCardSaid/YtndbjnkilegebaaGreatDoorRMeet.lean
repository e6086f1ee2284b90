/- What these functions compute, at every world: slices.Clone[[]api.Link,api.Link], slices.Insert[[]api.Link,api.Link], ref3.rename, ref3.Meet; and plain laws. -/
import Derived.Test.YtndbjnkilegebaaGreatDoorPFind
import Derived.Test.YtndbjnkilegebaaGreatDoorU
import Derived.Test.YtndbjnkilegebaaGreatDoorZst
import Derived.Test.YtndbjnkilegebaaGreatDoorGSearch
import Derived.Test.YtndbjnkilegebaaGreatDoorGLoose
namespace Go.Proofs.YtndbjnkilegebaaGreatDoor
open Go.RowKit Go.Proofs.Tryz
variable {L:List (Int×Int)}{a b base cap j k m n:Nat}{l:List Ty}{w:World}{x:Int×Int}{xs:List Int}
section
section join
variable {l:List Ty} {U:List Nd} {J:List (Nat×Nat)} {rep r0:Nat->Nat} {k i j:Nat} {ch:Bool}
structure CS(l:List Ty)(U:List Nd)(J:List (Nat×Nat))(k:Nat)(rep:Nat->Nat):Prop where
 lt:∀ i,i<U.length->rep i<U.length
 id:∀ i,i<U.length->rep (rep i)=rep i
 only:∀ c θ,Adm l U c θ->(∀ p∈J,θ p.1=θ p.2)->∀ i,i<U.length->θ i=θ (rep i)
 jc:∀ p∈J.take k,rep p.1=rep p.2
theorem CS.start:CS l U J 0 (fun i=>i):=⟨fun _ h=>h,fun _ _=>rfl,fun _ _ _ _ _ _=>rfl,fun p hp=>by simp at hp⟩
theorem CS.ren(h:CS l U J k rep)(ha:a<U.length)(ra:rep a=a)(hab:∀ c θ,Adm l U c θ->(∀ p∈J,θ p.1=θ p.2)->θ a=θ b):CS l U J k (UF.un rep a b):=by
 refine⟨fun i hi=>?_,fun i hi=>?_,fun c θ hθ hj i hi=>?_,fun p hp=>?_⟩
 ·unfold UF.un;split
  ·exact ha
  ·exact h.lt i hi
 ·unfold UF.un
  by_cases e:rep i=b
  ·grind
  ·rw[if_neg e,h.id i hi,if_neg e]
 ·have h1:=h.only c θ hθ hj i hi
  unfold UF.un
  grind
 ·unfold UF.un;rw[h.jc p hp]
theorem CS.pair{x y:Nat}(h:CS l U J k rep)(hk:k<J.length)(hxy:J[k]=(x,y))(hx:x<U.length)(hy:y<U.length):CS l U J (k+1) (UF.un rep (rep x) (rep y)):=by
 have h1:=h.ren (b:=rep y) (h.lt x hx) (h.id x hx) (fun c θ hθ hj=>by
  rw[<- h.only c θ hθ hj x hx,<- h.only c θ hθ hj y hy];have:=hj _ (aq hk)
  rwa[hxy]at this)
 refine⟨h1.lt,h1.id,h1.only,fun p hp=>?_⟩;rw[List.take_succ_eq_append_getElem hk]at hp;rcases aD.1 hp with hp|hp
 ·exact h1.jc p hp
 ·rw[List.mem_singleton.1 hp,hxy]
  unfold UF.un;simp only
  split<;>simp
def LC(U:List Nd)(rep:Nat->Nat)(a b:Nat):Prop:=∀ x∈(nd U a).ln,∀ y∈(nd U b).ln,x.1=y.1->rep x.2.toNat=rep y.2.toNat
structure JP(l:List Ty)(U:List Nd)(J:List (Nat×Nat))(k:Nat)(r0 rep:Nat->Nat)(ch:Bool)(i j:Nat):Prop where
 cs:CS l U J k rep
 le:roots U.length rep<=roots U.length r0
 less:ch=true->roots U.length rep<roots U.length r0
 done:ch=false->∀ a b,a<U.length->b<a->(a<i\/a=i/\b<j)->rep a=rep b->LC U rep a b
theorem JP.start(h:CS l U J k rep):JP l U J k rep rep false 0 0:=⟨h,ai _,(fun h=>nomatch h),fun _ a b _ _ h=>by omega⟩
theorem JP.row(h:JP l U J k r0 rep ch i i):JP l U J k r0 rep ch (i+1) 0:=⟨h.cs,h.le,h.less,fun hc a b ha hb hx=>h.done hc a b ha hb oG⟩
theorem JP.skip(h:JP l U J k r0 rep ch i j)(hn:¬rep i=rep j):JP l U J k r0 rep ch i (j+1):=⟨h.cs,h.le,h.less,fun hc a b ha hb hx he=>by
 by_cases e:a=i/\b=j
 ·grind
 ·exact h.done hc a b ha hb oG he⟩
def LP(U:List Nd)(rep:Nat->Nat)(i j p q:Nat):Prop:=∀ a b (ha:a<(nd U i).ln.length) (hb:b<(nd U j).ln.length),(a<p\/a=p/\b<q)->((nd U i).ln[a]).1=((nd U j).ln[b]).1->rep ((nd U i).ln[a]).2.toNat=rep ((nd U j).ln[b]).2.toNat
structure JK(l:List Ty)(U:List Nd)(J:List (Nat×Nat))(k:Nat)(r0 rep:Nat->Nat)(ch:Bool)(i j p q:Nat):Prop where
 pp:JP l U J k r0 rep ch i j
 eq:rep i=rep j
 lp:ch=false->LP U rep i j p q
variable {p q:Nat}
theorem JK.start(h:JP l U J k r0 rep ch i j)(he:rep i=rep j):JK l U J k r0 rep ch i j 0 0:=⟨h,he,fun _ a b _ _ hx=>by omega⟩
theorem JK.row(h:JK l U J k r0 rep ch i j p (nd U j).ln.length):JK l U J k r0 rep ch i j (p+1) 0:=⟨h.pp,h.eq,fun hc a b ha hb hx=>h.lp hc a b ha hb oG⟩
theorem JK.skip(h:JK l U J k r0 rep ch i j p q)(hp:p<(nd U i).ln.length)(hq:q<(nd U j).ln.length)(hn:((nd U i).ln[p]).1=((nd U j).ln[q]).1->rep ((nd U i).ln[p]).2.toNat=rep ((nd U j).ln[q]).2.toNat):JK l U J k r0 rep ch i j p (q+1):=⟨h.pp,h.eq,fun hc a b ha hb hx=>by
 by_cases e:a=p/\b=q
 ·grind
 ·exact h.lp hc a b ha hb oG⟩
theorem JK.ren(h:JK l U J k r0 rep ch i j p q)(hi:i<U.length)(hj:j<U.length)(hp:p<(nd U i).ln.length)(hq:q<(nd U j).ln.length)(he:((nd U i).ln[p]).1=((nd U j).ln[q]).1)(hx:((nd U i).ln[p]).2.toNat<U.length)(hy:((nd U j).ln[q]).2.toNat<U.length)(hne:¬rep ((nd U i).ln[p]).2.toNat=rep ((nd U j).ln[q]).2.toNat):
  JK l U J k r0 (UF.un rep (rep ((nd U j).ln[q]).2.toNat) (rep ((nd U i).ln[p]).2.toNat)) true i j p (q+1):=by
 have c:=h.pp.cs
 have hr:=c.ren (a:=rep ((nd U j).ln[q]).2.toNat) (b:=rep ((nd U i).ln[p]).2.toNat) (c.lt _ hy) (c.id _ hy) (fun d θ hθ hJ=>by
  rw[<- c.only d θ hθ hJ _ hx,<- c.only d θ hθ hJ _ hy];have e1:=hθ.ln i hi _ (aq hp);have e2:=hθ.ln j hj _ (aq hq);have e3:θ i=θ j:=by rw[c.only d θ hθ hJ i hi,c.only d θ hθ hJ j hj,h.eq]
  rw[e3,he,e2]at e1
  exact Int.ofNat.inj e1)
 have hl:=BZ (n:=U.length) (rep:=rep) (a:=rep ((nd U j).ln[q]).2.toNat) (b:=rep ((nd U i).ln[p]).2.toNat) (c.lt _ hx) (c.id _ hx) (c.id _ hy) (fun e=>hne e.symm);have hle:=h.pp.le;refine⟨⟨hr,by omega,fun _=>by omega,fun h=>nomatch h⟩,?_,fun h=>nomatch h⟩;unfold UF.un;rw[h.eq]
theorem JK.done(h:JK l U J k r0 rep ch i j (nd U i).ln.length 0):JP l U J k r0 rep ch i (j+1):=⟨h.pp.cs,h.pp.le,h.pp.less,fun hc a b ha hb hx he=>by
 by_cases e:a=i/\b=j
 ·obtain⟨rfl,rfl⟩:=e
  intro x hxm y hym hxy
  obtain⟨u,hu,rfl⟩:=List.getElem_of_mem hxm
  obtain⟨v,hv,rfl⟩:=List.getElem_of_mem hym
  exact h.lp hc u v hu hv (.inl hu) hxy
 ·exact h.pp.done hc a b ha hb oG he⟩
structure JF(l:List Ty)(U:List Nd)(J:List (Nat×Nat))(rep:Nat->Nat):Prop where
 cs:CS l U J J.length rep
 clo:∀ a b,a<U.length->b<U.length->rep a=rep b->LC U rep a b
theorem JP.end_(hs:∀ i,i<U.length->Srt (nd U i).ln)(h:JP l U J J.length r0 rep false U.length 0):JF l U J rep:=by
 refine⟨h.cs,fun a b ha hb he=>?_⟩;rcases Nat.lt_trichotomy a b with hab|hab|hab
 ·have:=h.done rfl b a hb hab (.inl hb) he.symm
  exact fun x hx y hy e=>(this y hy x hx e.symm).symm
 ·subst hab
  intro x hx y hy e;have e1:=CK (hs a ha) hx
  grind[CK]
 ·exact h.done rfl a b ha hab (.inl ha) he
def rpL(rep:Nat->Nat)(xs:List (Int×Int)):List (Int×Int):=xs.map (fun x=>(x.1,((rep x.2.toNat:Nat):Int)))
def Vw(L:List (Int×Int))(k:Nat)(x:Int×Int):List (Int×Int):=L.take k++x::L.drop k
theorem insL_mem{k:Nat}{z:Int×Int}:z∈Vw L k x↔z=x\/z∈L:=by
 grind[Vw,List.mem_of_mem_take,List.mem_of_mem_drop,List.take_append_drop]
theorem insL_len(L:List (Int×Int))(k:Nat)(x:Int×Int):(Vw L k x).length=L.length+1:=by
 grind[Vw,List.take_append_drop,List.length_append,List.length_cons]
theorem insL_srt{k:Nat}(h:Srt L)(hk:k<=L.length)(h1:∀ i (hi:i<L.length),i<k->(L[i]).1<x.1)(h2:∀ hk:k<L.length,¬(L[k]).1<x.1)(hn:∀ y∈L,y.1≠x.1):Srt (Vw L k x):=by
 unfold Vw;have hd:Srt (L.take k++L.drop k):=by rw[List.take_append_drop];exact h
 obtain⟨a1,a2,a3⟩:=List.pairwise_append.1 hd;have hlo:∀ y∈L.take k,y.1<x.1:=fun y hy=>by
  grind[List.getElem_of_mem,List.length_take,h1]
 have hhi:∀ y∈L.drop k,x.1<y.1:=fun y hy=>by
  by_cases a4:k<L.length
  ·have e:L.drop k=L[k]::L.drop (k+1):=List.drop_eq_getElem_cons a4
   have h3:=h2 a4;have h4:=hn _ (aq a4);rw[e]at hy a2;rcases av.1 hy with hy|hy
   ·rw[hy];omega
   ·have:=(aR.1 a2).1 y hy
    omega
  ·grind
 refine List.pairwise_append.2 ⟨a1,aR.2 ⟨hhi,a2⟩,fun y hy z hz=>?_⟩
 grind
theorem rpL_ins(rep:Nat->Nat)(L:List (Int×Int))(k:Nat)(x:Int×Int):rpL rep (Vw L k x)=Vw (rpL rep L) k (x.1,((rep x.2.toNat:Nat):Int)):=by
 simp[rpL,Vw,List.map_take,List.map_drop]
theorem rpL_len(rep:Nat->Nat)(L:List (Int×Int)):(rpL rep L).length=L.length:=by simp[rpL]
theorem rpL_no{f:Int}(h:tgt (rpL rep L) f<0):∀ y∈L,y.1≠f:=fun y hy e=>by
 have hm:(f,((rep y.2.toNat:Nat):Int))∈rpL rep L:=ax.2 ⟨y,hy,by rw[<- e]⟩
 have key:∀ {xs:List (Int×Int)} {t:Int},(∀ z∈xs,0<=z.2)->(f,t)∈xs->0<=tgt xs f:=fun {xs t} hz hm=>by
  unfold tgt
  grind
 have:=key (fun z hz=>by
  obtain⟨y,_,rfl⟩:=ax.1 hz
  exact Int.natCast_nonneg _) hm
 omega
theorem rpL_yes{f:Int}(h:0<=tgt (rpL rep L) f):∃ t,(f,t)∈L:=by
 obtain⟨y,hy,e⟩:=ax.1 (Mq h);have e1:=congrArg Prod.fst e;simp only at e1;exact⟨y.2,by rw[<- e1];exact hy⟩
structure MJ(l:List Ty)(U:List Nd)(J:List (Nat×Nat))(rep:Nat->Nat)(seen:Nat->Bool)(T:Nat->Int)(L:Nat->List (Int×Int))(it il q:Nat):Prop where
 seen:∀ c,seen c=true↔∃ u,u<it/\rep u=c
 ty:∀ c,c<U.length->0<=T c/\T c<l.length
 cov:∀ u,u<it->sub l (T (rep u)).toNat (nd U u).ty.toNat=true
 low:∀ c θ,(∀ i,i<c.length->0<=(nd c i).ty/\(nd c i).ty<l.length)->Adm l U c θ->(∀ p∈J,θ p.1=θ p.2)->∀ u,u<it->sub l (nd c (θ (rep u))).ty.toNat (T (rep u)).toNat=true
 srt:∀ c,Srt (L c)
 val:∀ c,∀ x∈L c,∃ u,u<U.length/\rep u=c/\x∈(nd U u).ln
 lc1:∀ u,u<il->∀ x∈(nd U u).ln,∃ t,(x.1,t)∈L (rep u)
 lc2:∀ x∈(nd U il).ln.take q,∃ t,(x.1,t)∈L (rep il)
variable {seen:Nat->Bool} {T:Nat->Int} {L:Nat->List (Int×Int)}
theorem MJ.start(hp:0<l.length):MJ l U J rep (fun _=>false) (fun _=>0) (fun _=>[]) 0 0 0:=
 ⟨fun c=>⟨(fun h=>nomatch h),fun⟨u,hu,_⟩=>absurd hu (aB _)⟩,fun c _=>⟨aP _,by omega⟩,fun u hu=>absurd hu (aB _),fun _ _ _ _ _ u hu=>absurd hu (aB _),fun _=>List.Pairwise.nil,(fun c x hx=>by cases hx),fun u hu=>absurd hu (aB _),fun x hx=>by simp at hx⟩
theorem MJ.first(hv:VT l)(hc:CS l U J k rep)(h:MJ l U J rep seen T L i i 0)(hi:i<U.length)(hty:0<=(nd U i).ty/\(nd U i).ty<l.length)(hn:seen (rep i)=false):MJ l U J rep (Z7 seen (rep i)) (fun x=>if x=rep i then (nd U i).ty else T x) L (i+1) i 0:=by
 have hns:∀ u,u<i->rep u≠rep i:=fun u hu e=>by
  have:=(h.seen (rep i)).2 ⟨u,hu,e⟩
  grind
 refine⟨fun c=>?_,fun c hc=>?_,fun u hu=>?_,fun c θ hct hθ hj u hu=>?_,h.srt,h.val,h.lc1,h.lc2⟩
 ·unfold Z7
  by_cases e:c=rep i
  ·grind
  ·rw[if_neg e,h.seen c]
   grind
 ·(try dsimp only)
  split
  ·exact hty
  ·exact h.ty c hc
 ·(try dsimp only)
  by_cases e:u=i
  ·subst e;rw[if_pos rfl];exact Y8 hv _
  ·rw[if_neg (hns u oG)];exact h.cov u oG
 ·(try dsimp only)
  by_cases e:u=i
  ·subst e
   rw[if_pos rfl,<- hc.only c θ hθ hj u hi];exact hθ.ty u hi
  ·rw[if_neg (hns u oG)];exact h.low c θ hct hθ hj u oG
theorem MJ.meet(hs:Kv l)(hc:CS l U J k rep)(h:MJ l U J rep seen T L i i 0)(hi:i<U.length)(hn:seen (rep i)=true)(ht:(Go.Proofs.YtndbjnkilegebaaGreatDoor.meet l (T (rep i)).toNat (nd U i).ty.toNat).2.1=true)(hm:(Go.Proofs.YtndbjnkilegebaaGreatDoor.meet l (T (rep i)).toNat (nd U i).ty.toNat).1=m):MJ l U J rep seen (fun x=>if x=rep i then (m:Int)else T x) L (i+1) i 0:=by
 obtain⟨m1,m2,m3⟩:=Pv hs.le (a:=(T (rep i)).toNat) (b:=(nd U i).ty.toNat) ht;rw[hm]at m1 m2 m3;have m2':sub l m (T (rep i)).toNat=true/\sub l m (nd U i).ty.toNat=true:=by simpa[jV]using m2
 obtain⟨v,hvi,hvr⟩:=(h.seen (rep i)).1 hn;refine⟨fun c=>?_,fun c hc=>?_,fun u hu=>?_,fun c θ a1 hθ hj u hu=>?_,h.srt,h.val,h.lc1,h.lc2⟩
 ·rw[h.seen c]
  exact⟨fun⟨u,hu,hr⟩=>⟨u,by omega,hr⟩,fun⟨u,hu,hr⟩=>by
   by_cases e:u=i
   ·exact⟨v,hvi,by rw[hvr,<- e];exact hr⟩
   ·exact⟨u,by omega,hr⟩⟩
 ·(try dsimp only)
  split
  ·omega
  ·exact h.ty c hc
 ·(try dsimp only)
  by_cases e:rep u=rep i
  ·rw[if_pos e,Int.toNat_natCast]
   by_cases e2:u=i
   ·rw[e2];exact m2'.2
   ·have:=h.cov u oG
    rw[e]at this;exact Y7 hs.vt m2'.1 this
  ·rw[if_neg e]
   exact h.cov u (by
    have:u≠i:=fun e2=>e (by rw[e2])
    omega)
 ·(try dsimp only)
  by_cases e:rep u=rep i
  ·rw[if_pos e,e,Int.toNat_natCast]
   have s1:=h.low c θ a1 hθ hj v hvi;rw[hvr]at s1;have s2:=hθ.ty i hi;rw[hc.only c θ hθ hj i hi]at s2;have hl:=hθ.lt _ (hc.lt i hi);have:=a1 _ hl;exact m3 _ oG (by simp[jV,s1,s2])
  ·rw[if_neg e]
   exact h.low c θ a1 hθ hj u (by
    have:u≠i:=fun e2=>e (by rw[e2])
    omega)
theorem MJ.fail(hs:Kv l)(hc:CS l U J k rep)(h:MJ l U J rep seen T L i i 0)(hi:i<U.length)(hty:0<=(nd U i).ty/\(nd U i).ty<l.length)(hn:seen (rep i)=true)(hm:(Go.Proofs.YtndbjnkilegebaaGreatDoor.meet l (T (rep i)).toNat (nd U i).ty.toNat).2.1=false):¬MV l U J:=by
 rintro⟨c,θ,hct,hθ,hj⟩
 obtain⟨v,hvi,hvr⟩:=(h.seen (rep i)).1 hn;have s1:=h.low c θ hct hθ hj v hvi;rw[hvr]at s1;have s2:=hθ.ty i hi;rw[hc.only c θ hθ hj i hi]at s2;have hl:=hθ.lt _ (hc.lt i hi);have h1:=hct _ hl;have h2:=h.ty _ (hc.lt i hi);have:=hs.all (T (rep i)).toNat (nd U i).ty.toNat (nd c (θ (rep i))).ty.toNat oG oG oG (by simp[jV,s1,s2]);rw[hm]at this;cases this
theorem take_ln{x:Nd}{q:Nat}(hq:q<x.ln.length):x.ln.take (q+1)=x.ln.take q++[x.ln[q]]:=List.take_succ_eq_append_getElem hq
theorem MJ.old{it:Nat}(h:MJ l U J rep seen T L it i q)(hq:q<(nd U i).ln.length)(ht:0<=tgt (rpL rep (L (rep i))) ((nd U i).ln[q]).1):MJ l U J rep seen T L it i (q+1):=
 ⟨h.seen,h.ty,h.cov,h.low,h.srt,h.val,h.lc1,fun x hx=>by
  rw[take_ln hq]at hx
  rcases aD.1 hx with hx|hx
  ·exact h.lc2 x hx
  ·rw[List.mem_singleton.1 hx];exact rpL_yes ht⟩
theorem MJ.new{it k:Nat}(h:MJ l U J rep seen T L it i q)(hi:i<U.length)(hq:q<(nd U i).ln.length)(ht:tgt (rpL rep (L (rep i))) ((nd U i).ln[q]).1<0)(hk:k<=(L (rep i)).length)(h1:∀ j (hj:j<(L (rep i)).length),j<k->((L (rep i))[j]).1<((nd U i).ln[q]).1)(h2:∀ hk:k<(L (rep i)).length,¬((L (rep i))[k]).1<((nd U i).ln[q]).1):
  MJ l U J rep seen T (fun x=>if x=rep i then Vw (L (rep i)) k ((nd U i).ln[q])else L x) it i (q+1):=by
 have hmem:∀ c z,z∈L c->z∈(if c=rep i then Vw (L (rep i)) k ((nd U i).ln[q])else L c):=fun c z hz=>by
  split
  ·rename_i e;rw[e]at hz;exact insL_mem.2 (.inr hz)
  ·exact hz
 refine⟨h.seen,h.ty,h.cov,h.low,fun c=>?_,fun c x hx=>?_,fun u hu x hx=>?_,fun x hx=>?_⟩
 ·(try dsimp only)
  split
  ·exact insL_srt (h.srt _) hk h1 h2 (rpL_no ht)
  ·exact h.srt c
 ·(try dsimp only at hx)
  split at hx
  ·rename_i e
   rcases insL_mem.1 hx with hx|hx
   ·grind
   ·rw[e];exact h.val _ x hx
  ·exact h.val c x hx
 ·obtain⟨t,h3⟩:=h.lc1 u hu x hx
  grind
 ·rw[take_ln hq]at hx
  rcases aD.1 hx with hx|hx
  ·obtain⟨t,h3⟩:=h.lc2 x hx
   grind
  ·rw[List.mem_singleton.1 hx]
   exact⟨((nd U i).ln[q]).2,by simp only[if_true];exact insL_mem.2 (.inl rfl)⟩
theorem MJ.next(h:MJ l U J rep seen T L (i+1) i (nd U i).ln.length):MJ l U J rep seen T L (i+1) (i+1) 0:=
 ⟨h.seen,h.ty,h.cov,h.low,h.srt,h.val,fun u hu x hx=>by
  by_cases e:u=i
  ·subst e;exact h.lc2 x (by rw[List.take_length];exact hx)
  ·exact h.lc1 u oG x hx,fun x hx=>by simp at hx⟩
theorem MJ.us(hF:JF l U J rep)(h:MJ l U J rep seen T L U.length U.length 0)(a2:∀ i,i<U.length->∀ x∈(nd U i).ln,0<=x.2/\x.2.toNat<U.length)(hJ:∀ p∈J,p.1<U.length/\p.2<U.length):US l U J rep rep (fun i=>if rep i=i then 0 else 1) T L []:=by
 have hc:=hF.cs;refine⟨⟨fun i hi hne=>?_,hc.lt,hc.lt,fun i hi=>hc.id i hi,fun i hi=>hc.id i hi,fun i hi h=>h⟩,h.ty,fun i _=>h.srt i,(fun w hw=>by cases hw),fun c θ hct hθ hj=>⟨⟨hc.only c θ hθ hj,fun w hw=>by cases hw⟩,fun i hi hr=>?_⟩,h.cov,fun i hi x hx=>?_,fun p hp κ hκ=>?_,fun i _ _ x hx=>h.val i x hx,a2⟩
 ·rw[if_neg hne,if_pos (hc.id i hi)];exact Nat.zero_lt_one
 ·have:=h.low c θ hct hθ hj i hi
  rwa[hr]at this
 ·obtain⟨t,ht⟩:=h.lc1 i hi x hx
  refine⟨t,ht,fun κ hκ=>?_⟩;obtain⟨u,hu,a1,hum⟩:=h.val _ _ ht;have e:=hF.clo i u hi hu a1.symm x hx _ hum rfl;rw[hκ.1 _ (a2 i hi x hx).2,hκ.1 _ (a2 u hu _ hum).2,e]
 ·have e:=hc.jc p (by rw[List.take_length];exact hp)
  have:=hJ p hp;rw[hκ.1 _ this.1,hκ.1 _ this.2,e]
end join
end
theorem cur_drop{cur:Array Value}{Ps Ys:List Value}{v:Value}(h:cur.toList.take m=Ps++Ys)(hj:Ys[j]? =some v):cur[Ps.length+j]? =some v:=by
 have h1:(Ps++Ys)[Ps.length+j]? =some v:=by
  rw[List.getElem?_append_right (Nat.le_add_right _ _),Nat.add_sub_cancel_left];exact hj
 rw[<- h,List.getElem?_take]at h1
 split at h1
 ·simpa using h1
 ·cases h1
theorem cur_take{cur:Array Value}{Ps Ys:List Value}{v:Value}(h:cur.toList.take m=Ps++Ys)(hj:Ps[j]? =some v):cur[j]? =some v:=by
 have hlt:=(aC.1 hj).1;have h1:(Ps++Ys)[j]? =some v:=by
  rw[List.getElem?_append_left hlt];exact hj
 rw[<- h,List.getElem?_take]at h1
 split at h1
 ·simpa using h1
 ·cases h1
def lk1(x:Int×Int):List Value:=[Value.int .i64 x.1,Value.int .i64 x.2]
theorem Hk(L:List (Int×Int))(k:Nat)(x:Int×Int):lnV (Vw L k x)=lnV (L.take k)++(lk1 x++lnV (L.drop k)):=by
 unfold Vw;rw[O4,show x::L.drop k= [x]++L.drop k from rfl,O4];rfl
theorem Hw(L:List (Int×Int))(k:Nat):lnV L=lnV (L.take k)++lnV (L.drop k):=by rw[<- O4,List.take_append_drop]
theorem tk_len(hk:k<=L.length):(lnV (L.take k)).length=k*2:=by rw[Q7,List.length_take,Nat.min_eq_left hk]
theorem dr_len:(lnV (L.drop k)).length=(L.length-k)*2:=by rw[Q7,List.length_drop]
theorem ins_new{g:Nat}{R0:Array Value}{Zs:List Value}(hb:Blk w g 84 (cpy (cpy R0 (0+k*2) (lk1 x)) (0+(k+1)*2) (lnV (L.drop k))))(hR:R0.toList=lnV (L.take k)++Zs)(hsz:R0.size=cap*2)(a2:L.length+1<=cap)(hm:cap<=9223372036854775807)(a1:base<=g)(hk:k<=L.length):Own w base 84 2 (some ⟨g,0,none⟩) (L.length+1) cap (lnV (Vw L k x)):=by
 have h1:=tk_len hk;have h2:=dr_len (L:=L) (k:=k);have h3:(lk1 x).length=2:=rfl;refine own_mk hb a1 a2 hm ?_ ?_
 ·rw[X5,X5,hsz]
  ·rw[hsz,h3];omega
  ·rw[X5,hsz,h2]
   ·omega
   ·rw[hsz,h3];omega
 ·rw[Hk,show (L.length+1)*2=(lnV (L.take k)).length+(lk1 x).length+(lnV (L.drop k)).length by omega]
  exact cpy_new hR oG oG
theorem ins_move{g:Nat}{R0:Array Value}(hb:Blk w g 84 (cpy (cpy R0 (0+(k+1)*2) (lnV (L.drop k))) (0+k*2) (lk1 x)))(hR:R0.toList.take (L.length*2)=lnV L)(hsz:R0.size=cap*2)(a2:L.length+1<=cap)(hm:cap<=9223372036854775807)(a1:base<=g)(hk:k<=L.length):Own w base 84 2 (some ⟨g,0,none⟩) (L.length+1) cap (lnV (Vw L k x)):=by
 have h1:=tk_len hk;have h2:=dr_len (L:=L) (k:=k);have h3:(lk1 x).length=2:=rfl;have h4:R0.toList=lnV (L.take k)++(lnV (L.drop k)++R0.toList.drop (L.length*2)):=by
  rw[<- List.append_assoc,<- Hw,<- hR,List.take_append_drop]
 have h5:(R0.toList.drop (L.length*2)).length=cap*2-L.length*2:=by rw[List.length_drop,Array.length_toList,hsz]
 refine own_mk hb a1 a2 hm ?_ ?_
 ·rw[X5,X5,hsz]
  ·rw[hsz,h2];omega
  ·rw[X5,hsz,h3]
   ·omega
   ·rw[hsz,h2];omega
 ·rw[Hk,show (L.length+1)*2=(lnV (L.take k)).length+(lk1 x).length+(lnV (L.drop k)).length by omega]
  exact cpy_move h4 oG oG oG
theorem ins_end{A:Option Addr}(h:Own w base 84 2 A (L.length+1) cap (lnV L++lk1 x)):Own w base 84 2 A (L.length+1) cap (lnV (Vw L L.length x)):=by
 rw[Hk,List.take_length,List.drop_eq_nil_of_le (Nat.le_refl _)]
 simpa[lnV]using h
theorem lk1_one(x:Int×Int):∀ v∈lk1 x,v.oneCell'=true:=fun v hv=>by
 simp only[lk1,List.mem_cons,List.not_mem_nil,or_false]at hv
 rcases hv with rfl|rfl<;>rfl
theorem lnV_one'(xs:List (Int×Int)):∀ v∈lnV xs,v.oneCell'=true:=aF.1 (Hj xs)
theorem ovl_any{la ca lb cb oa ob:Nat}{tA tB:TypeId}{ka kb:Array Value}(ha:Blk w a tA ka)(hb:Blk w b tB kb)(hne:a≠b)(hk:kb.size≠0):(callFunc 94 #[.slice (some ⟨a,oa,none⟩) la ca,.slice (some ⟨b,ob,none⟩) lb cb]).run prog w= .ok (.value (.bool false)) w:=
 run_apart (fn:=Tryz.f94) (t:=85) (tR:=4) (e:=84) kR kR kR kR kR U85 (sz:=2) kR ha hb hne hk
theorem clonel_any(A:Option Addr)(c:Nat)(xs:List (Int×Int))(w:World)(hL:LinksIn w A xs)(hl:xs.length<=1000000):Calls prog 65 #[.slice A xs.length c] w fun e w'=>(∃ A' cap',e= .returned (.slice A' xs.length cap')/\Own w' w.heap.size 84 2 A' xs.length cap' (lnV xs))/\Bel w w':=by
 refine enT func65 ntmps65 rfl rfl fun hB=>?_;refine zn9 ?_;refine wl (r_eqlNil U85 rfl rfl) (qY (e_S ?_));refine jv rfl (fun c4=>?_) (fun c4=>?_)
 ·have hn:xs= []:=by
    refine aK (fun hne=>?_);obtain⟨b,o,h,_⟩:=hL.2 hne;rw[h]at c4;cases c4
  subst hn;refine zn8 ?_;exact⟨⟨none,0,rfl,Own.nil _ _ _ _⟩,hB⟩
 refine zn4 ?_;refine wl_bs0 U85 qx (fun b5 w1 hb5 s1 hr=>?_);have lo5:=hB.ob hr;refine wmS rfl ?_;have a1:=V6 (sz:=2) (m:=0) hb5 (ai b5) rfl dE;refine wl_appL (news:=lnV xs) U85 in84 rfl dE a1 rfl rfl (fun hm=>(hL.mono hB.u).news hm) (Q7 xs) (Hj xs) oG oG (Nat.le_of_lt hb5.lt) (fun A7 a2 w9 ho7 s2 hg=>?_);replace hB:=hB.tr0 s1;have hB9:Bel w w9:=hB.tr s2 (fun g hg=>by cases ar.1 hg;exact lo5);refine zn5 ?_;refine⟨⟨A7,a2,?_,?_⟩,hB9⟩
 · show Ending.returned (.slice _ (0+xs.length) _)=_
   rw[Nat.zero_add]
 · have h:=ho7.low lo5
   rw[Nat.zero_add]at h;exact h
set_option maxHeartbeats 1000000 in
theorem insl_any{vc c:Nat}{A:Option Addr}(w:World)(ho:Own w base 84 2 A L.length c (lnV L))(hb:Blk w b 84 #[.int .i64 x.1,.int .i64 x.2])(hA:∀ g∈aL A,g≠b)(hk:k<=L.length)(hl:L.length<=1000000)(a4:base<=w.heap.size):Calls prog 64 #[.slice A L.length c,.int .i64 (k:Nat),.slice (some ⟨b,0,none⟩) 1 vc] w fun e w'=>∃ A' c',e= .returned (.slice A' (L.length+1) c')/\Own w' base 84 2 A' (L.length+1) c' (lnV (Vw L k x))/\Same (aL A) w w'/\∀ g∈aL A',g∈aL A\/w.heap.size<=g:=by
 have hcl:=ho.cap_le;refine enter func64 ntmps64 rfl (aA rfl) (zn9 ?_);refine wl (RY (l:=k) U85 qx rfl rfl hk) (Jq ?_);refine zZ rfl (fun c16=>?_) (fun c16=>?_)
 ·exact absurd c16 dE
 refine Nk ?_;refine zZ rfl (fun c22=>?_) (fun c22=>?_)
 ·have hkn:k=L.length:=by omega
  subst hkn;refine zn4 ?_;refine vV U85 in84 rfl dE ho hb rfl rfl rfl xW dE oG oG a4 (fun g25 cap25 w25 bb ba bc=>?_);refine zn6 ?_;exact⟨_,_,rfl,ins_end bb,ba,fun g2 ao=>by rw[List.mem_singleton.1 ao];rcases bc with h|h;(· left;rw[h];exact ar.2 rfl);exact .inr h⟩
 have hkn:k<L.length:=by omega
 obtain⟨g,cur,rfl,hgb,a1,hcm,b4,b2⟩:=ho.whole (show 0<L.length by omega);have hgl:=a1.lt;have hgn:g≠b:=hA g (ar.2 rfl);have b3:=tk_len hk;have b1:=dr_len (L:=L) (k:=k);rw[Hw L k]at b2;refine zn7 ?_;refine wl (uW (c:=((L.length+1:Nat):Int)) rfl rfl oG oG) (wmS rfl (wl (r_cap U85 rfl) (zn3 ?_)));refine zZ rfl (fun c31=>?_) (fun c31=>?_)
 ·have a3:c<L.length+1:=by omega
  refine zn4 ?_;refine wl (MX (h:=k) U85 qx rfl rfl oG) (zn2 ?_);refine wl (uW (c:=((L.length+1:Nat):Int)) rfl rfl oG oG) (wmI rfl (wl (jJ (c:=((L.length+1-k:Nat):Int)) rfl rfl oG oG) ?_));refine wl_appZ2 (olds:=lnV (L.take k)) (m:=k) (k:=L.length+1-k) U85 U3 in84 oG dE oG oG oG rfl rfl b3 (fun j v hj=>a1.cell (cur_take b2 hj)) (fun b7 a2 w40 ab a5 a8 hge hle=>?_);have e40:k+(L.length+1-k)=L.length+1:=by omega
  rw[e40]at hge ab ⊢;have hne40:b≠b7:=by have:=hb.lt;omega
  have an:g≠b7:=by omega
  have hS:SameQ [b7] w40 w40:=Same.refl _ _;obtain⟨Zs,hZs⟩:∃ Zs:List Value,Zs=(Builtin.zeroCells (Value.agg #[.int .i64 0,.int .i64 0]).cells (L.length+1-k)).toList++(Builtin.zeroCells (Value.agg #[.int .i64 0,.int .i64 0]).cells (a2-(L.length+1))).toList:=⟨_,rfl⟩
  obtain⟨R0,b6⟩:∃ R0:Array Value,R0=(lnV (L.take k)).toArray++Builtin.zeroCells (Value.agg #[.int .i64 0,.int .i64 0]).cells (L.length+1-k)++Builtin.zeroCells (Value.agg #[.int .i64 0,.int .i64 0]).cells (a2-(L.length+1)):=⟨_,rfl⟩
  have hRl:R0.toList=lnV (L.take k)++Zs:=by rw[b6,hZs];simp
  have b5:R0.size=a2*2:=by
   rw[b6];simp only[Array.size_append,List.size_toArray,b3,Builtin.zeroCells,Array.size_map,Array.size_range,show (Value.agg #[.int .i64 0,.int .i64 0]).cells.size=2 from rfl];omega
  rw[<- b6]at ab;clear b6 hZs;refine zn7 ?_;refine wl (BK (l:=k) (l2:=L.length+1-k) U85 qx rfl rfl oG oG oG) (wmS rfl ?_);replace hb:=hb.tr0 a5;refine wl_cp (m:=1) (cs:=lk1 x) U85 qx rfl rfl ab (by simp only[Nat.min_def];split<;>omega) rfl (fun j v hj=>by rw[Addr.add_mid,Nat.zero_add];exact hb.cell (by simpa[lk1]using hj)) (by rw[b5];simp only[lk1,List.length_cons,List.length_nil];omega) (lk1_one x) (fun w45 a9 ad=>?_);replace a1:=a1.tr0 a5;replace a1:=a1.tr1 ad an;replace hS:=SameQ.trans hS ad (by simp);have bg:(cpy R0 (0+k*2) (lk1 x)).size=a2*2:=by rw[X5 (by rw[b5];simp only[lk1,List.length_cons,List.length_nil];omega),b5]
  refine zn3 ?_;refine Qz 8 kR kR (fun w1 s1=>?_);replace hS:=SameQ.trans hS s1 (by simp);refine zn3 ?_;refine ws (uW (c:=((k+1:Nat):Int)) rfl rfl oG oG) (ws (BK (l:=k+1) (l2:=L.length-k) U85 qx rfl rfl oG oG oG) (zn2 ?_));refine ws (BK (l:=k) (l2:=L.length-k) U85 qx rfl rfl oG oG oG) (Q4 ?_);replace a1:=a1.tr0 s1;replace a9:=a9.tr0 s1
  refine wl_cp (m:=L.length-k) (cs:=lnV (L.drop k)) U85 qx rfl rfl a9 (by simp only[Nat.min_def];split<;>omega) b1 (fun j v hj=>by
   rw[Addr.add_mid];have h:=cur_drop b2 hj;rw[b3]at h
   exact a1.cell (by rw[Nat.zero_add];exact h)) (by rw[bg,b1];omega) (lnV_one' _) (fun w54 bf b9=>?_)
  replace hS:=SameQ.trans hS b9 (by simp);refine vJ ?_;exact⟨_,_,rfl,ins_new bf hRl b5 hge hle (nLT a4 a8) hk,(a5.freshL (show Same [b7] _ _ from hS) (fun g hg=> .inr (by rw[List.mem_singleton.1 hg];exact a8))).weak (by simp),fun g2 ao=> .inr (by rw[List.mem_singleton.1 ao];exact a8)⟩
 have a3:L.length+1<=c:=by omega
 refine zn7 ?_;refine wl (uW (c:=((L.length+1:Nat):Int)) rfl rfl oG oG) (wl (MX (h:=(L.length+1)) U85 qx rfl rfl a3) (yj ?_));refine wl (uW (c:=((k+1:Nat):Int)) rfl rfl oG oG) (wl (BK (l:=k+1) (l2:=L.length-k) U85 qx rfl rfl oG oG oG) (wl (r_ext (ovl_any hb a1 (fun e=>hgn e.symm) oG) rfl) (zn3 ?_)));refine jv rfl (fun c68=>?_) (fun c68=>?_)
 ·have hS:SameQ [g] w w:=Same.refl _ _;refine xQ ?_;refine Qz 8 kR kR (fun w2 s2=>?_);replace hS:=SameQ.trans hS s2 (by simp);refine zn3 ?_;refine ws (uW (c:=((k+1:Nat):Int)) rfl rfl oG oG) (ws (BK (l:=k+1) (l2:=L.length-k) U85 qx rfl rfl oG oG oG) (zn2 ?_));refine ws (BK (l:=k) (l2:=L.length+1-k) U85 qx rfl rfl oG oG oG) (Q4 ?_);replace a1:=a1.tr0 s2
  refine wl_cp (m:=L.length-k) (cs:=lnV (L.drop k)) U85 qx rfl rfl a1 (by simp only[Nat.min_def];split<;>omega) b1 (fun j v hj=>by
   rw[Addr.add_mid];have h:=cur_drop b2 hj;rw[b3]at h
   exact a1.cell (by rw[Nat.zero_add];exact h)) (by rw[b4,b1];omega) (lnV_one' _) (fun w77 be ac=>?_)
  replace hS:=SameQ.trans hS ac (by simp);replace hb:=hb.tr0 s2;replace hb:=hb.tr1 ac (fun e=>hgn e.symm);have bg:(cpy cur (0+(k+1)*2) (lnV (L.drop k))).size=c*2:=by rw[X5 (by rw[b4,b1];omega),b4]
  refine zn6 ?_;refine wl (BK (l:=k) (l2:=L.length+1-k) U85 qx rfl rfl oG oG oG) (wmS rfl ?_);refine wl_cp (m:=1) (cs:=lk1 x) U85 qx rfl rfl be (by simp only[Nat.min_def];split<;>omega) rfl (fun j v hj=>by rw[Addr.add_mid,Nat.zero_add];exact hb.cell (by simpa[lk1]using hj)) (by rw[bg];simp only[lk1,List.length_cons,List.length_nil];omega) (lk1_one x) (fun w82 bd b8=>?_);replace hS:=SameQ.trans hS b8 (by simp);refine vJ ?_;exact⟨_,_,rfl,ins_move bd (by rw[Hw L k];exact b2) b4 a3 hcm hgb hk,by simpa[aL,SameQ]using hS,fun g2 ao=> .inl ao⟩
 exact absurd c68 dE
theorem ren_any{c:Nat}{rep:Nat->Nat}(w:World)(hn:n<=1000000)(hb:Blk w b 3 (row n (fun x=> .int .i64 ((rep x:Nat):Int)))):Calls prog 62 #[.slice (some ⟨b,0,none⟩) n n,.int .i64 (c:Nat),.int .i64 (a:Nat)] w fun e w'=>e= .returned (.tuple #[])/\Blk w' b 3 (row n (fun x=> .int .i64 ((UF.un rep a c x:Nat):Int)))/\Same [b] w w':=by
 have hS:SameQ [b] w w:=Same.refl _ _;refine enter func62 ntmps62 rfl (aA rfl) (zn8 ?_);refine qz (rg [6] 9 14) (fun m g w'=>∃ k:Nat,k<=n/\m=n-k/\g 9= .int .i64 k/\Blk w' b 3 (row n (fun x=> .int .i64 (((if x<k then UF.un rep a c x else rep x:Nat)):Int)))/\SameQ [b] w w') (n) ?_ (fun m g1 w1 hI=>?_)
 ·exact⟨0,ah _,rfl,rfl,by rw[xy (g':=fun x=> .int .i64 ((rep x:Nat):Int)) (fun x _=>by simp)];exact hb,hS⟩
 obtain⟨k,hkk,hm,h9,hb,hS⟩:=hI;refine zQ 9 _ h9 nu (zn6 ?_);refine zZ rfl (fun c10=>?_) (fun c10=>?_)
 ·have a2:k<n:=by omega
  have hck:w1.cell? ⟨b,0+k*1,none⟩=some (.int .i64 ((rep k:Nat):Int)):=by
    have h:=hb.cell (j5 a2)
    simpa using h
  refine QY ?_;refine wl (x7 (i:=k) U62 xw rfl rfl a2 rfl) (wl (qj (v:= .int _ _) U3 rfl rfl hck) (zn4 ?_));refine zZ rfl (fun c17=>?_) (fun c17=>?_)
  ·have a1:rep k=c:=by omega
   refine zn4 ?_;refine wl (x7 (i:=k) U62 xw rfl rfl a2 rfl) ?_;refine xx (v:= .int _ _) hb rfl rfl xw (by rw[row_size];omega) rfl kv (fun w2 hq s1=>?_);replace hS:=SameQ.trans hS s1 (by simp);replace hb:=hq
   rw[xy (g':=fun x=> .int .i64 (((if x<k+1 then UF.un rep a c x else rep x:Nat)):Int)) (fun x _=>by
     by_cases e:x=k
     · subst e;simp[UF.un,a1]
     · have e1:(x<k+1)↔(x<k):=by omega
       simp[e,e1])]at hb
   refine zn7 ?_;refine x9 (n-(k+1)) oG agA ?_;exact⟨k+1,by omega,rfl,rfl,hb,hS⟩
  have a1:¬rep k=c:=by omega
  rw[xy (g':=fun x=> .int .i64 (((if x<k+1 then UF.un rep a c x else rep x:Nat)):Int)) (fun x _=>by
    by_cases e:x=k
    · subst e;simp[UF.un,a1]
    · have e1:(x<k+1)↔(x<k):=by omega
      simp[e1])]at hb
  refine zn7 ?_;refine x9 (n-(k+1)) oG agA ?_;exact⟨k+1,by omega,rfl,rfl,hb,hS⟩
 have hke:k=n:=by omega
 rw[hke,xy (g':=fun x=> .int .i64 ((UF.un rep a c x:Nat):Int)) (fun x hx=>by simp[hx])]at hb;refine zn4 ?_;refine fin0 (.inr rfl) rfl  ?_;exact⟨rfl,hb,hS⟩
def Xz(l:List Ty)(a b k:Nat):List Int:=((List.range k).filter (jV l a b)).map (fun(n:Nat)=>(n:Int))
theorem Fx(h:jV l a b k=true):Xz l a b (k+1)=Xz l a b k++[(k:Int)]:=by
 simp[Xz,List.range_succ,List.filter_append,h]
theorem commK_no(h:¬jV l a b k=true):Xz l a b (k+1)=Xz l a b k:=by
 simp[Xz,List.range_succ,List.filter_append,h]
theorem commK_le(l:List Ty)(a b k:Nat):(Xz l a b k).length<=k:=by
 have:=List.length_filter_le (jV l a b) (List.range k)
 simpa[Xz]using this
theorem Fk(hx:xs=Xz l a b k)(hj:j<xs.length):∃ n:Nat,xs[j]=(n:Int)/\n<k/\jV l a b n=true:=by
 have hm:xs[j]∈Xz l a b k:=by rw[<- hx];exact aq hj
 simp only[Xz,List.mem_map,List.mem_filter,List.mem_range]at hm;obtain⟨n,⟨h1,h2⟩,h3⟩:=hm;exact⟨n,h3.symm,h1,h2⟩
theorem Fj(hx:xs=Xz l a b k)(hn:n<k)(hc:jV l a b n=true):∃ j,∃ hj:j<xs.length,xs[j]=(n:Int):=by
 have hm:(n:Int)∈xs:=by
  rw[hx];simp only[Xz,List.mem_map,List.mem_filter,List.mem_range];exact⟨n,⟨hn,hc⟩,rfl⟩
 obtain⟨j,hj,h⟩:=List.getElem_of_mem hm;exact⟨j,hj,h⟩
def L1(l:List Ty)(xs:List Int)(m j:Nat):Bool:=(xs.take j).all (fun x=>sub l x.toNat m)
theorem allB_succ(hj:j<xs.length)(h:xs[j]=(n:Int)):(L1 l xs m j&&sub l n m)=L1 l xs m (j+1):=by
 unfold L1;rw[List.take_succ_eq_append_getElem hj,List.all_append,h];simp
theorem allB_yes(h:L1 l xs m xs.length=true)(hj:j<xs.length)(hn:xs[j]=(n:Int)):sub l n m=true:=by
 unfold L1 at h;rw[List.take_length,List.all_eq_true]at h;have:=h _ (aq hj);rw[hn]at this;simpa using this
theorem allB_no(hx:xs=Xz l a b k)(h:L1 l xs m xs.length=false):∃ x,x<k/\jV l a b x=true/\sub l x m=false:=by
 unfold L1 at h;rw[List.take_length]at h;have h':¬xs.all (fun x=>sub l x.toNat m)=true:=by rw[h];simp
 rw[List.all_eq_true]at h';have h2:∃ x,x∈xs/\¬sub l x.toNat m=true:=aK (fun hc=>h' (fun x a1=>aK (fun hs=>hc ⟨x,a1,hs⟩)));obtain⟨x,a1,hs⟩:=h2;rw[hx]at a1;simp only[Xz,List.mem_map,List.mem_filter,List.mem_range]at a1;obtain⟨n,⟨h3,h4⟩,rfl⟩:=a1;exact⟨n,h3,h4,by simpa using hs⟩
theorem Nq:zw Tryz.prog 56=true:=by kernel_rfl
theorem PJ:(Tryz.prog.info? 3).map (fun i=>(i.zero,i.size,i.bytes))=some (some (.int .i64 0),1,8):=by kernel_rfl
theorem Oy:(Tryz.prog.info? 3).map (·.zero)=some (some (.int .i64 0)):=by kernel_rfl
set_option maxHeartbeats 1000000 in
theorem smeet_any(A:Option Addr)(c:Nat)(l:List Ty)(a b:Nat)(w:World)(hT:TypesIn w A l)(hv:VT l)(a5:l.length<=60)(ha:a<l.length)(hb:b<l.length):Calls Tryz.prog 63 #[.slice A l.length c,.int .i64 a,.int .i64 b] w fun e w'=>(∃ u,e= .returned (.tuple #[.int .i64 (meet l a b).1,.bool (meet l a b).2.1,.bool u]))/\Bel w w':=by
 refine enT Tryz.func63 Tryz.ntmps63 rfl rfl fun hB=>?_;refine zn21 ?_;refine qz (rg [9,10] 18 18) (fun m g w'=>∃(k:Nat) (A9:Option Addr) (a1:Nat) (xs:List Int),k<=l.length/\m=l.length-k/\g 18= .int .i64 k/\g 9= .slice A9 xs.length a1/\xs=Xz l a b k/\Bel w w'/\Own w' w.heap.size 3 1 A9 (xs).length a1 ((xs).map (Value.int .i64))) (l.length) ?_ (fun m g3 w1 hI=>?_)
 ·exact⟨0,none,0,[],ah _,rfl,rfl,rfl,rfl,hB,Own.nil _ _ _ _⟩
 obtain⟨k,A9,a1,xs,hk,hm,h18,h9,a2,hB,ho⟩:=hI;refine zQ 18 _ h18 nu (zQ 9 _ h9 nu (zn6 ?_));refine zZ rfl (fun c19=>?_) (fun c19=>?_)
 ·have hlt:k<l.length:=by omega
  refine vJ ?_;refine xv (rg [] 21 10) (fun g w'=>g 30= .bool (decide (jV l a b k=true))/\Bel w w'/\Own w' w.heap.size 3 1 A9 (xs).length a1 ((xs).map (Value.int .i64))) ?_ (fun g5 w2 hI=>?_)
  ·refine zn4 ?_;refine a7 Nq (M3 _ _ _ _ _ _ (hT.mono hB) hv a5 hlt ha) rfl (fun w3 s1=>?_);refine wl (x6 (v:= .bool _) rfl) ?_;replace ho:=ho.tr0 s1;refine uv 25 rfl (fun b3=>?_) (fun b3=>?_)
   ·refine zn7 ?_;refine a7 Nq (M3 _ _ _ _ _ _ (hT.mono hB.u) hv a5 hlt hb) rfl (fun w4 s2=>?_);refine zn2 ?_;refine e_R ⟨agA,?_⟩;replace hB:=hB.tr0 (s1.t s2);replace ho:=ho.tr0 s2;exact⟨ag (by simp[jV,b3]),hB,ho⟩
   refine zn6 ?_;refine e_R ⟨agA,?_⟩;replace hB:=hB.tr0 s1;exact⟨ag (by simp[jV,b3]),hB,ho⟩
  obtain⟨h30,hB,ho⟩:=hI;refine vZ 30 _ h30 nu (e_S ?_);refine zZ rfl (fun a8=>?_) (fun a8=>?_)
  ·have ab:=commK_le l a b k;rw[<- a2]at ab;refine zn3 ?_;refine qZ (cs:=#[_]) [(0,.int _ _)] rfl U62 xw Oy dE dE kR rfl (fun b33 w5 ao s3 hr=>?_);replace ho:=ho.tr0 s3;refine vV U62 PJ rfl dE ho ao rfl rfl rfl xW dE oG oG (Bel.size hB.u) (fun g34 cap34 w6 a3 s4 hg=>?_);replace hB:=hB.u.tr s4 (fun g hg=>nLT (ai _) (ho.lt g hg).1);refine zn8 ?_;refine x9 (l.length-(k+1)) oG agA ?_
   first
     | exact⟨k+1,_,_,xs++[(k:Int)],by omega,rfl,rfl,DY _ _ _ _,by rw[a2,Fx a8],hB,EV a3⟩
     | exact⟨k+1,_,_,xs,by omega,rfl,rfl,rfl,by rw[a2,commK_no a8],hB,ho⟩
  refine zn7 ?_;refine x9 (l.length-(k+1)) oG agA ?_
  first
    | exact⟨k+1,_,_,xs++[(k:Int)],by omega,rfl,rfl,DY _ _ _ _,by rw[a2,Fx a8],hB,EV a3⟩
    | exact⟨k+1,_,_,xs,by omega,rfl,rfl,rfl,by rw[a2,commK_no a8],hB,ho⟩
 have hkl:k=l.length:=by omega
 rw[hkl]at a2;have ab:=commK_le l a b l.length;rw[<- a2]at ab;refine QY ?_;refine qz (rg [6,7,8,12,13,15] 38 21) (fun m g w'=>∃ i:Nat,i<=xs.length/\m=xs.length-i/\g 38= .int .i64 i/\Bel w w'/\Own w' w.heap.size 3 1 A9 (xs).length a1 ((xs).map (Value.int .i64))/\(∀ j (hj:j<xs.length),j<i->∃ x,x<l.length/\jV l a b x=true/\sub l x (xs[j]).toNat=false)) (xs.length) ?_ (fun m g9 w7 hI=>?_)
 ·exact⟨0,ah _,rfl,rfl,hB,ho,fun j hj h=>by omega⟩
 obtain⟨i,hi,hm,h38,hB,ho,hP⟩:=hI;refine zQ 38 _ h38 nu (zn6 ?_);refine zZ rfl (fun c39=>?_) (fun c39=>?_)
 ·have ad:i<xs.length:=by omega
  obtain⟨mn,hmn,hml,hmc⟩:=Fk a2 ad;obtain⟨pb,po,rfl,hpb,hpc⟩:=(S7 ho).at_ ad;rw[hmn]at hpc;refine zn7 ?_;refine wl (qj (v:= .int _ _) U3 rfl rfl hpc) (Nk ?_);refine qz (rg [13,15] 44 12) (fun m g w'=>∃ j:Nat,j<=xs.length/\m=xs.length-j/\g 44= .int .i64 j/\g 13= .bool (L1 l xs mn j)/\Bel w w'/\Own w' w.heap.size 3 1 (some ⟨pb,po,none⟩) (xs).length a1 ((xs).map (Value.int .i64))) (xs.length) ?_ (fun m g13 w8 hI=>?_)
  ·exact⟨0,ah _,rfl,rfl,rfl,hB,ho⟩
  obtain⟨j,hj,hm2,h44,b1,hB,ho⟩:=hI;refine zQ 44 _ h44 nu (zQ 13 _ b1 nu (zn6 ?_));refine zZ rfl (fun c45=>?_) (fun c45=>?_)
  ·have ac:j<xs.length:=by omega
   obtain⟨xn,hxn,a9,hxc⟩:=Fk a2 ac;obtain⟨qb,qo,he,hqb,hqc⟩:=(S7 ho).at_ ac;cases he;rw[hxn]at hqc;refine zn7 ?_;refine wl (qj (v:= .int _ _) U3 rfl rfl hqc) (zn3 ?_);refine xv (rg [13] 48 7) (fun g w'=>g 13= .bool (L1 l xs mn j&&sub l xn mn)/\Bel w w'/\Own w' w.heap.size 3 1 (some ⟨pb,po,none⟩) (xs).length a1 ((xs).map (Value.int .i64))) ?_ (fun g15 w9 hI=>?_)
   ·refine zn3 ?_;refine uv 49 rfl (fun b2=>?_) (fun b2=>?_)
    ·refine zn7 ?_;refine a7 Nq (M3 _ _ _ _ _ _ (hT.mono hB) hv a5 a9 hml) rfl (fun w10 s5=>?_);refine zn3 ?_;refine e_R ⟨agA,?_⟩;replace hB:=hB.tr0 s5;replace ho:=ho.tr0 s5;exact⟨ag (by simp[b2]),hB,ho⟩
    refine zn7 ?_;refine e_R ⟨agA,?_⟩;exact⟨ag (by simp[b2]),hB,ho⟩
   obtain⟨b1,hB,ho⟩:=hI;refine vZ 13 _ b1 nu (zn6 ?_);refine x9 (xs.length-(j+1)) oG agA ?_;exact⟨j+1,by omega,rfl,rfl,ag (allB_succ ac hxn),hB,ho⟩
  have a4:j=xs.length:=by omega
  subst a4;refine yj ?_;refine jv rfl (fun b4=>?_) (fun b4=>?_)
  ·have hmt:=meet_is hv a5 hml hmc (fun x hx hc=>by
     obtain⟨jx,a4,an⟩:=Fj a2 hx hc
     exact allB_yes b4 a4 an)
   refine QY ?_;refine fin3 (.inl rfl) rfl rfl rfl rfl ?_;exact⟨⟨true,by rw[hmt];rfl⟩,hB⟩
  refine zn7 ?_;refine x9 (xs.length-(i+1)) oG agA ?_;refine⟨i+1,by omega,rfl,rfl,hB,ho,fun j hj hji=>?_⟩;by_cases e:j=i
  · subst e
    obtain⟨x,h1,h2,h3⟩:=allB_no a2 b4;exact⟨x,h1,h2,by rw[hmn];exact h3⟩
  · exact hP j hj oG
 have ad:i=xs.length:=by omega
 refine Jq ?_;refine fin3 (.inl rfl) rfl rfl rfl rfl ?_
 have hno:=H6 hv a5 (fun m hm hc=>by
   obtain⟨jx,a4,an⟩:=Fj a2 hm hc;obtain⟨x,h1,h2,h3⟩:=hP jx a4 oG;rw[an]at h3
   exact⟨x,h1,h2,h3⟩)
 exact⟨⟨decide (0<(xs.length:Int)),by rw[hno.1,hno.2];rfl⟩,hB⟩
end Go.Proofs.YtndbjnkilegebaaGreatDoor
