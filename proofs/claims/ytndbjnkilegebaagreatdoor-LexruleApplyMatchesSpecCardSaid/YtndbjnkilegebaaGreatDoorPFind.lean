/- What these functions compute, at every world: (*unify.pool).find, slices.Grow[[]api.Link,api.Link], slices.Concat[[]api.Link,api.Link]; and plain laws. -/
import Derived.Test.YtndbjnkilegebaaGreatDoorOrd
import Derived.Test.YtndbjnkilegebaaGreatDoorGro
import Derived.Test.YtndbjnkilegebaaGreatDoorU
import Derived.Test.YtndbjnkilegebaaGreatDoorZst
namespace Go.Proofs.YtndbjnkilegebaaGreatDoor
open Go.RowKit Go.Proofs.Tryz
variable {A:Option Addr}{a b bs i k lo n r:Nat}{g:List Nd}{o:List Nat}{w:World}{xs:List (Int×Int)}
section
structure UF(n:Nat)(P rep ρ:Nat->Nat):Prop where
 ex:∀ i,i<n->P i≠i->ρ (P i)<ρ i
 lt:∀ i,i<n->P i<n
 rl:∀ i,i<n->rep i<n
 rr:∀ i,i<n->P (rep i)=rep i
 rp:∀ i,i<n->rep (P i)=rep i
 fx:∀ i,i<n->P i=i->rep i=i
def JJ(P:Nat->Nat)(t v x:Nat):Nat:=if x=t then v else P x
theorem gX(P:Nat->Nat)(t v:Nat):JJ P t v t=v:=by simp[JJ]
theorem Q1{P:Nat->Nat}{t v x:Nat}(h:x≠t):JJ P t v x=P x:=by simp[JJ,h]
namespace UF
variable {n:Nat} {P rep ρ:Nat->Nat}
theorem two(h:UF n P rep ρ)(hi:i<n):rep (rep i)=rep i:=h.fx _ (h.rl i hi) (h.rr i hi)
theorem half(h:UF n P rep ρ)(hi:i<n)(hne:P i≠i):UF n (JJ P i (P (P i))) rep ρ:=by
 have h1:=h.ex i hi hne;have a2:=h.lt i hi;have h2:ρ (P (P i))<ρ i:=by
  by_cases e:P (P i)=P i
  ·rw[e];exact h1
  ·exact Nat.lt_trans (h.ex _ a2 e) h1
 refine⟨fun j hj a1=>?_,fun j hj=>?_,h.rl,fun j hj=>?_,fun j hj=>?_,fun j hj a1=>?_⟩
 ·by_cases e:j=i
  ·subst e;rw[gX];exact h2
  ·rw[Q1 e]at a1 ⊢;exact h.ex j hj a1
 ·by_cases e:j=i
  ·subst e;rw[gX];exact h.lt _ a2
  ·rw[Q1 e];exact h.lt j hj
 ·have e:rep j≠i:=fun e=>hne (by rw[<- e];exact h.rr j hj)
  rw[Q1 e];exact h.rr j hj
 ·by_cases e:j=i
  ·subst e;rw[gX,h.rp _ a2,h.rp j hj]
  ·rw[Q1 e];exact h.rp j hj
 ·by_cases e:j=i
  ·subst e;rw[gX]at a1;rw[a1]at h2;exact absurd h2 (aG _)
  ·rw[Q1 e]at a1;exact h.fx j hj a1
def un(rep:Nat->Nat)(a b x:Nat):Nat:=if rep x=b then a else rep x
def rk(rep ρ:Nat->Nat)(a b x:Nat):Nat:=if rep x=b then ρ x+ρ a+1 else ρ x
theorem join(h:UF n P rep ρ)(ha:a<n)(hb:b<n)(ra:rep a=a)(rb:rep b=b)(a2:a≠b):UF n (JJ P b a) (un rep a b) (rk rep ρ a b):=by
 have hab:¬rep a=b:=fun e=>a2 (ra.symm.trans e)
 have pb:P b=b:=by have:=h.rr b hb;rwa[rb]at this
 have pa:P a=a:=by have:=h.rr a ha;rwa[ra]at this
 refine⟨fun j hj a1=>?_,fun j hj=>?_,fun j hj=>?_,fun j hj=>?_,fun j hj=>?_,fun j hj a1=>?_⟩
 ·by_cases e:j=b
  ·subst e
   rw[gX];simp only[rk,if_neg hab,if_pos rb];omega
  ·rw[Q1 e]at a1 ⊢
   have h1:=h.ex j hj a1;simp only[rk,h.rp j hj];by_cases e2:rep j=b
   ·rw[if_pos e2,if_pos e2];omega
   ·rw[if_neg e2,if_neg e2];exact h1
 ·by_cases e:j=b
  ·subst e;rw[gX];exact ha
  ·rw[Q1 e];exact h.lt j hj
 ·unfold un;split
  ·exact ha
  ·exact h.rl j hj
 ·unfold un
  by_cases e:rep j=b
  ·rw[if_pos e,Q1 a2];exact pa
  ·rw[if_neg e,Q1 e];exact h.rr j hj
 ·unfold un
  by_cases e:j=b
  ·subst e;rw[gX,if_neg hab,if_pos rb];exact ra
  ·rw[Q1 e,h.rp j hj]
 ·unfold un
  by_cases e:j=b
  ·subst e;rw[gX]at a1;exact absurd a1 a2
  ·rw[Q1 e]at a1
   have:=h.fx j hj a1;rw[this,if_neg e]
theorem more(h:UF n P rep ρ){m:Nat}:UF (n+m) (fun x=>if x<n then P x else x) (fun x=>if x<n then rep x else x) ρ:=by
 refine⟨fun j hj a1=>?_,fun j hj=>?_,fun j hj=>?_,fun j hj=>?_,fun j hj=>?_,fun j hj a1=>?_⟩<;>(try dsimp only at a1)<;>(try dsimp only)<;>by_cases e:j<n
 ·rw[if_pos e]at a1 ⊢;exact h.ex j e a1
 ·rw[if_neg e]at a1;exact absurd rfl a1
 ·rw[if_pos e];have:=h.lt j e;omega
 ·rw[if_neg e];exact hj
 ·rw[if_pos e];have:=h.rl j e;omega
 ·rw[if_neg e];exact hj
 ·rw[if_pos e,if_pos (h.rl j e)];exact h.rr j e
 ·rw[if_neg e,if_neg e]
 ·rw[if_pos e,if_pos (h.lt j e),if_pos e];exact h.rp j e
 ·rw[if_neg e,if_neg e]
 ·rw[if_pos e]at a1 ⊢;exact h.fx j e a1
 ·rw[if_neg e]
theorem nil(P rep ρ:Nat->Nat):UF 0 P rep ρ:=⟨fun _ h=>absurd h (aB _),fun _ h=>absurd h (aB _),fun _ h=>absurd h (aB _),fun _ h=>absurd h (aB _),fun _ h=>absurd h (aB _),fun _ h=>absurd h (aB _)⟩
end UF
def roots(n:Nat)(rep:Nat->Nat):Nat:=(List.range n).countP (fun i=>decide (rep i=i))
theorem roots_le(n:Nat)(rep:Nat->Nat):roots n rep<=n:=by
 have:=List.countP_le_length (p:=fun i=>decide (rep i=i)) (l:=List.range n)
 simpa[roots]using this
theorem BZ{rep:Nat->Nat}(hb:b<n)(rb:rep b=b)(ra:rep a=a)(hne:a≠b):roots n (UF.un rep a b)<roots n rep:=
 QJ (fun x hx=>by
  have h1:=aO hx
  unfold UF.un at h1
  by_cases e:rep x=b
  ·rw[if_pos e]at h1;rw[<- h1,ra]at e;exact absurd e hne
  ·rw[if_neg e]at h1;exact aj h1) (List.range n) b (az.2 hb) (by simp[rb]) (by simp[UF.un,rb,hne])
def xY:List (Int×Int)->List (Int×Int)->List (Int×Int)
 | [],ys=>ys
 | x::xs,[]=>x::xs
 | x::xs,y::ys=>if x.1<y.1 then x::xY xs (y::ys)else if y.1<x.1 then y::xY (x::xs) ys else x::xY xs ys
termination_by xs ys=>xs.length+ys.length
def Zy:List (Int×Int)->List (Int×Int)->List (Int×Int)
 | [],_=>[]
 | _::_,[]=>[]
 | x::xs,y::ys=>if x.1<y.1 then Zy xs (y::ys)else if y.1<x.1 then Zy (x::xs) ys else (x.2,y.2)::Zy xs ys
termination_by xs ys=>xs.length+ys.length
theorem QQ{z:Int×Int}:∀ {xs ys:List (Int×Int)},z∈xY xs ys->z∈xs\/z∈ys
 | [],ys,h=> .inr (by simpa[xY]using h)
 | x::xs,[],h=> .inl (by simpa[xY]using h)
 | x::xs,y::ys,h=>by
  unfold xY at h
  by_cases h1:x.1<y.1
  ·rw[if_pos h1]at h
   rcases av.1 h with e|h
   ·exact .inl (by simp[e])
   ·rcases QQ h with h|h
    ·exact .inl (aw _ h)
    ·exact .inr h
  ·rw[if_neg h1]at h
   by_cases h2:y.1<x.1
   ·rw[if_pos h2]at h
    rcases av.1 h with e|h
    ·exact .inr (by simp[e])
    ·rcases QQ h with h|h
     ·exact .inl h
     ·exact .inr (aw _ h)
   ·rw[if_neg h2]at h
    rcases av.1 h with e|h
    ·exact .inl (by simp[e])
    ·rcases QQ h with h|h
     ·exact .inl (aw _ h)
     ·exact .inr (aw _ h)
termination_by xs ys=>xs.length+ys.length
theorem Yk{z:Int×Int}:∀ {xs ys:List (Int×Int)},z∈xs->z∈xY xs ys
 | [],ys,h=>by cases h
 | x::xs,[],h=>by simpa[xY]using h
 | x::xs,y::ys,h=>by
  unfold xY
  by_cases h1:x.1<y.1
  ·rw[if_pos h1]
   rcases av.1 h with e|h
   ·simp[e]
   ·exact aw _ (Yk h)
  ·rw[if_neg h1]
   by_cases h2:y.1<x.1
   ·rw[if_pos h2];exact aw _ (Yk h)
   ·rw[if_neg h2]
    rcases av.1 h with e|h
    ·simp[e]
    ·exact aw _ (Yk h)
termination_by xs ys=>xs.length+ys.length
theorem V7{z:Int×Int}:∀ {xs ys:List (Int×Int)},z∈ys->z∈xY xs ys\/∃ t,(z.1,t)∈xs/\(t,z.2)∈Zy xs ys
 | [],ys,h=> .inl (by simpa[xY]using h)
 | x::xs,[],h=>by cases h
 | x::xs,y::ys,h=>by
  unfold xY Zy
  by_cases h1:x.1<y.1
  ·rw[if_pos h1,if_pos h1]
   rcases V7 (xs:=xs) h with h|⟨t,h3,h4⟩
   ·exact .inl (aw _ h)
   ·exact .inr ⟨t,aw _ h3,h4⟩
  ·rw[if_neg h1,if_neg h1]
   by_cases h2:y.1<x.1
   ·rw[if_pos h2,if_pos h2]
    rcases av.1 h with e|h
    ·exact .inl (by simp[e])
    ·rcases V7 (xs:=x::xs) h with h|⟨t,h3,h4⟩
     ·exact .inl (aw _ h)
     ·exact .inr ⟨t,h3,h4⟩
   ·rw[if_neg h2,if_neg h2]
    rcases av.1 h with e|h
    ·refine .inr ⟨x.2,?_,?_⟩
     ·have:z.1=x.1:=by rw[e];omega
      rw[this];exact aE ..
     ·rw[e];exact aE ..
    ·rcases V7 (xs:=xs) h with h|⟨t,h3,h4⟩
     ·exact .inl (aw _ h)
     ·exact .inr ⟨t,aw _ h3,aw _ h4⟩
termination_by xs ys=>xs.length+ys.length
theorem Ij{p:Int×Int}:∀ {xs ys:List (Int×Int)},p∈Zy xs ys->∃ f,(f,p.1)∈xs/\(f,p.2)∈ys
 | [],ys,h=>by simp[Zy]at h
 | x::xs,[],h=>by simp[Zy]at h
 | x::xs,y::ys,h=>by
  unfold Zy at h
  by_cases h1:x.1<y.1
  ·rw[if_pos h1]at h
   obtain⟨f,h3,h4⟩:=Ij h
   exact⟨f,aw _ h3,h4⟩
  ·rw[if_neg h1]at h
   by_cases h2:y.1<x.1
   ·rw[if_pos h2]at h
    obtain⟨f,h3,h4⟩:=Ij h
    exact⟨f,h3,aw _ h4⟩
   ·rw[if_neg h2]at h
    rcases av.1 h with e|h
    ·refine⟨x.1,?_,?_⟩
     ·rw[e];exact aE ..
     ·rw[e,show x.1=y.1 by omega];exact aE ..
    ·obtain⟨f,h3,h4⟩:=Ij h
     exact⟨f,aw _ h3,aw _ h4⟩
termination_by xs ys=>xs.length+ys.length
theorem M4:∀ {xs ys:List (Int×Int)},Srt xs->Srt ys->Srt (xY xs ys)
 | [],ys,_,h=>by simpa[xY]using h
 | x::xs,[],h,_=>by simpa[xY]using h
 | x::xs,y::ys,hx,hy=>by
  obtain⟨a1,a2⟩:=aR.1 hx
  obtain⟨b1,b2⟩:=aR.1 hy
  unfold xY
  by_cases h1:x.1<y.1
  ·rw[if_pos h1]
   refine aR.2 ⟨fun z hz=>?_,M4 a2 hy⟩
   rcases QQ hz with h|h
   ·exact a1 z h
   ·rcases av.1 h with e|h
    ·rw[e];exact h1
    ·have:=b1 z h;omega
  ·rw[if_neg h1]
   by_cases h2:y.1<x.1
   ·rw[if_pos h2]
    refine aR.2 ⟨fun z hz=>?_,M4 hx b2⟩
    rcases QQ hz with h|h
    ·rcases av.1 h with e|h
     ·rw[e];exact h2
     ·have:=a1 z h;omega
    ·exact b1 z h
   ·rw[if_neg h2]
    refine aR.2 ⟨fun z hz=>?_,M4 a2 b2⟩
    rcases QQ hz with h|h
    ·exact a1 z h
    ·have:=b1 z h;omega
termination_by xs ys=>xs.length+ys.length
structure Adm(l:List Ty)(U c:List Nd)(θ:Nat->Nat):Prop where
 lt:∀ i,i<U.length->θ i<c.length
 ty:∀ i,i<U.length->sub l (nd c (θ i)).ty.toNat (nd U i).ty.toNat=true
 ln:∀ i,i<U.length->∀ x∈(nd U i).ln,tgt (nd c (θ i)).ln x.1=((θ x.2.toNat:Nat):Int)
def T5(n:Nat)(rep:Nat->Nat)(W:List (Int×Int))(κ:Nat->Nat):Prop:=(∀ i,i<n->κ i=κ (rep i))/\∀ w∈W,κ w.1.toNat=κ w.2.toNat
structure US(l:List Ty)(U:List Nd)(J:List (Nat×Nat))(P rep ρ:Nat->Nat)(T:Nat->Int)(L:Nat->List (Int×Int))(W:List (Int×Int)):Prop where
 uf:UF U.length P rep ρ
 ty:∀ i,i<U.length->0<=T i/\T i<l.length
 srt:∀ i,i<U.length->Srt (L i)
 wr:∀ w∈W,(0<=w.1/\w.1.toNat<U.length)/\0<=w.2/\w.2.toNat<U.length
 only:∀ c θ,(∀ i,i<c.length->0<=(nd c i).ty/\(nd c i).ty<l.length)->Adm l U c θ->(∀ p∈J,θ p.1=θ p.2)->T5 U.length rep W θ/\∀ i,i<U.length->rep i=i->sub l (nd c (θ i)).ty.toNat (T i).toNat=true
 tcov:∀ i,i<U.length->sub l (T (rep i)).toNat (nd U i).ty.toNat=true
 lcov:∀ i,i<U.length->∀ x∈(nd U i).ln,∃ t,(x.1,t)∈L (rep i)/\∀ κ,T5 U.length rep W κ->κ x.2.toNat=κ t.toNat
 jcov:∀ p∈J,∀ κ,T5 U.length rep W κ->κ p.1=κ p.2
 val:∀ i,i<U.length->rep i=i->∀ x∈L i,∃ u,u<U.length/\rep u=i/\x∈(nd U u).ln
 ur:∀ i,i<U.length->∀ x∈(nd U i).ln,0<=x.2/\x.2.toNat<U.length
section us
variable {l:List Ty} {U:List Nd} {J:List (Nat×Nat)} {P rep ρ:Nat->Nat} {T:Nat->Int} {L:Nat->List (Int×Int)} {W:List (Int×Int)}
theorem US.half(h:US l U J P rep ρ T L W){i:Nat}(hi:i<U.length)(hne:P i≠i):US l U J (JJ P i (P (P i))) rep ρ T L W:=
 ⟨h.uf.half hi hne,h.ty,h.srt,h.wr,h.only,h.tcov,h.lcov,h.jcov,h.val,h.ur⟩
theorem US.skip{p:Int×Int}(h:US l U J P rep ρ T L (W++[p]))(he:rep p.1.toNat=rep p.2.toNat):US l U J P rep ρ T L W:=by
 have hp:=h.wr p (by simp)
 have hr:∀ κ,T5 U.length rep W κ->T5 U.length rep (W++[p]) κ:=fun κ hκ=>⟨hκ.1,fun w hw=>by
  rcases aD.1 hw with hw|hw
  ·exact hκ.2 w hw
  ·rw[List.mem_singleton.1 hw,hκ.1 _ hp.1.2,he,<- hκ.1 _ hp.2.2]⟩
 refine⟨h.uf,h.ty,h.srt,fun w hw=>h.wr w (by simp[hw]),fun c θ hc hθ hj=>?_,h.tcov,fun i hi x hx=>?_,fun p hp κ hκ=>h.jcov p hp κ (hr κ hκ),h.val,h.ur⟩
 ·obtain⟨h1,h2⟩:=h.only c θ hc hθ hj
  exact⟨⟨h1.1,fun w hw=>h1.2 w (by simp[hw])⟩,h2⟩
 ·obtain⟨t,h1,h2⟩:=h.lcov i hi x hx
  exact⟨t,h1,fun κ hκ=>h2 κ (hr κ hκ)⟩
def MV(l:List Ty)(U:List Nd)(J:List (Nat×Nat)):Prop:=∃ c θ,(∀ i,i<c.length->0<=(nd c i).ty/\(nd c i).ty<l.length)/\Adm l U c θ/\∀ p∈J,θ p.1=θ p.2
theorem US.fail(hs:Kv l){p:Int×Int}(h:US l U J P rep ρ T L (W++[p]))(hm:(meet l (T (rep p.1.toNat)).toNat (T (rep p.2.toNat)).toNat).2.1=false):¬MV l U J:=by
 rintro⟨c,θ,hc,hθ,hj⟩
 have hp:=h.wr p (by simp);obtain⟨h1,h2⟩:=h.only c θ hc hθ hj;have e:=h1.2 p (by simp);have ha:=h.uf.rl _ hp.1.2;have hb:=h.uf.rl _ hp.2.2;have e1:=h1.1 _ hp.1.2;have e2:=h1.1 _ hp.2.2;have s1:=h2 _ ha (h.uf.two hp.1.2);have s2:=h2 _ hb (h.uf.two hp.2.2);rw[<- e1]at s1;rw[<- e2,<- e]at s2;have hlt:=hθ.lt _ hp.1.2;have hct:=hc _ hlt;have t1:=h.ty _ ha;have t2:=h.ty _ hb;have:=hs.all (T (rep p.1.toNat)).toNat (T (rep p.2.toNat)).toNat (nd c (θ p.1.toNat)).ty.toNat oG oG oG (by simp[jV,s1,s2]);rw[hm]at this;cases this
theorem US.join(hs:Kv l){p:Int×Int}{a b m:Nat}(h:US l U J P rep ρ T L (W++[p]))(ha:rep p.1.toNat=a)(hb:rep p.2.toNat=b)(hne:a≠b)(hm:meet l (T a).toNat (T b).toNat=(m,true,false)):
  US l U J (JJ P b a) (UF.un rep a b) (UF.rk rep ρ a b) (fun x=>if x=a then (m:Int)else T x) (fun x=>if x=a then xY (L a) (L b)else L x) (W++Zy (L a) (L b)):=by
 have hp:=h.wr p (by simp);have a8:a<U.length:=by rw[<- ha];exact h.uf.rl _ hp.1.2
 have a5:b<U.length:=by rw[<- hb];exact h.uf.rl _ hp.2.2
 have ra:rep a=a:=by rw[<- ha];exact h.uf.two hp.1.2
 have rb:rep b=b:=by rw[<- hb];exact h.uf.two hp.2.2
 obtain⟨m1,m2,m3⟩:=Pv hs.le (a:=(T a).toNat) (b:=(T b).toNat) (by rw[hm]);rw[hm]at m1 m2 m3;simp only at m1 m2 m3;have m2':sub l m (T a).toNat=true/\sub l m (T b).toNat=true:=by simpa[jV]using m2
 have hLr:∀ i,i<U.length->rep i=i->∀ x∈L i,∃ u,u<U.length/\rep u=i/\x∈(nd U u).ln:=h.val;have a1:∀ x,UF.un rep a b x=a↔rep x=a\/rep x=b:=fun x=>by
  unfold UF.un;by_cases e:rep x=b
  ·simp[e]
  ·simp[e]
 have a2:∀ x,¬(rep x=a\/rep x=b)->UF.un rep a b x=rep x:=fun x hx=>by
  unfold UF.un;rw[if_neg (fun e=>hx (.inr e))]
 have hr:∀ κ,T5 U.length (UF.un rep a b) (W++Zy (L a) (L b)) κ->T5 U.length rep (W++[p]) κ:=fun κ hκ=>by
  have kb:κ b=κ a:=by have:=hκ.1 b a5;rwa[(a1 b).2 (.inr rb)]at this
  have k1:∀ i,i<U.length->κ i=κ (rep i):=fun i hi=>by
   have:=hκ.1 i hi;by_cases e:rep i=b
   ·rw[(a1 i).2 (.inr e)]at this;rw[this,e,kb]
   ·by_cases e2:rep i=a
    ·rw[(a1 i).2 (.inl e2)]at this;rw[this,e2]
    ·rwa[a2 i (fun h=>h.elim e2 e)]at this
  refine⟨k1,fun w hw=>?_⟩;rcases aD.1 hw with hw|hw
  ·exact hκ.2 w (by simp[hw])
  ·rw[List.mem_singleton.1 hw,k1 _ hp.1.2,k1 _ hp.2.2,ha,hb,kb]
 refine⟨h.uf.join a8 a5 ra rb hne,fun i hi=>?_,fun i hi=>?_,fun w hw=>?_,fun c θ hc hθ hj=>?_,fun i hi=>?_,fun i hi x hx=>?_,fun q hq κ hκ=>h.jcov q hq κ (hr κ hκ),fun i hi a4 x hx=>?_,h.ur⟩
 ·(try dsimp only)
  split
  ·omega
  ·exact h.ty i hi
 ·(try dsimp only)
  split
  ·exact M4 (h.srt a a8) (h.srt b a5)
  ·exact h.srt i hi
 ·rcases aD.1 hw with hw|hw
  ·exact h.wr w (by simp[hw])
  ·obtain⟨f,f1,f2⟩:=Ij hw
   obtain⟨u,u1,_,u2⟩:=h.val a a8 ra _ f1;obtain⟨v,v1,_,v2⟩:=h.val b a5 rb _ f2;have g1:=h.ur u u1 _ u2;have g2:=h.ur v v1 _ v2;exact⟨g1,g2⟩
 ·obtain⟨h1,h2⟩:=h.only c θ hc hθ hj
  have ep:=h1.2 p (by simp);have a9:θ a=θ b:=by rw[<- ha,<- hb,<- h1.1 _ hp.1.2,<- h1.1 _ hp.2.2];exact ep
  have hlk:∀ r,r<U.length->rep r=r->∀ x∈L r,tgt (nd c (θ r)).ln x.1=((θ x.2.toNat:Nat):Int):=fun r hr hrr x hx=>by
   obtain⟨u,hu,hur,hxu⟩:=h.val r hr hrr x hx;have:=hθ.ln u hu x hxu;rw[h1.1 u hu,hur]at this;exact this
  refine⟨⟨fun i hi=>?_,fun w hw=>?_⟩,fun i hi a4=>?_⟩
  ·have:=h1.1 i hi
   by_cases e:rep i=b
   ·rw[(a1 i).2 (.inr e),a9,this,e]
   ·by_cases e2:rep i=a
    ·rw[(a1 i).2 (.inl e2),this,e2]
    ·rw[a2 i (fun h=>h.elim e2 e)];exact this
  ·rcases aD.1 hw with hw|hw
   ·exact h1.2 w (by simp[hw])
   ·obtain⟨f,f1,f2⟩:=Ij hw
    have g1:=hlk a a8 ra _ f1;have g2:=hlk b a5 rb _ f2;rw[<- a9,g1]at g2;exact Int.ofNat.inj g2
  ·(try dsimp only)
   by_cases e:i=a
   ·subst e
    rw[if_pos rfl];have s1:=h2 i a8 ra;have s2:=h2 b a5 rb;rw[<- a9]at s2;have hct:=hc _ (hθ.lt i a8);have:=m3 (nd c (θ i)).ty.toNat oG (by simp[jV,s1,s2]);rw[Int.toNat_natCast];exact this
   ·rw[if_neg e]
    refine h2 i hi ?_;by_cases e2:rep i=a\/rep i=b
    ·rw[(a1 i).2 e2]at a4;exact absurd a4.symm e
    ·rwa[a2 i e2]at a4
 ·have ht:=h.tcov i hi
  (try dsimp only)
  by_cases e:rep i=a\/rep i=b
  ·rw[(a1 i).2 e,if_pos rfl,Int.toNat_natCast]
   rcases e with e|e
   ·rw[e]at ht;exact Y7 hs.vt m2'.1 ht
   ·rw[e]at ht;exact Y7 hs.vt m2'.2 ht
  ·rw[a2 i e,if_neg (fun e2=>e (.inl e2))];exact ht
 ·obtain⟨t,h1,h2⟩:=h.lcov i hi x hx
  (try dsimp only)
  by_cases e:rep i=a\/rep i=b
  ·rw[(a1 i).2 e,if_pos rfl]
   rcases e with e|e
   ·rw[e]at h1
    exact⟨t,Yk h1,fun κ hκ=>h2 κ (hr κ hκ)⟩
   ·rw[e]at h1
    rcases V7 (xs:=L a) h1 with h3|⟨s,h3,h4⟩
    ·exact⟨t,h3,fun κ hκ=>h2 κ (hr κ hκ)⟩
    ·refine⟨s,Yk h3,fun κ hκ=>?_⟩
     have:=hκ.2 _ (List.mem_append_right _ h4);rw[h2 κ (hr κ hκ)];exact this.symm
  ·rw[a2 i e,if_neg (fun e2=>e (.inl e2))]
   exact⟨t,h1,fun κ hκ=>h2 κ (hr κ hκ)⟩
 ·(try dsimp only at hx)
  by_cases e:i=a
  ·subst e
   rw[if_pos rfl]at hx;rcases QQ hx with hx|hx
   ·obtain⟨u,h1,h2,h3⟩:=h.val i a8 ra x hx
    exact⟨u,h1,(a1 u).2 (.inl h2),h3⟩
   ·obtain⟨u,h1,h2,h3⟩:=h.val b a5 rb x hx
    exact⟨u,h1,(a1 u).2 (.inr h2),h3⟩
  ·rw[if_neg e]at hx
   have e2:¬(rep i=a\/rep i=b):=fun e2=>by rw[(a1 i).2 e2]at a4;exact e a4.symm
   have a3:=a4;rw[a2 i e2]at a3;obtain⟨u,h1,h2,h3⟩:=h.val i hi a3 x hx;refine⟨u,h1,?_,h3⟩;rw[a2 u (by rw[h2,<- a3];exact e2),h2]
theorem US.push(h:US l U J P rep ρ T L [])(ha:a<U.length)(hb:b<U.length):US l U (J++[(a,b)]) P rep ρ T L [((a:Int),(b:Int))]:=by
 have hr:∀ κ,T5 U.length rep [((a:Int),(b:Int))] κ->T5 U.length rep [] κ:=fun κ hκ=>⟨hκ.1,fun w hw=>by cases hw⟩
 refine⟨h.uf,h.ty,h.srt,fun w hw=>?_,fun c θ hc hθ hj=>?_,h.tcov,fun i hi x hx=>?_,fun q hq κ hκ=>?_,h.val,h.ur⟩
 ·rw[List.mem_singleton.1 hw];simp only[Int.toNat_natCast];omega
 ·obtain⟨h1,h2⟩:=h.only c θ hc hθ (fun q hq=>hj q (by simp[hq]))
  refine⟨⟨h1.1,fun w hw=>?_⟩,h2⟩;rw[List.mem_singleton.1 hw];simp only[Int.toNat_natCast];exact hj (a,b) (by simp)
 ·obtain⟨t,h1,h2⟩:=h.lcov i hi x hx
  exact⟨t,h1,fun κ hκ=>h2 κ (hr κ hκ)⟩
 ·rcases aD.1 hq with hq|hq
  ·exact h.jcov q hq κ (hr κ hκ)
  ·rw[List.mem_singleton.1 hq]
   have:=hκ.2 _ (ar.2 rfl)
   simpa using this
def shN(k:Nat)(x:Nd):Nd:=⟨x.ty,x.ln.map (fun y=>(y.1,y.2+(k:Int)))⟩
theorem Zx{U V:List Nd}(h:i<U.length):nd (U++V) i=nd U i:=by simp[nd,List.getD,List.getElem?_append_left h]
theorem J4{U:List Nd}(h:i<g.length):nd (U++g.map (shN U.length)) (U.length+i)=shN U.length (nd g i):=by
 simp[nd,List.getD,h]
theorem US.add(h:US l U J P rep ρ T L [])(hg:GY l g)(_hJ:∀ p∈J,p.1<U.length/\p.2<U.length):
  US l (U++g.map (shN U.length)) J (fun x=>if x<U.length then P x else x) (fun x=>if x<U.length then rep x else x) ρ (fun x=>if x<U.length then T x else (nd g (x-U.length)).ty) (fun x=>if x<U.length then L x else (nd g (x-U.length)).ln.map (fun y=>(y.1,y.2+(U.length:Int)))) []:=by
 have a1:(U++g.map (shN U.length)).length=U.length+g.length:=by simp
 have a3:∀ i,i<U.length+g.length->¬i<U.length->nd (U++g.map (shN U.length)) i=shN U.length (nd g (i-U.length))/\i-U.length<g.length:=fun i hi hn=>by
  have e:i=U.length+(i-U.length):=by omega
  have hlt:i-U.length<g.length:=by omega
  refine⟨?_,hlt⟩;have:=J4 (U:=U) hlt
  rwa[<- e]at this
 have hro:∀ κ,T5 (U++g.map (shN U.length)).length (fun x=>if x<U.length then rep x else x) [] κ->T5 U.length rep [] κ:=fun κ hκ=>⟨fun i hi=>by
  have:=hκ.1 i (by rw[a1];omega)
  simpa[hi]using this,fun w hw=>by cases hw⟩
 refine⟨by rw[a1];exact h.uf.more,fun i hi=>?_,fun i hi=>?_,(fun w hw=>by cases hw),fun c θ hc hθ hj=>?_,fun i hi=>?_,fun i hi x hx=>?_,fun q hq κ hκ=>h.jcov q hq κ (hro κ hκ),fun i hi a2 x hx=>?_,fun i hi x hx=>?_⟩<;>(try rw[a1]at hi)
 ·(try dsimp only)
  by_cases e:i<U.length
  ·rw[if_pos e];exact h.ty i e
  ·rw[if_neg e];exact hg.tr _ (a3 i hi e).2
 ·(try dsimp only)
  by_cases e:i<U.length
  ·rw[if_pos e];exact h.srt i e
  ·rw[if_neg e];exact List.pairwise_map.2 (hg.srt _ (a3 i hi e).2)
 ·have hθU:Adm l U c θ:=⟨fun i hi=>hθ.lt i (by rw[a1];omega),fun i hi=>by
   have:=hθ.ty i (by rw[a1];omega)
   rwa[Zx hi]at this,fun i hi x hx=>hθ.ln i (by rw[a1];omega) x (by rw[Zx hi];exact hx)⟩
  obtain⟨h1,h2⟩:=h.only c θ hc hθU hj;refine⟨⟨fun i hi=>?_,fun w hw=>by cases hw⟩,fun i hi a2=>?_⟩
  ·(try dsimp only)
   by_cases e:i<U.length
   ·rw[if_pos e];exact h1.1 i e
   ·rw[if_neg e]
  ·(try dsimp only at a2 ⊢)
   by_cases e:i<U.length
   ·rw[if_pos e]at a2 ⊢;exact h2 i e a2
   ·rw[if_neg e]
    have:=hθ.ty i hi;rw[a1]at hi
    rwa[(a3 i hi e).1]at this
 ·(try dsimp only)
  by_cases e:i<U.length
  ·rw[if_pos e,if_pos (h.uf.rl i e),Zx e];exact h.tcov i e
  ·rw[if_neg e,if_neg e,(a3 i hi e).1];exact Y8 hg.vt _
 ·(try dsimp only)
  by_cases e:i<U.length
  ·rw[Zx e]at hx
   obtain⟨t,h1,h2⟩:=h.lcov i e x hx;refine⟨t,?_,fun κ hκ=>h2 κ (hro κ hκ)⟩;rw[if_pos e,if_pos (h.uf.rl i e)];exact h1
  ·rw[(a3 i hi e).1]at hx
   refine⟨x.2,?_,fun κ _=>rfl⟩;rw[if_neg e,if_neg e];exact hx
 ·(try dsimp only at a2 hx)
  by_cases e:i<U.length
  ·rw[if_pos e]at a2 hx
   obtain⟨u,h1,h2,h3⟩:=h.val i e a2 x hx;exact⟨u,by rw[a1];omega,by rw[if_pos h1];exact h2,by rw[Zx h1];exact h3⟩
  ·rw[if_neg e]at hx
   exact⟨i,by rw[a1];exact hi,by rw[if_neg e],by rw[(a3 i hi e).1];exact hx⟩
 ·by_cases e:i<U.length
  ·rw[Zx e]at hx
   have:=h.ur i e x hx;rw[a1];omega
  ·obtain⟨h1,h2⟩:=a3 i hi e
   rw[h1]at hx;obtain⟨y,hy,rfl⟩:=ax.1 hx;have:=hg.lr _ h2 y hy;simp only[a1];omega
theorem US.nil{P rep ρ:Nat->Nat}{T:Nat->Int}{L:Nat->List (Int×Int)}:US l [] [] P rep ρ T L []:=
 ⟨UF.nil _ _ _,fun _ h=>absurd h (aB _),fun _ h=>absurd h (aB _),fun _ h=>(by cases h),fun _ _ _ _ _=>⟨⟨fun _ h=>absurd h (aB _),fun _ h=>(by cases h)⟩,fun _ h=>absurd h (aB _)⟩,fun _ h=>absurd h (aB _),fun _ h=>absurd h (aB _),fun _ h=>(by cases h),fun _ h=>absurd h (aB _),fun _ h=>absurd h (aB _)⟩
def yx(n:Nat)(rep:Nat->Nat)(T:Nat->Int)(L:Nat->List (Int×Int)):List Nd:=(List.range n).map (fun i=>⟨T i,if rep i=i then (L i).map (fun x=>(x.1,((rep x.2.toNat:Nat):Int)))else []⟩)
theorem vk(n:Nat)(rep:Nat->Nat)(T:Nat->Int)(L:Nat->List (Int×Int)):(yx n rep T L).length=n:=by simp[yx]
theorem Z8{rep:Nat->Nat}{T:Nat->Int}{L:Nat->List (Int×Int)}(hi:i<n):nd (yx n rep T L) i=⟨T i,if rep i=i then (L i).map (fun x=>(x.1,((rep x.2.toNat:Nat):Int)))else []⟩:=by
 rw[yK (by rw[vk];exact hi)];simp[yx]
theorem US.gy(hv:VT l)(hp:0<U.length)(h:US l U J P rep ρ T L []):GY l (yx U.length rep T L):=by
 refine⟨hv,by rw[vk];exact hp,fun i hi=>?_,fun i hi=>?_,fun i hi x hx=>?_⟩<;>rw[vk]at hi
 ·rw[Z8 hi];exact h.ty i hi
 ·rw[Z8 hi]
  (try dsimp only)
  split
  ·exact List.pairwise_map.2 (h.srt i hi)
  ·exact List.Pairwise.nil
 ·rw[Z8 hi]at hx
  (try dsimp only at hx)
  split at hx
  ·rename_i hri
   obtain⟨y,hy,rfl⟩:=ax.1 hx;obtain⟨u,h1,_,h3⟩:=h.val i hi hri y hy;have:=h.ur u h1 y h3;have h4:=h.uf.rl _ this.2;simp only[vk];omega
  ·cases hx
theorem US.roots(h:US l U J P rep ρ T L [])(_hr:r<U.length)(hrr:rep r=r)(t:TrR (yx U.length rep T L) r o):∀ x∈o,x<U.length/\rep x=x:=by
 have hw:=DL.within (o:=o.filter (fun x=>decide (rep x=x))) (g:=yx U.length rep T L) (fun x hx z hz=>by
  simp only[List.mem_filter,decide_eq_true_eq]at hx ⊢;refine⟨t.clo x hx.1 z hz,?_⟩;have a1:=t.lt hx.1;rw[vk]at a1;simp only[vQ,Z8 a1,if_pos hx.2,List.mem_map]at hz;obtain⟨_,⟨y,hy,rfl⟩,rfl⟩:=hz;obtain⟨u,h1,_,h3⟩:=h.val x a1 hx.2 y hy;have:=h.ur u h1 y h3;simp only[Int.toNat_natCast];exact h.uf.two this.2) t.dl (fun z hz=>by
   rw[List.mem_singleton.1 hz];simp only[List.mem_filter,decide_eq_true_eq]
   exact⟨t.has,hrr⟩) (fun x hx=>by cases hx)
 intro x hx;have:=hw x hx;simp only[List.mem_filter,decide_eq_true_eq]at this;have hl:=t.lt hx;rw[vk]at hl;exact⟨hl,this.2⟩
theorem US.nd_o(h:US l U J P rep ρ T L [])(hr:r<U.length)(hrr:rep r=r)(t:TrR (yx U.length rep T L) r o){x:Nat}(hx:x∈o):nd (yx U.length rep T L) x=⟨T x,(L x).map (fun y=>(y.1,((rep y.2.toNat:Nat):Int)))⟩:=by
 obtain⟨h1,h2⟩:=h.roots hr hrr t x hx;rw[Z8 h1,if_pos h2]
theorem US.into(hv:VT l)(h:US l U J P rep ρ T L [])(hr:r<U.length)(a3:rep r=r)(t:TrR (yx U.length rep T L) r o){s:Nat}(hg:GX l g)
  (hs:∀ i,i<g.length->s+i<U.length/\nd U (s+i)=shN s (nd g i)) (h0:rep s∈o):∃ φ:Nat->Nat,φ 0=o.idxOf (rep s)/\(∀ i,i<g.length->rep (s+i)∈o/\φ i=o.idxOf (rep (s+i)))/\(∀ i,i<g.length->φ i<(yq (yx U.length rep T L) o).length)/\(∀ i,i<g.length->sub l (nd (yq (yx U.length rep T L) o) (φ i)).ty.toNat (nd g i).ty.toNat=true)/\∀ i,i<g.length->∀ x∈(nd g i).ln,tgt (nd (yq (yx U.length rep T L) o) (φ i)).ln x.1=((φ x.2.toNat:Nat):Int):=by
 have hgy:=h.gy hv oG;have hgx:=t.gx hgy;have a2:∀ i,i<g.length->rep (s+i)∈o->∀ x∈(nd g i).ln,rep (s+x.2.toNat)∈o/\∃ z,(x.1,z)∈L (rep (s+i))/\rep z.toNat=rep (s+x.2.toNat):=fun i hi hio x hx=>by
  obtain⟨h1,h2⟩:=hs i hi;have hxr:=hg.lr i hi x hx;have hm:(x.1,x.2+(s:Int))∈(nd U (s+i)).ln:=by rw[h2];exact ax.2 ⟨x,hx,rfl⟩
  obtain⟨z,h3,h4⟩:=h.lcov _ h1 _ hm;have h5:=h4 rep ⟨fun j hj=>(h.uf.two hj).symm,fun w hw=>by cases hw⟩;have e:(x.2+(s:Int)).toNat=s+x.2.toNat:=by omega
  simp only[e]at h5;refine⟨?_,z,h3,h5.symm⟩;rw[h5];have:=t.mem hio (y:=(x.1,((rep z.toNat:Nat):Int))) (by rw[h.nd_o hr a3 t hio];exact ax.2 ⟨_,h3,rfl⟩)
  simpa using this
 have a1:∀ i,i<g.length->rep (s+i)∈o:=fun i hi=>by
  have:=hg.rch i hi
  induction this with
  | zero=>exact h0
  | step hr2 hi2 hx2 ih=>
   exact(a2 _ hi2 (ih hi2) _ (by rw[yK hi2];exact hx2)).1
 refine⟨fun i=>o.idxOf (rep (s+i)),rfl,fun i hi=>⟨a1 i hi,rfl⟩,fun i hi=>?_,fun i hi=>?_,fun i hi x hx=>?_⟩
 ·rw[uQ];exact(oQ (a1 i hi)).1
 ·obtain⟨h1,h2⟩:=hs i hi
  (try dsimp only)
  rw[K4 t (a1 i hi)];show sub l (nd (yx U.length rep T L) (rep (s+i))).ty.toNat _=true;rw[h.nd_o hr a3 t (a1 i hi)];have:=h.tcov _ h1;rw[h2]at this;exact this
 ·obtain⟨h1,z,h3,h4⟩:=a2 i hi (a1 i hi) x hx
  (try dsimp only)
  have hb1:=oQ (a1 i hi);have hsr:=hgx.srt (o.idxOf (rep (s+i))) (by rw[uQ];exact hb1.1);rw[K4 t (a1 i hi)]at hsr ⊢;have hm2:((x.1,((o.idxOf (rep (s+x.2.toNat)):Nat):Int)):Int×Int)∈(trN (o.idxOf ·) (nd (yx U.length rep T L) (rep (s+i)))).ln:=by
   refine ax.2 ⟨(x.1,((rep z.toNat:Nat):Int)),?_,?_⟩
   ·rw[h.nd_o hr a3 t (a1 i hi)];exact ax.2 ⟨_,h3,rfl⟩
   ·simp only[Int.toNat_natCast,h4]
  exact CK hsr hm2
theorem US.least(h:US l U J P rep ρ T L [])(hr:r<U.length)(a1:rep r=r)(t:TrR (yx U.length rep T L) r o){c:List Nd}{θ:Nat->Nat}(hc:∀ i,i<c.length->0<=(nd c i).ty/\(nd c i).ty<l.length)(hθ:Adm l U c θ)(hj:∀ p∈J,θ p.1=θ p.2)(h0:θ r=0):Maps l (yq (yx U.length rep T L) o) c:=by
 obtain⟨h1,h2⟩:=h.only c θ hc hθ hj;refine⟨fun j=>θ (o.getD j 0),?_,fun j hj=>?_,fun j hj=>?_,fun j hj x hx=>?_⟩
 ·have hz:=oQ t.has
  have hp:0<o.length:=by have:=hz.1;omega
  have:=hz.2;simp only[t.zero]at this;have e:o.getD 0 0=r:=by simp[List.getD,hp,this]
  show θ (o.getD 0 0)=0;rw[e];exact h0
 ·obtain⟨x,hx,_,e,_⟩:=t.at_ hj
  (try dsimp only)
  rw[e];exact hθ.lt x (h.roots hr a1 t x hx).1
 ·obtain⟨x,hx,_,e,e2⟩:=t.at_ hj
  obtain⟨hxl,hxr⟩:=h.roots hr a1 t x hx
  (try dsimp only)
  rw[e,e2];show sub l _ (nd (yx U.length rep T L) x).ty.toNat=true;rw[h.nd_o hr a1 t hx];exact h2 x hxl hxr
 ·obtain⟨y,hy,_,e,e2⟩:=t.at_ hj
  obtain⟨hyl,hyr⟩:=h.roots hr a1 t y hy;rw[e2]at hx;obtain⟨z,hz,rfl⟩:=ax.1 hx;have hz2:=hz;rw[h.nd_o hr a1 t hy]at hz2;obtain⟨q,hq,rfl⟩:=ax.1 hz2;obtain⟨u,u1,u2,u3⟩:=h.val y hyl hyr q hq;have hqr:=h.ur u u1 q u3;have h3:=hθ.ln u u1 q u3;rw[h1.1 u u1,u2]at h3
  (try dsimp only)
  rw[e,h3,h1.1 _ hqr.2];have hm:=oQ (t.mem hy hz);simp only[Int.toNat_natCast]at hm ⊢;have e3:o.getD (o.idxOf (rep q.2.toNat)) 0=rep q.2.toNat:=by
   have:=hm.2;simp[List.getD,hm.1,this]
  rw[e3]
theorem US.fit{fs:List Ft}(hv:VT l)(h:US l U J P rep ρ T L [])(hr:r<U.length)(a1:rep r=r)(t:TrR (yx U.length rep T L) r o)
  (hU:∀ i,i<U.length->∀ x∈(nd U i).ln,(0<=x.1/\x.1<fs.length)/\sub l (nd U i).ty.toNat (PV fs x.1).of.toNat=true/\sub l (nd U x.2.toNat).ty.toNat (PV fs x.1).val.toNat=true):
  (∀ i,i<(yq (yx U.length rep T L) o).length->∀ x∈(nd (yq (yx U.length rep T L) o) i).ln,0<=x.1/\x.1<fs.length)/\∀ i,i<(yq (yx U.length rep T L) o).length->∀ x∈(nd (yq (yx U.length rep T L) o) i).ln,sub l (nd (yq (yx U.length rep T L) o) i).ty.toNat (PV fs x.1).of.toNat=true/\sub l (nd (yq (yx U.length rep T L) o) x.2.toNat).ty.toNat (PV fs x.1).val.toNat=true:=by
 have key:∀ i,i<(yq (yx U.length rep T L) o).length->∀ x∈(nd (yq (yx U.length rep T L) o) i).ln,(0<=x.1/\x.1<fs.length)/\sub l (nd (yq (yx U.length rep T L) o) i).ty.toNat (PV fs x.1).of.toNat=true/\sub l (nd (yq (yx U.length rep T L) o) x.2.toNat).ty.toNat (PV fs x.1).val.toNat=true:=fun i hi x hx=>by
  obtain⟨y,hy,_,e,e2⟩:=t.at_ hi;obtain⟨hyl,hyr⟩:=h.roots hr a1 t y hy;rw[e2]at hx ⊢;obtain⟨z,hz,rfl⟩:=ax.1 hx;have hz2:=hz;have a2:=t.mem hy hz;rw[h.nd_o hr a1 t hy]at hz2;obtain⟨q,hq,rfl⟩:=ax.1 hz2;obtain⟨u,u1,u2,u3⟩:=h.val y hyl hyr q hq;have hqr:=h.ur u u1 q u3;obtain⟨f1,f2,f3⟩:=hU u u1 q u3;have t1:=h.tcov u u1;have t2:=h.tcov _ hqr.2;rw[u2]at t1;refine⟨f1,?_,?_⟩
  ·show sub l (nd (yx U.length rep T L) y).ty.toNat _=true
   rw[h.nd_o hr a1 t hy];exact Y7 hv t1 f2
  ·simp only[Int.toNat_natCast]at a2 ⊢
   rw[K4 t a2];show sub l (nd (yx U.length rep T L) (rep q.2.toNat)).ty.toNat _=true;rw[h.nd_o hr a1 t a2];exact Y7 hv t2 f3
 exact⟨fun i hi x hx=>(key i hi x hx).1,fun i hi x hx=>(key i hi x hx).2⟩
end us
end
theorem Own.rowq{base q m cap:Nat}{e:TypeId}{g:Nat->Value}(h:Own w base e 1 (some ⟨q,0,none⟩) m cap (jy m g)){j:Nat}(hj:j<m):w.cell? ⟨q,0+j*1,none⟩=some (g j):=by
 obtain⟨q',h1,_,_,h2⟩:=h.rowc hj;cases h1;exact h2
def vN(P:Nat->Nat)(x:Nat):Value:= .int .i64 ((P x:Nat):Int)
def vI(T:Nat->Int)(x:Nat):Value:= .int .i64 (T x)
theorem Q7(xs:List (Int×Int)):(lnV xs).length=xs.length*2:=by
 induction xs with
 | nil=>rfl
 | cons x xs ih=>rw[show lnV (x::xs)= [Value.int .i64 x.1,Value.int .i64 x.2]++lnV xs from rfl,List.length_append,ih];simp;omega
theorem Hj(xs:List (Int×Int)):(lnV xs).all (·.oneCell')=true:=by
 induction xs with
 | nil=>rfl
 | cons x xs ih=>rw[show lnV (x::xs)= [Value.int .i64 x.1,Value.int .i64 x.2]++lnV xs from rfl,List.all_append,ih];rfl
theorem O4(xs ys:List (Int×Int)):lnV (xs++ys)=lnV xs++lnV ys:=by simp[lnV]
theorem lnV_take(xs:List (Int×Int))(k:Nat):(lnV xs).take (k*2)=lnV (xs.take k):=by
 induction xs generalizing k with
 | nil=>simp[lnV]
 | cons x xs ih=>
  cases k with
  | zero=>simp[lnV]
  | succ k=>
   rw[show (k+1)*2=k*2+1+1 from by omega,show lnV (x::xs)=Value.int .i64 x.1::Value.int .i64 x.2::lnV xs from rfl,List.take_succ_cons,List.take_succ_cons,ih];rfl
theorem LinksIn.news(h:LinksIn w A xs):0<xs.length->∃ b o',A=some ⟨b,o',none⟩/\∀ j u,(lnV xs)[j]? =some u->w.cell? ⟨b,o'+j,none⟩=some u:=fun hm=>by
 obtain⟨b,o,rfl,_,hc⟩:=h.2 (fun e=>by rw[e]at hm;simp at hm)
 refine⟨b,o,rfl,fun j u hu=>?_⟩
 have hj:j<xs.length*2:=by
  have:=(aC.1 hu).1
  grind[Q7]
 have hk:j/2<xs.length:=by omega
 have h2:=V9 xs (j/2) hk;have h3:=hc (j/2) hk;rcases Nat.mod_two_eq_zero_or_one j with e|e
 ·have e2:j=j/2*2:=by omega
  rw[e2]at hu;rw[h2.1]at hu;cases hu;have:=h3 0 (.int .i64 (xs[j/2]).1) rfl
  grind
 ·have e2:j=j/2*2+1:=by omega
  rw[e2]at hu;rw[h2.2]at hu;cases hu;have:=h3 1 (.int .i64 (xs[j/2]).2) rfl
  grind
def Suf(w:World)(lo bs:Nat)(v:Value)(xs:List (Int×Int)):Prop:=∃(A0:Option Addr) (c0 k:Nat) (ys:List (Int×Int)) (A:Option Addr),RowO w lo bs (.slice A0 ys.length c0) ys/\k<=ys.length/\xs=ys.drop k/\v= .slice A xs.length (c0-k)/\(xs≠[]->∃ g,A0=some ⟨g,0,none⟩/\A=some ⟨g,k*2,none⟩)
theorem Suf.tr{w w':World}{lo bs:Nat}{v:Value}{xs:List (Int×Int)}{X:List Nat}(h:Suf w lo bs v xs)(hs:Same X w w')(hx:∀ g∈X,bs<=g\/∃ cs t,Blk w g t cs/\t≠84):Suf w' lo bs v xs:=by
 obtain⟨A0,c0,k,ys,A,h1,h2⟩:=h;exact⟨A0,c0,k,ys,A,h1.tr hs hx,h2⟩
theorem Suf.c{w':World}{v:Value}{X:List Nat}(h:Suf w lo bs v xs)(hs:Same X w w')(hx:∀ g∈X,bs<=g\/∃ cs t,Blk w g t cs/\t≠84:=by first|(simp;done)|(intro g hg;rw[List.mem_singleton.1 hg];first|exact .inr ⟨_,_,by assumption,by decide⟩|exact .inl oG)|(intro g hg;first|exact .inl (by have:=(Own.lt (by assumption) g hg).1;omega)|exact .inr (Own.typ9 (by assumption) dE g hg))):Suf w' lo bs v xs:=h.tr hs hx
theorem RowO.own{c:Nat}(h:RowO w lo bs (.slice A n c) xs):n=xs.length/\Own w lo 84 2 A xs.length c (lnV xs)/\∀ g∈aL A,g<bs:=by
 obtain⟨A',c',e,h1,h2⟩:=h;cases e;exact⟨rfl,h1,h2⟩
theorem Suf.of{v:Value}(h:RowO w lo bs v xs):Suf w lo bs v xs:=by
 obtain⟨A,c,rfl,h1,h2⟩:=h;refine⟨A,c,0,xs,A,⟨A,c,rfl,h1,h2⟩,ah _,rfl,rfl,fun hne=>?_⟩;obtain⟨g,hg,_⟩:=h1.cell (fun e=>hne (by have:=congrArg List.length e;rw[Q7]at this;exact aM.1 (by simp at this;omega)))
 grind
structure SufC(w:World)(lo bs:Nat)(A:Option Addr)(n c:Nat)(x:Int×Int)(xs:List (Int×Int)):Prop where
 len:n=xs.length+1
 at_:∃ g o,A=some ⟨g,o,none⟩/\g<w.heap.size/\w.rangeAt g o [.int .i64 x.1,.int .i64 x.2]
 next:Suf w lo bs (.slice (if c=1 then A else A.map (·.add (1*2))) (n-1) (c-1)) xs
theorem Suf.slice{w:World}{lo bs:Nat}{v:Value}{xs:List (Int×Int)}(h:Suf w lo bs v xs):∃ A c,v= .slice A xs.length c:=by
 obtain⟨A0,c0,k,ys,A,h1,h2,h3,h4,h5⟩:=h
 grind
theorem Suf.cons{w:World}{lo bs n c:Nat}{A:Option Addr}{x:Int×Int}{xs:List (Int×Int)}(h:Suf w lo bs (.slice A n c) (x::xs)):SufC w lo bs A n c x xs:=by
 obtain⟨A0,c0,k,ys,A',h1,h2,h3,h4,h5⟩:=h;obtain⟨g,e0,e1⟩:=h5 (by simp);cases h4;subst e0;obtain⟨_,ho,hb⟩:=h1.own;have hcl:=ho.cap_le;have hk:k<ys.length:=by
  grind
 have hx:ys[k]=x:=by
  have h6:(ys.drop k)[0]? =some x:=by rw[<- h3];rfl
  grind
 have hxs:xs=ys.drop (k+1):=by
  grind[List.tail_drop]
 obtain⟨q,e2,_,hql,hqc⟩:=ho.cell (fun e=>by have:=congrArg List.length e;rw[Q7]at this;simp at this;omega);cases e2;have h7:=V9 ys k hk;rw[hx]at h7;refine⟨by simp,⟨g,k*2,e1,hql,fun j v hj=>?_⟩,?_⟩
 ·grind
 ·subst e1
  refine⟨some ⟨g,0,none⟩,c0,k+1,ys,(if c0-k=1 then some (⟨g,k*2,none⟩:Addr)else Option.map (fun z:Addr=>z.add (1*2)) (some (⟨g,k*2,none⟩:Addr))),h1,by omega,hxs,?_,fun hne=>⟨g,rfl,?_⟩⟩
  ·grind
  ·have hl:0<xs.length:=List.length_pos_iff.2 hne
   have:xs.length=ys.length-(k+1):=by rw[hxs];simp
   rw[if_neg oG];show some ((⟨g,k*2,none⟩:Addr).add (1*2))=_;rw[Addr.add_mid,show k*2+1*2=(k+1)*2 by omega]
theorem Suf.links{c:Nat}(h:Suf w lo bs (.slice A n c) xs):n=xs.length/\LinksIn w A xs:=by
 obtain⟨A0,c0,k,ys,A',h1,h2,h3,h4,h5⟩:=h;cases h4;obtain⟨_,ho,hb⟩:=h1.own;have hm:=ho.max;have hl:xs.length=ys.length-k:=by rw[h3];simp
 refine⟨rfl,by unfold vX;omega,fun hne=>?_⟩;obtain⟨g,e0,e1⟩:=h5 hne;subst e0;have hp:0<xs.length:=List.length_pos_iff.2 hne;obtain⟨q,e2,_,hql,hqc⟩:=ho.cell (fun e=>by have:=congrArg List.length e;rw[Q7]at this;simp at this;omega);cases e2;refine⟨g,k*2,e1,hql,fun j hj i v hi=>?_⟩;have hjk:k+j<ys.length:=by omega
 have h7:=V9 ys (k+j) hjk
 grind
theorem RowO.links{w:World}{lo bs n c:Nat}{A:Option Addr}{xs:List (Int×Int)}(h:RowO w lo bs (.slice A n c) xs):n=xs.length/\LinksIn w A xs:=(Suf.of h).links
def LMat(w:World)(A:Option Addr)(L:List (List (Int×Int))):Prop:=L.length<=vX/\(L≠[]->∃ b o,A=some ⟨b,o,none⟩/\b<w.heap.size/\∀ k (hk:k<L.length),∃ A' c',w.cell? ⟨b,o+k*1,none⟩=some (.slice A' (L[k]).length c')/\LinksIn w A' L[k])
theorem lmat_three{t:Nat}{A1 A2 A3:Option Addr}{c1 c2 c3:Nat}{p q r:List (Int×Int)}(h:Blk w b t #[.slice A1 p.length c1,.slice A2 q.length c2,.slice A3 r.length c3])(h1:LinksIn w A1 p)(h2:LinksIn w A2 q)(h3:LinksIn w A3 r):LMat w (some ⟨b,0,none⟩) [p,q,r]:=
 ⟨by simp[vX],fun _=>⟨b,0,rfl,h.lt,fun k hk=>by
  match k,hk with
  | 0,_=>exact⟨A1,c1,h.cell rfl,h1⟩
  | 1,_=>exact⟨A2,c2,h.cell rfl,h2⟩
  | 2,_=>exact⟨A3,c3,h.cell rfl,h3⟩⟩⟩
theorem LMat.mono{w w':World}{A:Option Addr}{L:List (List (Int×Int))}(h:LMat w A L)(hb:Bel w w'):LMat w' A L:=
 ⟨h.1,fun hne=>by
  obtain⟨b,o,h1,h2,h3⟩:=h.2 hne
  refine⟨b,o,h1,nLL h2 hb.size,fun k hk=>?_⟩
  obtain⟨A',c',h4,h5⟩:=h3 k hk
  exact⟨A',c',hb.cell h2 h4,h5.mono hb⟩⟩
theorem LMat.at_{w':World}{L:List (List (Int×Int))}(h:LMat w A L)(hb:Bel w w')(hk:k<L.length):∃ b o A' c',A=some ⟨b,o,none⟩/\w'.cell? ⟨b,o+k*1,none⟩=some (.slice A' (L[k]).length c')/\LinksIn w' A' L[k]:=by
 obtain⟨b,o,h1,h2,h3⟩:=h.2 (fun e=>by rw[e]at hk;exact absurd hk (aB _));obtain⟨A',c',h4,h5⟩:=h3 k hk;exact⟨b,o,A',c',h1,hb.cell h2 h4,h5.mono hb⟩
def CY(L:List (List (Int×Int)))(k:Nat):Nat:=(L.take k).flatten.length
theorem Nx{L:List (List (Int×Int))}(hk:k<L.length):(L.take (k+1)).flatten=(L.take k).flatten++L[k]:=by
 grind[List.take_succ_eq_append_getElem,List.flatten_append]
theorem Rv{L:List (List (Int×Int))}(hk:k<L.length):CY L (k+1)=CY L k+(L[k]).length:=by
 grind[CY,Nx,List.length_append]
theorem sumM_le(L:List (List (Int×Int)))(k:Nat):CY L k<=L.flatten.length:=by
 grind[CY,List.flatten_append,List.take_append_drop,List.length_append]
theorem GZ{L:List (List (Int×Int))}(h:L.length<=k):(L.take k).flatten=L.flatten:=by rw[List.take_of_length_le h]
theorem Jv:(prog.info? 62).map (·.size)=some 1:=by kernel_rfl
set_option maxHeartbeats 1000000 in
theorem J3{ob bp cp ct cl:Nat}{PA TA LA:Option Addr}{c0 c1:Value}{P rep ρ:Nat->Nat}(w:World)(a2:Blk w bp 167 #[c0,c1,.slice PA n cp,.slice TA n ct,.slice LA n cl])(a1:Own w ob 3 1 PA n cp (jy n (vN P)))(hbo:bp<ob)(hu:UF n P rep ρ)(hi:i<n):Calls prog 118 #[.pointer (some ⟨bp,0,none⟩),.int .i64 (i:Nat)] w fun e w'=>∃ P',e= .returned (.int .i64 ((rep i:Nat):Int))/\Own w' ob 3 1 PA n cp (jy n (vN P'))/\UF n P' rep ρ/\Same (aL PA) w w':=by
 obtain⟨q,rfl,hqb,hql,_⟩:=a1.rowc hi;have hS:SameQ [q] w w:=Same.refl _ _;have hnm:=a1.max;refine enter func118 ntmps118 rfl (aA rfl) (zn7 ?_);refine qz (rg [1] 5 35) (fun m g w'=>∃(j:Nat) (Q:Nat->Nat),j<n/\m=ρ j/\g 1= .int .i64 (j:Nat)/\Blk w' bp 167 #[c0,c1,.slice (some ⟨q,0,none⟩) n cp,.slice TA n ct,.slice LA n cl]/\Own w' ob 3 1 (some ⟨q,0,none⟩) n cp (jy n (vN Q))/\SameQ [q] w w'/\UF n Q rep ρ/\rep j=rep i) (ρ i) ?_ (fun m g1 w1 hI=>?_)
 ·exact⟨i,P,hi,rfl,rfl,a2,a1,hS,hu,rfl⟩
 obtain⟨j,Q,hj,hm,h1,a2,a1,hS,hu,hrj⟩:=hI;refine zQ 1 _ h1 nu (zn3 ?_);refine wl (x6 (v:= .pointer (some _)) rfl) (wl (Xk rfl) (zn3 ?_));refine wl (x7 (i:=j) U62 xw rfl rfl hj rfl) (wl (qj (v:= .int _ _) U3 rfl rfl (a1.rowq hj)) (zn4 ?_));refine zZ rfl (fun c13=>?_) (fun c13=>?_)
 ·have hne:Q j≠j:=fun e=>c13 (by rw[e])
  have hu2:=hu.half hj hne;have hlt:ρ (Q (Q j))<ρ j:=by
   have h1:=hu.ex j hj hne;by_cases e:Q (Q j)=Q j
   ·rw[e];exact h1
   ·exact Nat.lt_trans (hu.ex _ (hu.lt j hj) e) h1
  have hq1:=hu.lt j hj;obtain⟨g0,cur,hA0,_,a4,hszA,hrdA,a3⟩:=a1.open_ oG;cases hA0;refine zn4 ?_;refine Qz 19 kR kR (fun w2 s1=>?_);replace hS:=SameQ.trans hS s1 (by simp);refine ws (x6 (v:= .pointer (some _)) rfl) (ws (Xk rfl) (zn3 ?_));refine ws (x6 (v:= .pointer (some _)) rfl) (ws (Xk rfl) (zn2 ?_));refine ws (x6 (v:= .pointer (some _)) rfl) (ws (Xk rfl) (zn3 ?_));refine ws (x7 (i:=j) U62 xw rfl rfl hj rfl) ?_;replace a1:=a1.tr0 s1;refine ws (qj (v:= .int _ _) U3 rfl rfl (a1.rowq hj)) (ws (x7 (i:=(Q j)) U62 xw rfl rfl hq1 rfl) (ws (qj (v:= .int _ _) U3 rfl rfl (a1.rowq hq1)) (ws (x7 (i:=j) U62 xw rfl rfl hj rfl) (Q4 ?_))));refine xx (v:= .int _ _) a4.u rfl rfl xw oG rfl rfl (fun w3 hq s2=>?_);replace hS:=SameQ.trans hS s2 (by simp);replace a4:=hq;have a1:Own w3 ob 3 1 (some ⟨q,0,none⟩) n cp (jy n (vN (JJ Q j (Q (Q j))))):=by
   have h:=a3 _ _ _ a4;rw[show 0+j*1=j by omega,Ew,oW (g':=vN (JJ Q j (Q (Q j)))) (fun x _=>by by_cases e:x=j<;>simp[vN,JJ,e])]at h;exact h
  refine zn3 ?_;refine wl (x6 (v:= .pointer (some _)) rfl) (wl (Xk rfl) (zn3 ?_));refine wl (x7 (i:=j) U62 xw rfl rfl hj rfl) (wl (qj (v:= .int _ _) U3 rfl rfl (by have h:=a1.rowq hj;unfold vN at h;rw[gX]at h;exact h)) (zn3 ?_));refine x9 (ρ (Q (Q j))) oG agA ?_;replace a2:=(a2.tr0 s1).tr1 s2 oG;exact⟨Q (Q j),JJ Q j (Q (Q j)),hu.lt _ (hu.lt j hj),rfl,rfl,a2,a1,hS,hu2,by rw[hu.rp _ (hu.lt j hj),hu.rp j hj];exact hrj⟩
 have heq:Q j=j:=by omega
 have hfx:=hu.fx j hj heq;refine uJ ?_;exact⟨Q,Zq (by rw[<- hrj,hfx]),a1,hu,by simpa[aL,SameQ]using hS⟩
theorem growl_any(k:Nat)(w:World)(hk:k<=8796093022208):Calls prog 126 #[.slice none 0 0,.int .i64 k] w fun e w'=>(∃ A cap,e= .returned (.slice A 0 cap)/\Own w' w.heap.size 84 2 A 0 cap [])/\Bel w w':=by
 refine enT func126 ntmps126 rfl rfl fun hB=>?_;refine yZ ?_;refine zZ rfl (fun c6=>?_) (fun c6=>?_)
 ·exact absurd c6 oG
 refine zn7 ?_;refine wl (r_cap U85 rfl) (zn2 ?_);refine wl (jJ rfl rfl rfl dE) (wl (jJ (c:=k) rfl rfl oG oG) (zn9 ?_));refine zZ rfl (fun c16=>?_) (fun c16=>?_)
 ·have a3:0<k:=by omega
  refine zn3 ?_;refine wl (r_cap U85 rfl) (wl (MX (h:=0) U85 qx rfl rfl oG) (wmI rfl ?_));refine wl_appZ U85 U3 in84 rfl a3 dE oG oG rfl rfl (fun b22 cap22 w22 a1 a2 hg22 hge hle=>?_);have hB2:Bel w w22:=hB.tr0 a2;refine zn2 ?_;refine wl (MX (h:=0) U85 qx rfl rfl oG) (vJ ?_)
  first
    | exact⟨⟨_,_,rfl,a1⟩,hB2⟩
    | exact⟨⟨none,0,rfl,Own.nil _ _ _ _⟩,hB⟩
 refine yj ?_
 first
   | exact⟨⟨_,_,rfl,a1⟩,hB2⟩
   | exact⟨⟨none,0,rfl,Own.nil _ _ _ _⟩,hB⟩
theorem concl_any(A:Option Addr)(c:Nat)(L:List (List (Int×Int)))(w:World)(hM:LMat w A L)(hl:L.length<=1000)(hs:L.flatten.length<=8796093022208):Calls prog 119 #[.slice A L.length c] w fun e w'=>(∃ A' cap',e= .returned (.slice A' L.flatten.length cap')/\Own w' w.heap.size 84 2 A' L.flatten.length cap' (lnV L.flatten))/\Bel w w':=by
 refine enT func119 ntmps119 rfl rfl fun hB=>?_;refine zn19 ?_;refine qz (rg [3,5] 11 12) (fun m g w'=>∃ k:Nat,k<=L.length/\m=L.length-k/\g 11= .int .i64 k/\g 3= .int .i64 (CY L k)/\Bel w w') (L.length) ?_ (fun m g3 w1 hI=>?_)
 ·exact⟨0,ah _,rfl,rfl,rfl,hB⟩
 obtain⟨k,hk,hm,h11,h3,hB⟩:=hI;refine zQ 11 _ h11 nu (zQ 3 _ h3 nu (zn6 ?_));refine zZ rfl (fun c12=>?_) (fun c12=>?_)
 ·have a3:k<L.length:=by omega
  obtain⟨mb,mo,MA,mc,rfl,a8,hmi⟩:=hM.at_ hB a3;have hss:=Rv a3;have hsl:=sumM_le L (k+1);refine zn7 ?_;refine wl (qj (v:= .slice _ _ _) U85 rfl rfl a8) (zn8 ?_);refine wl (uW (c:=(CY L (k+1):Nat)) rfl rfl oG oG) (zn9 ?_);refine zZ rfl (fun c20=>?_) (fun c20=>?_)
  ·exact absurd c20 oG
  refine zn7 ?_;refine x9 (L.length-(k+1)) oG agA ?_;exact⟨k+1,by omega,rfl,rfl,rfl,hB⟩
 have a9:CY L k=L.flatten.length:=by unfold CY;rw[GZ oG]
 obtain⟨bz,hbz⟩:∃ z,z=w1.heap.size:=⟨_,rfl⟩
 refine zn8 ?_;have hbs:=Bel.size hB;refine zW kR (growl_any (CY L k) _ oG) rfl (fun e' w2 hr=>?_);obtain⟨⟨A6,a1,rfl,a2⟩,s1⟩:=hr;replace s1:=sB s1;replace a2:=a2.low hbs;refine⟨_,rfl,?_⟩;refine yZ ?_;refine qz (rg [6,8] 27 8) (fun m g w'=>∃(k a1:Nat) (A6:Option Addr),k<=L.length/\m=L.length-k/\g 27= .int .i64 k/\g 6= .slice A6 (L.take k).flatten.length a1/\Bel w w'/\Own w' w.heap.size 84 2 A6 (L.take k).flatten.length a1 (lnV (L.take k).flatten)) (L.length) ?_ (fun m g11 w3 hI=>?_)
 ·exact⟨0,a1,A6,ah _,rfl,rfl,rfl,hB.u,a2⟩
 obtain⟨k,a1,A6,hk,hm,h27,h6,hB,a2⟩:=hI;refine zQ 27 _ h27 nu (zQ 6 _ h6 nu (zn6 ?_));refine zZ rfl (fun c28=>?_) (fun c28=>?_)
 ·have a3:k<L.length:=by omega
  obtain⟨mb,mo,MA,mc,rfl,a8,hmi⟩:=hM.at_ hB a3;have hss:=Rv a3;have hsl:=sumM_le L (k+1);have hsk:(L.take k).flatten.length=CY L k:=rfl;refine zn7 ?_;refine wl (qj (v:= .slice _ _ _) U85 rfl rfl a8) (zn6 ?_);have hbb:=Bel.size hB;refine wl_appL (e:=84) (news:=lnV (L[k]'a3)) U85 in84 rfl dE a2 rfl rfl hmi.news (Q7 _) (Hj _) oG oG hbb (fun AN a4 wN a5 hsN hgN=>?_);have hBN:Bel w wN:=hB.tr hsN (fun g hg=>(a2.lt g hg).1);replace a5:Own wN w.heap.size 84 2 AN (L.take (k+1)).flatten.length a4 (lnV (L.take (k+1)).flatten):=by
    rw[Nx a3,List.length_append,O4];exact a5
  refine zn8 ?_;refine x9 (L.length-(k+1)) oG agA ?_;refine⟨k+1,a4,AN,by omega,rfl,rfl,?_,hBN,a5⟩;rw[Nx a3,List.length_append];rfl
 have a9:(L.take k).flatten=L.flatten:=GZ oG;refine uJ ?_;refine⟨⟨A6,a1,?_,?_⟩,hB⟩
 · show Ending.returned (.slice A6 (L.take k).flatten.length a1)=_
   rw[a9]
 · rw[a9]at a2
   exact a2
end Go.Proofs.YtndbjnkilegebaaGreatDoor
