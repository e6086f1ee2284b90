/- What these functions compute, at every world: slices.Index[[]bool,bool], graph.fault, graph.Loose, ref3.LooseFault; and plain laws. -/
import Derived.Test.YtgcgnkmmbecfmaaGreatDoorHLaw
import Derived.Test.YtgcgnkmmbecfmaaGreatDoorU
import Derived.Test.YtgcgnkmmbecfmaaGreatDoorZst
namespace Go.Proofs.YtgcgnkmmbecfmaaGreatDoor
open Go.RowKit Go.Proofs.Tryz
variable {A:Option Addr}{X Y o:List Nat}{a1:Int}{b base bn bs cap i j k lo m n nf nt sz t x:Nat}{e:TypeId}{f h:Nat->Value}{fs:List Ft}{l:List Ty}{m0 mk:Nat->Bool}{v:Value}{w w' w2:World}{xs:List (Int×Int)}
structure Nd where
 ty:Int
 ln:List (Int×Int)
theorem V8{a b:Nd}(h1:a.ty=b.ty)(h2:a.ln=b.ln):a=b:=by
 cases a;cases b;simp only at h1 h2;rw[h1,h2]
instance:DecidableEq Nd:=fun a b=>decidable_of_iff (a.ty=b.ty/\a.ln=b.ln) ⟨fun h=>V8 h.1 h.2,fun h=>by rw[h];exact⟨rfl,rfl⟩⟩
def LinksIn(w:World)(A:Option Addr)(xs:List (Int×Int)):Prop:=
 xs.length<=vJ/\(xs≠[]->∃ b o,A=some ⟨b,o,none⟩/\b<w.heap.size/\∀ k (h:k<xs.length),w.rangeAt b (o+k*2) [.int .i64 (xs[k]).1,.int .i64 (xs[k]).2])
theorem LinksIn.mono(h:LinksIn w A xs)(hb:Bel w w'):LinksIn w' A xs:=
 ⟨h.1,fun hn=>by
  obtain⟨b,o,e,hl,hc⟩:=h.2 hn
  exact⟨b,o,e,nLL hl hb.size,fun k hk=>hb.range hl (hc k hk)⟩⟩
theorem LinksIn.at_(h:LinksIn w A xs)(hb:Bel w w')(hk:k<xs.length):
  ∃ b o,A=some ⟨b,o,none⟩/\b<w.heap.size/\w'.rangeAt b (o+k*2) [.int .i64 (xs[k]).1,.int .i64 (xs[k]).2]:=by
 obtain⟨b,o,e,hl,hc⟩:=h.2 (by rintro rfl;simp at hk);exact⟨b,o,e,hl,hb.range hl (hc k hk)⟩
def NdIn(w:World)(b o:Nat)(n:Nd):Prop:=∃ A c,w.rangeAt b o [.int .i64 n.ty,.slice A n.ln.length c]/\LinksIn w A n.ln
def NodesIn(w:World)(A:Option Addr)(g:List Nd):Prop:=
 g.length<=vJ/\(g≠[]->∃ b o,A=some ⟨b,o,none⟩/\b<w.heap.size/\∀ k (h:k<g.length),NdIn w b (o+k*2) g[k])
theorem NdIn.mono{w w':World}{b o:Nat}{n:Nd}(h:NdIn w b o n)(hb:Bel w w')(hl:b<w.heap.size):NdIn w' b o n:=by
 obtain⟨A,c,h1,h2⟩:=h;exact⟨A,c,hb.range hl h1,h2.mono hb⟩
theorem NodesIn.mono{w w':World}{A:Option Addr}{g:List Nd}(h:NodesIn w A g)(hb:Bel w w'):NodesIn w' A g:=
 ⟨h.1,fun hn=>by
  obtain⟨b,o,e,hl,hc⟩:=h.2 hn
  exact⟨b,o,e,nLL hl hb.size,fun k hk=>(hc k hk).mono hb hl⟩⟩
theorem NodesIn.at_{g:List Nd}(h:NodesIn w A g)(hb:Bel w w')(hk:k<g.length):
  ∃ b o A' c,A=some ⟨b,o,none⟩/\b<w.heap.size/\w'.rangeAt b (o+k*2) [.int .i64 (g[k]).ty,.slice A' (g[k]).ln.length c]/\LinksIn w A' (g[k]).ln:=by
 obtain⟨b,o,e,hl,hc⟩:=h.2 (by rintro rfl;simp at hk);obtain⟨A',c,h1,h2⟩:=hc k hk;exact⟨b,o,A',c,e,hl,hb.range hl h1,h2⟩
def oz(nf n:Nat)(x:Int×Int):Prop:=x.1<0\/(nf:Int)<=x.1\/x.2<0\/(n:Int)<=x.2
instance(nf n:Nat)(x:Int×Int):Decidable (oz nf n x):=by unfold oz;infer_instance
def yY(nf n:Nat):Int->List (Int×Int)->Int
 | _,[]=>0
 | last,x::xs=>if oz nf n x then 3 else if x.1<=last then 13 else yY nf n x.1 xs
def FZ(nt nf n:Nat)(x:Nd):Int:=if x.ty<0\/(nt:Int)<=x.ty then 3 else yY nf n (-1) x.ln
def Y7(nt nf:Nat)(g:List Nd)(i:Nat):Int:=match g[i]? with
 | none=>0
 | some x=>FZ nt nf g.length x
def j9(nt nf:Nat)(g:List Nd):Fl:=if g.length=0\/60<g.length then (2,-2)else qQ (Y7 nt nf g) 0 g.length
theorem M5{g:List Nd}(hi:i<g.length)(h:(g[i]).ty<0\/(nt:Int)<=(g[i]).ty):Y7 nt nf g i=3:=by
 simp only[Y7,List.getElem?_eq_getElem hi,FZ,if_pos h]
theorem XQ{g:List Nd}(hi:i<g.length)(h:¬((g[i]).ty<0\/(nt:Int)<=(g[i]).ty)):Y7 nt nf g i=yY nf g.length (-1) ((g[i]).ln.drop 0):=by
 simp only[Y7,List.getElem?_eq_getElem hi,FZ,if_neg h,List.drop_zero]
theorem ln_bad(hj:j<xs.length)(h:oz nf n xs[j]):yY nf n a1 (xs.drop j)=3:=by
 grind[List.drop_eq_getElem_cons,yY]
theorem ln_ord(hj:j<xs.length)(h:¬oz nf n xs[j])(h2:(xs[j]).1<=a1):yY nf n a1 (xs.drop j)=13:=by
 grind[List.drop_eq_getElem_cons,yY]
theorem FV(hj:j<xs.length)(h:¬oz nf n xs[j])(h2:¬(xs[j]).1<=a1):yY nf n a1 (xs.drop j)=yY nf n (xs[j]).1 (xs.drop (j+1)):=by
 grind[List.drop_eq_getElem_cons,yY]
theorem ln_end(hj:xs.length<=j):yY nf n a1 (xs.drop j)=0:=by
 rw[List.drop_eq_nil_of_le hj];rfl
theorem B5{nf n:Nat}:∀ {xs:List (Int×Int)} {a1:Int},yY nf n a1 xs=0->∀ x∈xs,¬oz nf n x
 | [],_,_,x,hx=>by cases hx
 | y::ys,a1,h,x,hx=>by
  unfold yY at h
  by_cases h1:oz nf n y
  ·grind
  rw[if_neg h1]at h
  by_cases h2:y.1<=a1
  ·omega
  rw[if_neg h2]at h
  rcases ax.1 hx with rfl|hx
  ·exact h1
  ·exact B5 h x hx
theorem Px{nf n:Nat}:∀ {xs:List (Int×Int)} {a1:Int},yY nf n a1 xs=0->-1<=a1->a1<nf->(xs.length:Int)<=nf-1-a1
 | [],a1,_,h1,h2=>by simp only[List.length_nil];omega
 | y::ys,a1,h,h1,h2=>by
  unfold yY at h
  by_cases h3:oz nf n y
  ·grind
  rw[if_neg h3]at h
  by_cases h4:y.1<=a1
  ·omega
  rw[if_neg h4]at h
  unfold oz at h3
  have:=Px h oG oG
  grind
structure GOk(nt nf:Nat)(g:List Nd):Prop where
 pos:0<g.length
 le:g.length<=60
 ty:∀ i (h:i<g.length),0<=(g[i]).ty/\(g[i]).ty<nt
 ln:∀ i (h:i<g.length),∀ x∈(g[i]).ln,0<=x.1/\x.1<nf/\0<=x.2/\x.2<g.length
 few:∀ i (h:i<g.length),(g[i]).ln.length<=nf
structure N1(nf:Nat)(g:List Nd):Prop where
 pos:0<g.length
 le:g.length<=1000000
 ln:∀ i (h:i<g.length),∀ x∈(g[i]).ln,0<=x.1/\x.1<nf/\0<=x.2/\x.2<g.length
 few:∀ i (h:i<g.length),(g[i]).ln.length<=nf
theorem GOk.two{g:List Nd}(h:GOk nt nf g):N1 nf g:=⟨h.pos,nLT h.le dE,h.ln,h.few⟩
theorem Bv{g:List Nd}(h:(j9 nt nf g).1=0):GOk nt nf g:=by
 unfold j9 at h;by_cases h0:g.length=0\/60<g.length
 ·grind
 rw[if_neg h0]at h;have hi:∀ i (h:i<g.length),¬((g[i]).ty<0\/(nt:Int)<=(g[i]).ty)/\yY nf g.length (-1) (g[i]).ln=0:=fun i hl=>by
  have h1:=uX h i (ag _) oG
  grind[M5,hl,h1,XQ]
 refine⟨by omega,by omega,fun i hl=>?_,fun i hl x hx=>?_,fun i hl=>?_⟩
 ·grind
 ·have:=B5 (hi i hl).2 x hx
  grind[oz]
 ·have:=Px (hi i hl).2 oG oG
  omega
theorem Ix{g:List Nd}(h:(j9 nt nf g).1=0):∀ i (hi:i<g.length),yY nf g.length (-1) (g[i]).ln=0:=fun i hl=>by
 unfold j9 at h
 by_cases h0:g.length=0\/60<g.length
 ·grind
 rw[if_neg h0]at h
 have h1:=uX h i (ag _) oG
 grind[M5,hl,h1,XQ]
theorem Zw{f:Nat->Int}:∀ {m i:Nat},(∀ j,i<=j->j<i+m->f j=0)->qQ f i m=(0,0)
 | 0,_,_=>rfl
 | m+1,i,h=>by
  unfold qQ
  rw[if_neg (fun e=>e (h i (Nat.le_refl _) oG))]
  exact Zw (fun j h1 h2=>h j oG oG)
theorem TK{f:Nat->Int}:∀ {m i:Nat},(qQ f i m).1=0->qQ f i m=(0,0)
 | 0,_,_=>rfl
 | m+1,i,h=>by
  unfold qQ at h ⊢
  by_cases h3:f i≠0
  ·grind
  ·rw[if_neg h3]at h ⊢;exact TK h
def OK(fs:List Ft)(z:Int):Ft:=fs.getD z.toNat ⟨⟨#[]⟩,0,0⟩
def Ow(g:List Nd)(z:Int):Nd:=g.getD z.toNat ⟨0,[]⟩
def Ez(l:List Ty)(fs:List Ft)(g:List Nd)(t:Int)(x:Int×Int):Bool:=
 !(sub l t.toNat (OK fs x.1).of.toNat) || !(sub l (Ow g x.2).ty.toNat (OK fs x.1).val.toNat)
def tyN(l:List Ty)(fs:List Ft)(g:List Nd)(i:Nat):Int:=match g[i]? with
 | none=>0
 | some x=>if x.ln.any (Ez l fs g x.ty)then 12 else 0
def tyF(l:List Ty)(fs:List Ft)(g:List Nd):Fl:=qQ (tyN l fs g) 0 g.length
theorem tyN_yes{g:List Nd}(hi:i<g.length)(hj:j<(g[i]).ln.length)(h:Ez l fs g (g[i]).ty (g[i]).ln[j]=true):tyN l fs g i=12:=by
 simp only[tyN,List.getElem?_eq_getElem hi]
 grind
theorem Rx{g:List Nd}(hi:i<g.length)(h:∀ j (hj:j<(g[i]).ln.length),Ez l fs g (g[i]).ty (g[i]).ln[j]=false):tyN l fs g i=0:=by
 simp only[tyN,List.getElem?_eq_getElem hi]
 grind[List.getElem_of_mem]
inductive Rch(g:List Nd):Nat->Prop
 | zero:Rch g 0
 | step {i:Nat} {x:Int×Int} (h:Rch g i) (hi:i<g.length) (hx:x∈(g[i]).ln):Rch g x.2.toNat
def CL(g:List Nd)(mk:Nat->Bool):Prop:=∀ i (hi:i<g.length),mk i=true->∀ x∈(g[i]).ln,mk x.2.toNat=true
def Only(g:List Nd)(mk:Nat->Bool):Prop:=∀ i,mk i=true->Rch g i
theorem reach_cl{g:List Nd}(h0:mk 0=true)(hc:CL g mk)(h:Rch g i):mk i=true:=by
 induction h with
 | zero=>exact h0
 | step h hi hx ih=>exact hc _ hi ih _ hx
def UnrIs(g:List Nd)(r:Int):Prop:=(r= -1/\∀ i,i<g.length->Rch g i)\/∃ k:Nat,r=k/\k<g.length/\¬Rch g k/\∀ i,i<k->Rch g i
theorem UnrIs.uniq{g:List Nd}{r s:Int}(h:UnrIs g r)(k:UnrIs g s):r=s:=by
 rcases h with ⟨h1,h2⟩|⟨a,h1,h2,h3,h4⟩<;>rcases k with ⟨k1,k2⟩|⟨b,k1,k2,k3,k4⟩
 ·omega
 ·grind
 ·grind
 ·grind
noncomputable def Kq(g:List Nd):Int:=@Classical.epsilon Int ⟨0⟩ (UnrIs g)
theorem O1{g:List Nd}{r:Int}(h:UnrIs g r):r=Kq g:=h.uniq (@Classical.epsilon_spec Int (UnrIs g) ⟨r,h⟩)
structure AllM(g:List Nd)(mk:Nat->Bool):Prop where
 zero:mk 0=true
 only:Only g mk
 cl:CL g mk
theorem AllM.no{g:List Nd}(h:AllM g mk)(hk:k<g.length)(hm:mk k=false)(hb:∀ i,i<k->mk i=true):((k:Nat):Int)=Kq g:=
 O1 (.inr ⟨k,rfl,hk,fun hr=>absurd ((reach_cl h.zero h.cl hr).symm.trans hm) (by simp),fun i hi=>h.only i (hb i hi)⟩)
theorem AllM.yes{g:List Nd}(h:AllM g mk)(hb:∀ i,i<g.length->mk i=true):(-1:Int)=Kq g:=
 O1 (.inl ⟨rfl,fun i hi=>h.only i (hb i hi)⟩)
def Z3(mk:Nat->Bool)(j:Nat)(x:Nat):Bool:=if x=j then true else mk x
theorem IY(mk:Nat->Bool)(j:Nat):Z3 mk j j=true:=by simp[Z3]
theorem o5(h:mk x=true):Z3 mk j x=true:=by
 unfold Z3;split
 ·rfl
 ·exact h
theorem Zj(h:Z3 mk j x=true):x=j\/mk x=true:=by
 grind[Z3]
def uk(n:Nat)(mk:Nat->Bool):Nat:=(List.range n).countP (fun i=>!mk i)
theorem Dj(n:Nat)(mk:Nat->Bool):uk n mk<=n:=by
 grind[List.countP_le_length,mk,List.range,uk]
theorem G7(hj:j<n)(h:mk j=false):uk n (Z3 mk j)<uk n mk:=
 gK (fun x hx=>by
  cases hm:mk x with
  | false=>rfl
  | true=>
   have:=o5 (j:=j) hm
   simp[this]at hx) (List.range n) j (aw.2 hj) (by simp[h]) (by simp[IY])
structure DS(g:List Nd)(mk:Nat->Bool)(st:List Int)(i k:Nat):Prop where
 zero:mk 0=true
 only:Only g mk
 stk:∀ s∈st,∃ n:Nat,s=(n:Int)/\n<g.length/\mk n=true
 cl:∀ j (hj:j<g.length),mk j=true->j≠i->(j:Int)∈st\/∀ x∈(g[j]).ln,mk x.2.toNat=true
 me:∀(hi:i<g.length),mk i=true/\∀ x∈(g[i]).ln.take k,mk x.2.toNat=true
theorem DS.start{g:List Nd}(h:0<g.length):DS g (Z3 (fun _=>false) 0) [0] g.length 0:=
 ⟨by simp[Z3],fun i hi=>by
  rcases Zj hi with rfl|h
  ·exact .zero
  ·exact absurd h Bool.false_ne_true,fun s hs=>by
  obtain rfl:=aq.1 hs
  exact⟨0,rfl,h,by simp[Z3]⟩,fun j hj hm _=>by
  rcases Zj hm with rfl|h
  ·exact .inl (by simp)
  ·exact absurd h Bool.false_ne_true,fun hi=>absurd hi (aH _)⟩
theorem DS.pop{g:List Nd}{st:List Int}{z:Int}(h:DS g mk (st++[z]) g.length 0):∃ n:Nat,z=(n:Int)/\n<g.length/\DS g mk st n 0:=by
 obtain⟨n,rfl,hn,hm⟩:=h.stk z (by simp);refine⟨n,rfl,hn,h.zero,h.only,fun s hs=>h.stk s (by simp[hs]),fun j hj hmj hne=>?_,fun hi=>⟨hm,fun x hx=>by simp at hx⟩⟩;rcases h.cl j hj hmj oG with h1|h1
 ·grind
 ·exact .inr h1
theorem DS.old{g:List Nd}{st:List Int}(h:DS g mk st i k)(hi:i<g.length)(hk:k<(g[i]).ln.length)(hm:mk ((g[i]).ln[k]).2.toNat=true):DS g mk st i (k+1):=
 ⟨h.zero,h.only,h.stk,h.cl,fun _=>⟨(h.me hi).1,fun x hx=>by
  rw[List.take_succ_eq_append_getElem hk]at hx
  rcases aE.1 hx with hx|hx
  ·exact(h.me hi).2 x hx
  ·rw[List.mem_singleton.1 hx];exact hm⟩⟩
theorem DS.new{g:List Nd}{st:List Int}(h:DS g mk st i k)(hi:i<g.length)(hk:k<(g[i]).ln.length)(ht:((g[i]).ln[k]).2=(t:Int))(htl:t<g.length):DS g (Z3 mk t) (st++[(t:Int)]) i (k+1):=
 ⟨o5 h.zero,fun j hj=>by
  rcases Zj hj with rfl|hj
  ·have:=Rch.step (h.only i (h.me hi).1) hi (am hk)
   rw[ht]at this;simpa using this
  ·exact h.only j hj,fun s hs=>by
  rcases aE.1 hs with hs|hs
  ·obtain⟨n,h1,h2,h3⟩:=h.stk s hs
   exact⟨n,h1,h2,o5 h3⟩
  ·exact⟨t,aq.1 hs,htl,IY _ _⟩,fun j hj hm hne=>by
  rcases Zj hm with rfl|hm
  ·exact .inl (by simp)
  ·rcases h.cl j hj hm hne with h1|h1
   ·exact .inl (by simp[h1])
   ·exact .inr (fun x hx=>o5 (h1 x hx)),fun _=>⟨o5 (h.me hi).1,fun x hx=>by
  rw[List.take_succ_eq_append_getElem hk]at hx
  rcases aE.1 hx with hx|hx
  ·exact o5 ((h.me hi).2 x hx)
  ·rw[List.mem_singleton.1 hx,ht];simp[IY]⟩⟩
theorem DS.done{g:List Nd}{st:List Int}(h:DS g mk st i k)(hi:i<g.length)(hk:k=(g[i]).ln.length):DS g mk st g.length 0:=
 ⟨h.zero,h.only,h.stk,fun j hj hm _=>by
  by_cases e:j=i
  ·subst e
   have h1:=(h.me hj).2
   grind
  ·exact h.cl j hj hm e,fun hi=>absurd hi (aH _)⟩
theorem DS.end_{g:List Nd}(h:DS g mk [] g.length 0):AllM g mk:=
 ⟨h.zero,h.only,fun i hi hm x hx=>by
  rcases h.cl i hi hm oG with h1|h1
  ·cases h1
  ·exact h1 x hx⟩
def cntN(n:Nat)(mk:Nat->Bool):Nat:=(List.range n).countP mk
theorem cnt_le(n:Nat)(mk:Nat->Bool):cntN n mk<=n:=by
 grind[List.countP_le_length,mk,List.range,cntN]
structure PS(g:List Nd)(mk:Nat->Bool)(p:Nat):Prop where
 zero:mk 0=true
 only:Only g mk
 far:CL g mk\/p+1<=cntN g.length mk
structure PP(g:List Nd)(m0 mk:Nat->Bool)(i k:Nat):Prop where
 zero:mk 0=true
 only:Only g mk
 sup:∀ j,m0 j=true->mk j=true
 same:CL g m0->∀ j,mk j=true->m0 j=true
 done:∀ j (hj:j<g.length),j<i->m0 j=true->∀ x∈(g[j]).ln,mk x.2.toNat=true
 me:∀(hi:i<g.length),m0 i=true->∀ x∈(g[i]).ln.take k,mk x.2.toNat=true
theorem PS.start{g:List Nd}(h:0<g.length):PS g (Z3 (fun _=>false) 0) 0:=
 ⟨by simp[Z3],fun i hi=>by
  rcases Zj hi with rfl|h
  ·exact .zero
  ·exact absurd h Bool.false_ne_true,.inr (by
  have:0<cntN g.length (Z3 (fun _=>false) 0):=List.countP_pos_iff.2 ⟨0,aw.2 h,by simp[Z3]⟩
  omega)⟩
theorem PP.start{g:List Nd}{p:Nat}(h:PS g mk p):PP g mk mk 0 0:=
 ⟨h.zero,h.only,fun _ h=>h,fun _ _ h=>h,fun j _ hj=>by omega,fun _ _ x hx=>by simp at hx⟩
theorem PP.skip{g:List Nd}(h:PP g m0 mk i k)(hm:mk i=false):PP g m0 mk i (k+1):=
 ⟨h.zero,h.only,h.sup,h.same,h.done,fun _ h0=>absurd ((h.sup i h0).symm.trans hm) (by simp)⟩
theorem PP.mark{g:List Nd}(h:PP g m0 mk i k)(hi:i<g.length)(hk:k<(g[i]).ln.length)(ht:((g[i]).ln[k]).2=(t:Int))(hm:mk i=true):PP g m0 (Z3 mk t) i (k+1):=
 ⟨o5 h.zero,fun j hj=>by
  rcases Zj hj with rfl|hj
  ·have:=Rch.step (h.only i hm) hi (am hk)
   grind
  ·exact h.only j hj,fun j hj=>o5 (h.sup j hj),fun hc j hj=>by
  rcases Zj hj with rfl|hj
  ·have:=hc i hi (h.same hc i hm) _ (am hk)
   grind
  ·exact h.same hc j hj,fun j hj hji h0 x hx=>o5 (h.done j hj hji h0 x hx),fun _ h0 x hx=>by
  rw[List.take_succ_eq_append_getElem hk]at hx
  rcases aE.1 hx with hx|hx
  ·exact o5 (h.me hi h0 x hx)
  ·rw[List.mem_singleton.1 hx,ht];simp[IY]⟩
theorem PP.next{g:List Nd}(h:PP g m0 mk i k)(hi:i<g.length)(hk:k=(g[i]).ln.length):PP g m0 mk (i+1) 0:=
 ⟨h.zero,h.only,h.sup,h.same,fun j hj hji h0 x hx=>by
  by_cases e:j=i
  ·subst e
   have:=h.me hj h0
   grind
  ·exact h.done j hj oG h0 x hx,fun _ _ x hx=>by simp at hx⟩
theorem PP.end_{g:List Nd}(hr:∀ i (hi:i<g.length),∀ x∈(g[i]).ln,x.2.toNat<g.length){p:Nat}(h0:PS g m0 p)(h:PP g m0 mk g.length 0):PS g mk (p+1):=by
 refine⟨h.zero,h.only,?_⟩;have hcl:CL g m0->CL g mk:=fun hc i hi hm x hx=>h.sup _ (hc i hi (h.same hc i hm) x hx)
 by_cases hc:CL g m0
 ·exact .inl (hcl hc)
 ·right
  rcases h0.far with h1|h1
  ·exact absurd h1 hc
  ·have hex:∃ i,∃ hi:i<g.length,m0 i=true/\∃ x,x∈(g[i]).ln/\m0 x.2.toNat=false:=aG (fun hn=>hc (fun i hi hm x hx=>by
    cases hv:m0 x.2.toNat with
    | true=>rfl
    | false=>exact absurd ⟨i,hi,hm,x,hx,hv⟩ hn))
   obtain⟨i,hi,hm,x,hx,hv⟩:=hex;have a1:=h.done i hi hi hm x hx;have hl:=hr i hi x hx;have:cntN g.length m0<cntN g.length mk:=gK h.sup (List.range g.length) _ (aw.2 hl) a1 hv;omega
theorem PS.end_{g:List Nd}(h:PS g mk g.length):AllM g mk:=
 ⟨h.zero,h.only,by
  rcases h.far with h1|h1
  ·exact h1
  ·have:=cnt_le g.length mk
   omega⟩
theorem snoc_of{st:List Int}(h:0<st.length):∃ s z,st=s++[z]:=by
 rcases List.eq_nil_or_concat st with rfl|⟨s,z,rfl⟩
 ·cases h
 ·grind
theorem Ck:row n (fun x=>if x=j then Value.bool true else .bool (mk x))=row n (fun x=> .bool (Z3 mk j x)):=
 xJ (fun x _=>by by_cases e:x=j<;>simp[Z3,e])
theorem gok_rng{g:List Nd}(h:GOk nt nf g):∀ i (hi:i<g.length),∀ x∈(g[i]).ln,x.2.toNat<g.length:=fun i hi x hx=>by
 have:=h.ln i hi x hx;omega
structure FOk(nt:Nat)(fs:List Ft):Prop where
 at_:∀ i (h:i<fs.length),0<=(fs[i]).of/\(fs[i]).of<nt/\0<=(fs[i]).val/\(fs[i]).val<nt
theorem By(h:(qK l fs).1=0):FOk l.length fs:=by
 unfold qK at h;by_cases h4:40<fs.length
 ·grind
 rw[if_neg h4]at h;by_cases ht:(xZ l).1≠0
 ·grind
 rw[if_neg ht]at h;by_cases hu:(gW l).1≠0
 ·grind
 rw[if_neg hu]at h;refine⟨fun i hi=>?_⟩;have h1:=uX h i (ag _) oG
 grind[yJ,ft10,h1,seen,ft7,TQ,ft3]
theorem lnTy_at{g:List Nd}{t:Int}{x:Int×Int}{fi ti yn on vn zn:Nat}(h1:x.1=(fi:Int))(hfi:fi<fs.length)(h2:x.2=(ti:Int))(hti:ti<g.length)(ht:t=(yn:Int))(ho:(fs[fi]).of=(on:Int))(hv:(fs[fi]).val=(vn:Int))(hz:(g[ti]).ty=(zn:Int)):
  Ez l fs g t x=(!sub l yn on || !sub l zn vn):=by
 unfold Ez OK Ow;rw[h1,h2,ht];have e1:fs.getD (fi:Int).toNat ⟨⟨#[]⟩,0,0⟩=fs[fi]:=by simp[List.getD,hfi]
 have e2:g.getD (ti:Int).toNat ⟨0,[]⟩=g[ti]:=by simp[List.getD,hti]
 rw[e1,e2,ho,hv,hz];simp
noncomputable def xk(l:List Ty)(fs:List Ft)(g:List Nd):Fl:=
 if (j9 l.length fs.length g).1≠0 then j9 l.length fs.length g else if (tyF l fs g).1≠0 then tyF l fs g else if 0<=Kq g then (5,Kq g)else (0,0)
theorem N3{g:List Nd}(h:¬(j9 l.length fs.length g).1=0):xk l fs g=((j9 l.length fs.length g).1,(j9 l.length fs.length g).2):=by unfold xk;rw[if_pos h]
theorem wi_ty{g:List Nd}{k:Int}(h:(j9 l.length fs.length g).1=0)(ht:tyF l fs g=(12,k)):xk l fs g=(12,k):=by
 grind[xk]
theorem wi_unr{g:List Nd}(h:(j9 l.length fs.length g).1=0)(ht:tyF l fs g=(0,0))(hu:0<=Kq g):xk l fs g=(5,Kq g):=by
 grind[xk]
theorem IQ{g:List Nd}(h:(j9 l.length fs.length g).1=0)(ht:tyF l fs g=(0,0))(hu:¬0<=Kq g):xk l fs g=(0,0):=by
 grind[xk]
noncomputable def Q8(l:List Ty)(fs:List Ft)(g:List Nd):Fl:=if (qK l fs).1≠0 then qK l fs else xk l fs g
theorem gf_hier{g:List Nd}(h:¬(qK l fs).1=0):Q8 l fs g=((qK l fs).1,(qK l fs).2):=by unfold Q8;rw[if_pos h]
theorem gf_in{g:List Nd}(h:(qK l fs).1=0):Q8 l fs g=((xk l fs g).1,(xk l fs g).2):=by unfold Q8;rw[if_neg (fun e=>e h)]
def nd(g:List Nd)(i:Nat):Nd:=g.getD i ⟨0,[]⟩
theorem vx{g:List Nd}(hi:i<g.length):nd g i=g[i]:=by simp[nd,List.getD,hi]
def vy(g:List Nd)(i:Nat):List Nat:=(nd g i).ln.map (fun x=>x.2.toNat)
inductive DL(g:List Nd):List Nat->List Nat->List Nat->Prop
 | nil {o:List Nat}:DL g [] o o
 | old {i:Nat} {is o o':List Nat} (h:i∈o) (t:DL g is o o'):DL g (i::is) o o'
 | new {i:Nat} {is o o1 o':List Nat} (h:¬i∈o) (s:DL g (vy g i) (o++[i]) o1) (t:DL g is o1 o'):DL g (i::is) o o'
theorem DL.det{g:List Nd}{is a:List Nat}(h:DL g is o a):∀ {b:List Nat},DL g is o b->a=b:=by
 induction h with
 | nil=>intro b k;cases k;rfl
 | old h t ih=>
  intro b k;cases k with
  | old h' t'=>exact ih t'
  | new h' s' t'=>exact absurd h h'
 | new h s t ihs iht=>
  intro b k;cases k with
  | old h' t'=>exact absurd h' h
  | new h' s' t'=>
   have:=ihs s';subst this;exact iht t'
theorem DL.append{g:List Nd}{xs a b:List Nat}(h:DL g xs a b):∀ {ys c:List Nat},DL g ys b c->DL g (xs++ys) a c:=by
 induction h with
 | nil=>intro ys c k;exact k
 | old h t ih=>intro ys c k;exact .old h (ih k)
 | new h s t ihs iht=>intro ys c k;exact .new h s (iht k)
def Xx(o:List Nat)(x:Nat):Bool:=decide (x∈o)
structure OOk(n:Nat)(o:List Nat):Prop where
 lt:∀ x∈o,x<n
 cnt:o.length+uk n (Xx o)<=n
theorem OOk.nil(n:Nat):OOk n []:=⟨fun x hx=>by simp at hx,by have:=Dj n (Xx []);simpa using this⟩
theorem M7(hi:i<n)(h:¬i∈o):uk n (Xx (o++[i]))<uk n (Xx o):=
 gK (fun x hx=>by
  simp only[Xx,Bool.not_eq_true',decide_eq_false_iff_not,List.mem_append,not_or]at hx ⊢
  exact hx.1) (List.range n) i (aw.2 hi) (by simp[Xx,h]) (by simp[Xx])
theorem Tk(n:Nat)(o s:List Nat):uk n (Xx (o++s))<=uk n (Xx o):=
 List.countP_mono_left (fun x _ hx=>by
  simp only[Xx,Bool.not_eq_true',decide_eq_false_iff_not,List.mem_append,not_or]at hx ⊢
  exact hx.1)
theorem OOk.snoc{n i:Nat}{o:List Nat}(h:OOk n o)(hi:i<n)(hn:¬i∈o):OOk n (o++[i]):=
 ⟨fun x hx=>by
  rcases aE.1 hx with hx|hx
  ·exact h.lt x hx
  ·rw[List.mem_singleton.1 hx];exact hi,by
  have h1:=M7 hi hn
  have h2:=h.cnt
  simp only[List.length_append,List.length_cons,List.length_nil]
  omega⟩
theorem DL.ok{g:List Nd}(hr:∀ i,i<g.length->∀ t∈vy g i,t<g.length){is o':List Nat}(h:DL g is o o'):(∀ i∈is,i<g.length)->OOk g.length o->OOk g.length o'/\∃ s,o'=o++s:=by
 induction h with
 | nil=>intro _ k;exact⟨k,[],by simp⟩
 | old h t ih=>intro hi k;exact ih (fun i h=>hi i (ar _ h)) k
 | new h s t ihs iht=>
  intro hi k;have hlt:=hi _ (aB ..);obtain⟨h1,s1,e1⟩:=ihs (hr _ hlt) (k.snoc hlt h);obtain⟨h2,s2,e2⟩:=iht (fun i h=>hi i (ar _ h)) h1;exact⟨h2,_,by rw[e2,e1,List.append_assoc,List.append_assoc]⟩
theorem IJ{g:List Nd}(h:N1 nf g):∀ i,i<g.length->∀ t∈vy g i,t<g.length:=fun i hi t ht=>by
 simp only[vy,vx hi,List.mem_map]at ht
 obtain⟨x,hx,rfl⟩:=ht
 have:=h.ln i hi x hx
 omega
theorem C5{g:List Nd}(hi:i<g.length)(hj:j<(g[i]).ln.length)(ht:((g[i]).ln[j]).2=(t:Int)):(vy g i).take (j+1)=(vy g i).take j++[t]:=by
 have hl:j<(vy g i).length:=by simp[vy,vx hi,hj]
 rw[List.take_succ_eq_append_getElem hl]
 congr 2
 simp[vy,vx hi,ht]
def kV(o:List Nat)(x:Nat):Int:=if x∈o then (o.idxOf x:Nat)else -1
theorem LQ(x:Nat):kV [] x= -1:=by simp[kV]
theorem LX(h:¬0<=kV o x):¬x∈o:=fun hx=>h (by simp only[kV,if_pos hx];omega)
theorem LZ(h:0<=kV o x):x∈o:=by
 unfold kV at h;by_cases hx:x∈o
 ·exact hx
 ·rw[if_neg hx]at h;omega
theorem numO_snoc(h:¬i∈o)(x:Nat):(if x=i then ((o.length:Nat):Int)else kV o x)=kV (o++[i]) x:=by
 unfold kV;by_cases e:x=i
 ·subst e
  simp[List.idxOf_append,h]
 ·by_cases hx:x∈o
  ·simp[e,hx,List.idxOf_append]
  ·simp[e,hx]
theorem row_num(h:¬i∈o):row n (fun x=>if x=i then Value.int .i64 ((o.length:Nat):Int)else .int .i64 (kV o x))=row n (fun x=> .int .i64 (kV (o++[i]) x)):=
 xJ (fun x _=>by rw[<- numO_snoc h];split<;>rfl)
def oV(o:List Nat):List Value:=o.map (fun(n:Nat)=>Value.int .i64 (n:Int))
theorem own_oV(h:Own w base 3 1 A (o.length+1) cap (oV o++[Value.int .i64 (i:Int)])):Own w base 3 1 A (o++[i]).length cap (oV (o++[i])):=by
 unfold oV at h ⊢;rw[List.length_append,List.map_append];exact h
theorem sl_oV(A:Option Addr)(cap:Nat)(o:List Nat)(i:Nat):Value.slice A (o.length+1) cap=Value.slice A (o++[i]).length cap:=by rw[List.length_append];rfl
structure Chg(base:Nat)(X:List Nat)(w w':World):Prop where
 os:w'.os=w.os
 tape:w'.tape=w.tape
 output:w'.output=w.output
 size:w.heap.size<=w'.heap.size
 blk:∀ k,k<base->¬k∈X->w'.heap[k]? =w.heap[k]?
theorem Chg.refl(base:Nat)(X:List Nat)(w:World):Chg base X w w:=⟨rfl,rfl,rfl,ah _,fun _ _ _=>rfl⟩
theorem Chg.trans{base:Nat}{X:List Nat}{a b c:World}(h:Chg base X a b)(k:Chg base X b c):Chg base X a c:=
 ⟨k.os.trans h.os,k.tape.trans h.tape,k.output.trans h.output,nLT h.size k.size,fun i hi hx=>(k.blk i hi hx).trans (h.blk i hi hx)⟩
theorem Chg.st{a b c:World}(h:Chg base X a b)(k:Same Y b c)(hb:base<=b.heap.size)(hy:∀ g∈Y,g∈X\/base<=g):Chg base X a c:=
 h.trans ⟨k.os,k.tape,k.output,k.size,fun i hi hx=>k.blk i (nLL hi hb) (fun hm=>by
  rcases hy i hm with h1|h1
  ·exact hx h1
  ·omega)⟩
theorem y6{a b c:World}(h:Chg base X a b/\base<=b.heap.size)(k:Same Y b c)(hy:∀ g∈Y,g∈X\/base<=g:=by first|(simp;done)|(intro g hg;have h1:=aq.1 hg;first|(left;rw[h1];simp;done)|(right;omega))|(intro g hg;exact .inr (by have:=(Own.lt (by assumption) g hg).1;omega))):Chg base X a c/\base<=c.heap.size:=⟨h.1.st k h.2 hy,nLT h.2 (Same.size k)⟩
theorem Blk.chg{cs:Array Value}(h:Blk w b t cs)(hc:Chg base X w w')(hb:b<base)(hx:¬b∈X):Blk w' b t cs:=(hc.blk b hb hx).trans h
theorem Bel.chg{w0:World}(h:Bel w0 w)(hc:Chg base X w w')(hb:w0.heap.size<=base)(hx:∀ g∈X,w0.heap.size<=g):Bel w0 w':=
 ⟨hc.os.trans h.os,hc.tape.trans h.tape,hc.output.trans h.output,nLT h.size hc.size,fun k hk=>(hc.blk k (nLL hk hb) (fun hm=>by have:=hx k hm;omega)).trans (h.block k hk)⟩
def kz(m:Nat)(f h:Nat->Value):Array Value:=Array.ofFn (n:=m*2) (fun i=>if i.val%2=0 then f (i.val/2)else h (i.val/2))
theorem uq(m:Nat)(f h:Nat->Value):(kz m f h).size=m*2:=by simp[kz]
theorem Xy(hi:i<m):(kz m f h)[0+i*2+0]? =some (f i):=by
 have e1:0+i*2+0=i*2:=by omega
 have e2:i*2<m*2:=by omega
 rw[e1];simp[kz,e2]
theorem ZQ(hi:i<m):(kz m f h)[0+i*2+1]? =some (h i):=by
 have e1:0+i*2+1=i*2+1:=by omega
 have e2:i*2+1<m*2:=by omega
 have e3:(i*2+1)%2=1:=by omega
 have e4:(i*2+1)/2=i:=by omega
 rw[e1];simp[kz,e2,e3,e4]
theorem VZ:(kz m f h).setIfInBounds (0+i*2+0) v=kz m (fun j=>if j=i then v else f j) h:=by
 apply Array.ext
 ·simp[kz]
 ·intro k h1 h2
  rw[Array.getElem_setIfInBounds (by simpa using h1)];simp only[kz,Array.getElem_ofFn];by_cases e:0+i*2+0=k
  ·have e1:k%2=0:=by omega
   have e2:k/2=i:=by omega
   rw[if_pos e];simp[e1,e2]
  ·rw[if_neg e]
   by_cases e1:k%2=0
   ·have e2:¬k/2=i:=by omega
    simp[e1,e2]
   ·simp[e1]
theorem M1:(kz m f h).setIfInBounds (0+i*2+1) v=kz m f (fun j=>if j=i then v else h j):=by
 apply Array.ext
 ·simp[kz]
 ·intro k h1 h2
  rw[Array.getElem_setIfInBounds (by simpa using h1)];simp only[kz,Array.getElem_ofFn];by_cases e:0+i*2+1=k
  ·have e1:k%2=1:=by omega
   have e2:k/2=i:=by omega
   rw[if_pos e];simp[e1,e2]
  ·rw[if_neg e]
   by_cases e1:k%2=0
   ·simp[e1]
   ·have e2:¬k/2=i:=by omega
    simp[e1,e2]
theorem oX{f' h':Nat->Value}(hf:∀ j,j<m->f j=f' j)(hh:∀ j,j<m->h j=h' j):kz m f h=kz m f' h':=by
 apply Array.ext
 ·simp[kz]
 ·intro k h1 h2
  have hk:k<m*2:=by simpa[kz]using h1
  simp only[kz,Array.getElem_ofFn];rw[hf _ oG,hh _ oG]
theorem M2(m:Nat)(a b:Value):madeCells #[a,b] (m*2)=kz m (fun _=>a) (fun _=>b):=by
 apply Array.ext
 ·simp[kz,madeCells]
 ·intro k h1 h2
  simp only[kz,madeCells,Array.getElem_ofFn,Array.getElem_map,Array.getElem_range];rcases(by omega:k%2=0\/k%2=1)with e|e
  ·simp[e]
  ·simp[e]
def Yx(o:List Nat)(x:Int×Int):Int×Int:=(x.1,kV o x.2.toNat)
def SZ(g:List Nd)(o:List Nat)(i:Nat):Nd:=⟨(nd g i).ty,(nd g i).ln.map (Yx o)⟩
def yK(g:List Nd)(o:List Nat):List Nd:=o.map (SZ g o)
def lnV(xs:List (Int×Int)):List Value:=xs.flatMap (fun x=>[Value.int .i64 x.1,Value.int .i64 x.2])
theorem E8(xs:List (Int×Int))(x:Int×Int):lnV xs++[Value.int .i64 x.1,Value.int .i64 x.2]=lnV (xs++[x]):=by simp[lnV]
theorem YY:∀(xs:List (Int×Int)) (k:Nat) (hk:k<xs.length),(lnV xs)[k*2]? =some (Value.int .i64 (xs[k]).1)/\(lnV xs)[k*2+1]? =some (Value.int .i64 (xs[k]).2)
 | [],k,hk=>by simp at hk
 | x::xs,0,_=>by simp[lnV]
 | x::xs,k+1,hk=>by
  have h:=YY xs k (by simpa using hk)
  have e1:(k+1)*2=k*2+1+1:=by omega
  have e2:(k+1)*2+1=k*2+1+1+1:=by omega
  have e3:lnV (x::xs)=Value.int .i64 x.1::Value.int .i64 x.2::lnV xs:=by simp[lnV]
  rw[e1,e3]
  simpa using h
theorem Oj(h:Own w base 83 2 A xs.length cap (lnV xs)):LinksIn w A xs:=
 ⟨h.max,fun hn=>by
  have hne:lnV xs≠[]:=by
   cases xs with
   | nil=>exact absurd rfl hn
   | cons x r=>simp[lnV]
  obtain⟨g,e,hb,hg,hc⟩:=h.cell hne;refine⟨g,0,e,hg,fun k hk j v hj=>?_⟩;have h2:=YY xs k hk
  match j,hj with
  | 0,hj=>cases hj;have:=hc _ _ h2.1;simpa using this
  | 1,hj=>cases hj;have:=hc _ _ h2.2;simpa using this
  | _+2,hj=>cases hj⟩
structure FrSame(B:Nat)(w w2:World):Prop where
 size:w.heap.size<=w2.heap.size
 blk:∀ k,B<=k->k<w.heap.size->w2.heap[k]? =w.heap[k]?
theorem FrSame.of{B:Nat}{w0:World}(h:FrSame B w0 w)(hs:Same X w w')(hx:∀ g∈X,g<B\/w0.heap.size<=g):FrSame B w0 w':=
 ⟨nLT h.size hs.size,fun k hk hk2=>by
  rw[hs.blk k (nLL hk2 h.size) (fun hm=>by have:=hx k hm;omega)]
  exact h.blk k hk hk2⟩
theorem FrSame.refl(B:Nat)(w:World):FrSame B w w:=⟨ah _,fun _ _ _=>rfl⟩
theorem FrSame.at_{B:Nat}{cs:Array Value}(h:FrSame B w w2)(hb:Blk w b t cs)(hl:B<=b):Blk w2 b t cs:=(h.blk b hl hb.lt).trans hb
def RowO(w:World)(lo bs:Nat)(v:Value)(xs:List (Int×Int)):Prop:=∃ A c,v= .slice A xs.length c/\Own w lo 83 2 A xs.length c (lnV xs)/\∀ g∈aL A,g<bs
theorem Own.typ{xs:List Value}(h:Own w base e sz A k cap xs):∀ g∈aL A,∃ cs,Blk w g e cs:=fun g hg=>by
 rcases h.2 with ⟨hn,_⟩|⟨g',c,cur,hv,hb,hgg,r⟩
 ·cases hn;cases hg
 ·cases hv
  simp only[aL,List.mem_singleton]at hg
  subst hg;exact⟨cur,hgg⟩
theorem Own.typ9{xs:List Value}(h:Own w base e sz A k cap xs)(ht:e≠t):∀ g∈aL A,∃ cs u,Blk w g u cs/\u≠t:=fun g hg=>by
 obtain⟨cs,k⟩:=h.typ g hg
 exact⟨cs,_,k,ht⟩
theorem RowO.tr{w w':World}{lo bs:Nat}{v:Value}{xs:List (Int×Int)}{X:List Nat}(h:RowO w lo bs v xs)(hs:Same X w w')(hx:∀ g∈X,bs<=g\/∃ cs t,Blk w g t cs/\t≠83):RowO w' lo bs v xs:=by
 obtain⟨A,c,h1,h2,h3⟩:=h;refine⟨A,c,h1,h2.tr hs (fun g hg hm=>?_),h3⟩;rcases hx g hm with h4|⟨cs,t,h4,h5⟩
 ·have:=h3 g hg;omega
 ·obtain⟨cs2,h6⟩:=h2.typ g hg
  exact h5 (jy h4 h6)
theorem RowO.c(h:RowO w lo bs v xs)(hs:Same X w w')(hx:∀ g∈X,bs<=g\/∃ cs t,Blk w g t cs/\t≠83:=by first|(simp;done)|(intro g hg;rw[List.mem_singleton.1 hg];first|exact .inr ⟨_,_,by assumption,by decide⟩|exact .inl oG)|(intro g hg;first|exact .inl (by have:=(Own.lt (by assumption) g hg).1;omega)|exact .inr (Own.typ9 (by assumption) dE g hg))):RowO w' lo bs v xs:=h.tr hs hx
theorem qj{V:Nat->Value}{L:Nat->List (Int×Int)}(h:∀ x,x<n->RowO w lo bs (V x) (L x))(hs:Same X w w')(hx:∀ g∈X,bs<=g\/∃ cs t,Blk w g t cs/\t≠83:=by first|(simp;done)|(intro g hg;rw[List.mem_singleton.1 hg];first|exact .inr ⟨_,_,by assumption,by decide⟩|exact .inl oG)|(intro g hg;first|exact .inl (by have:=(Own.lt (by assumption) g hg).1;omega)|exact .inr (Own.typ9 (by assumption) dE g hg))):∀ x,x<n->RowO w' lo bs (V x) (L x):=fun x k=>(h x k).tr hs hx
theorem RowO.up{bs':Nat}(h:RowO w lo bs v xs)(hb:bs<=bs'):RowO w lo bs' v xs:=by
 obtain⟨A,c,h1,h2,h3⟩:=h;exact⟨A,c,h1,h2,fun g hg=>nLL (h3 g hg) hb⟩
theorem RowO.of(hl:lo<=base)(h:Own w base 83 2 A xs.length cap (lnV xs)):RowO w lo w.heap.size (.slice A xs.length cap) xs:=⟨A,cap,rfl,h.low hl,fun g hg=>(h.lt g hg).2⟩
theorem RowO.fr(h:RowO w lo bs v xs)(hf:FrSame lo w w2):RowO w2 lo bs v xs:=by
 obtain⟨A,c,h1,h2,h3⟩:=h;refine⟨A,c,h1,⟨h2.1,?_⟩,h3⟩;rcases h2.2 with hn|⟨g,c,cur,hv,hb,hg,r⟩
 ·exact .inl hn
 ·exact .inr ⟨g,c,cur,hv,hb,(hf.blk g hb (uv hg)).trans hg,r⟩
theorem nodes_row2{gr:List Nd}(hb:Blk w b t (kz m f h))(hm:gr.length=m)(hmx:m<=vJ)(hf:∀ k (hk:k<gr.length),f k= .int .i64 (gr[k]).ty)(hh:∀ k (hk:k<gr.length),RowO w lo bs (h k) (gr[k]).ln):NodesIn w (some ⟨b,0,none⟩) gr:=
 ⟨by rw[hm];exact hmx,fun _=>⟨b,0,rfl,hb.lt,fun k hk=>by
  obtain⟨A,c,h1,h2,_⟩:=hh k hk
  refine⟨A,c,hb.range (fun j v hj=>?_),Oj h2⟩
  match j,hj with
  | 0,hj=>cases hj;rw[<- hf k hk];exact Xy oG
  | 1,hj=>cases hj;rw[<- h1];exact ZQ oG
  | _+2,hj=>cases hj⟩⟩
def OrdF(w:World)(bn bd:Nat)(A:Option Addr)(o:List Nat):Prop:=
 (o= []/\A=none)\/(o≠[]/\∃ b,A=some ⟨b,0,none⟩/\b≠bn/\b<bd/\b<w.heap.size/\∀ k (hk:k<o.length),w.cell? ⟨b,0+k,none⟩=some (.int .i64 (o[k]:Nat)))
theorem OrdF.nil(w:World)(bn bd:Nat):OrdF w bn bd none []:= .inl ⟨rfl,rfl⟩
theorem OrdF.tr{bd:Nat}(h:OrdF w bn bd A o)(hs:Same X w w')(hx:∀ g∈X,g=bn\/bd<=g):OrdF w' bn bd A o:=by
 rcases h with h|⟨h1,b,h2,h3,h4,h5,h6⟩
 ·exact .inl h
 ·refine .inr ⟨h1,b,h2,h3,h4,nLL h5 hs.size,fun k hk=>?_⟩
  rw[World.cell?_of_block (hs.blk b h5 (fun hm=>by rcases hx b hm with h|h<;>omega))];exact h6 k hk
theorem OrdF.up{bd bd':Nat}(h:OrdF w bn bd A o)(hb:bd<=bd'):OrdF w bn bd' A o:=by
 rcases h with h|⟨h1,b,h2,h3,h4,h5,h6⟩
 ·exact .inl h
 ·exact .inr ⟨h1,b,h2,h3,nLL h4 hb,h5,h6⟩
theorem ord_own{g:Nat}(h:Own w base 3 1 (some ⟨g,0,none⟩) (o.length+1) cap (oV o++[Value.int .i64 (i:Int)]))(hb:bn<base):OrdF w bn w.heap.size (some ⟨g,0,none⟩) (o++[i]):=by
 have h1:=own_oV h;obtain⟨g',e,hg1,hg2,hc⟩:=h1.cell (by simp[oV]);cases e;refine .inr ⟨by simp,g,rfl,by omega,hg2,hg2,fun k hk=>?_⟩
 have:=hc k (.int .i64 ((o++[i])[k]:Nat)) (by
  unfold oV
  rw[List.getElem?_map,List.getElem?_eq_getElem hk];rfl)
 simpa using this
theorem Same.freshL{w1:World}(h:Same X w w1)(hs:Same Y w1 w2)(hb:∀ g∈Y,g∈X\/w.heap.size<=g):Same X w w2:=
 ⟨hs.os.trans h.os,hs.tape.trans h.tape,hs.output.trans h.output,nLT h.size hs.size,fun k hk hx=>(hs.blk k (nLL hk h.size) (fun hm=>by
  rcases hb k hm with h1|h1
  ·exact hx h1
  ·omega)).trans (h.blk k hk hx)⟩
def ndV(f h:Nat->Value)(k:Nat):List Value:=(List.range k).flatMap (fun x=>[f x,h x])
theorem QX(f h:Nat->Value)(k:Nat):ndV f h (k+1)=ndV f h k++[f k,h k]:=by simp[ndV,List.range_succ,List.flatMap_append]
theorem gJ{f f' h h':Nat->Value}:∀ {k:Nat},(∀ x,x<k->f x=f' x)->(∀ x,x<k->h x=h' x)->ndV f h k=ndV f' h' k
 | 0,_,_=>rfl
 | k+1,h1,h2=>by rw[QX,QX,gJ (fun x hx=>h1 x oG) (fun x hx=>h2 x oG),h1 k oG,h2 k oG]
theorem Jw(f h:Nat->Value):∀ k,(ndV f h k).length=k*2
 | 0=>rfl
 | k+1=>by rw[QX,List.length_append,Jw f h k];simp only[List.length_cons,List.length_nil];omega
theorem Q4(f h:Nat->Value):∀ {k x:Nat},x<k->(ndV f h k)[x*2]? =some (f x)/\(ndV f h k)[x*2+1]? =some (h x)
 | 0,_,hx=>by omega
 | k+1,x,hx=>by
  have hl:=Jw f h k
  rw[QX]
  by_cases e:x<k
  ·have ih:=Q4 f h e
   rw[List.getElem?_append_left oG,List.getElem?_append_left oG]
   exact ih
  ·have e2:x=k:=by omega
   subst e2
   rw[List.getElem?_append_right oG,List.getElem?_append_right oG,hl]
   have e3:x*2-x*2=0:=by omega
   have e4:x*2+1-x*2=1:=by omega
   rw[e3,e4];exact⟨rfl,rfl⟩
theorem Own.fr{xs:List Value}(h:Own w base e sz A k cap xs)(hl:lo<=base)(hf:FrSame lo w w2):Own w2 base e sz A k cap xs:=by
 refine⟨h.1,?_⟩;rcases h.2 with hn|⟨g,c,cur,hv,hb,hg,r⟩
 ·exact .inl hn
 ·exact .inr ⟨g,c,cur,hv,hb,(hf.blk g (nLT hl hb) (uv hg)).trans hg,r⟩
theorem Ov{gr:List Nd}(ho:Own w base 80 2 A m cap (ndV f h m))(hm:gr.length=m)(hf:∀ k (hk:k<gr.length),f k= .int .i64 (gr[k]).ty)(hh:∀ k (hk:k<gr.length),RowO w lo bs (h k) (gr[k]).ln):NodesIn w A gr:=
 ⟨by rw[hm];exact ho.max,fun hn=>by
  have hne:ndV f h m≠[]:=fun h0=>by
   have h1:=Jw f h m
   rw[h0]at h1
   exact hn (aK.1 (by simp only[List.length_nil]at h1;omega))
  obtain⟨g,e,hb,hg,hc⟩:=ho.cell hne
  refine⟨g,0,e,hg,fun k hk=>?_⟩
  obtain⟨A',c,h1,h2,_⟩:=hh k hk
  have h3:=Q4 f h (show k<m by omega)
  refine⟨A',c,fun j v hj=>?_,Oj h2⟩
  match j,hj with
  | 0,hj=>cases hj;rw[<- hf k hk];have:=hc _ _ h3.1;simpa using this
  | 1,hj=>cases hj;rw[<- h1];have:=hc _ _ h3.2;simpa using this
  | _+2,hj=>cases hj⟩
theorem sz28:(prog.info? 28).map (·.size)=some 1:=by kernel_rfl
theorem qk:(prog.info? 3).map (·.size)=some 1:=by kernel_rfl
theorem zj:(prog.info? 36).map (·.size)=some 2:=by kernel_rfl
theorem j8:(prog.info? 4).map (·.size)=some 1:=by kernel_rfl
theorem BW:(prog.info? 78).map (·.size)=some 1:=by kernel_rfl
theorem o6:(prog.info? 80).map (·.size)=some 2:=by kernel_rfl
theorem uW:(prog.info? 83).map (·.size)=some 2:=by kernel_rfl
theorem x6:(prog.info? 36).map (·.zero)=some (some (.agg #[.int .i64 0,.int .i64 0])):=by kernel_rfl
theorem DX:(prog.info? 80).map (·.zero)=some (some (.agg #[.int .i64 0,.slice none 0 0])):=by kernel_rfl
theorem K4:(prog.info? 83).map (·.zero)=some (some (.agg #[.int .i64 0,.int .i64 0])):=by kernel_rfl
theorem Tw(b n:Nat)(mk:Nat->Bool)(w:World)(hb:Blk w b 4 (row n (fun x=> .bool (mk x))))(hn:n<=1000):Calls prog 51 #[.slice (some ⟨b,0,none⟩) n n,.bool false] w fun e w'=>(∃ r,e= .returned (.int .i64 r)/\((r= -1/\∀ i,i<n->mk i=true)\/∃ k:Nat,r=k/\k<n/\mk k=false/\∀ i,i<k->mk i=true))/\Bel w w':=by
 refine enT func51 ntmps51 rfl rfl fun hB=>?_;refine ZV ?_;refine qx (rg [4,5] 8 11) (fun m g w'=>∃ k:Nat,k<=n/\m=n-k/\g 8= .int .i64 k/\Bel w w'/\∀ i,i<k->mk i=true) (n) ?_ (fun m g2 w1 hI=>?_)
 ·exact⟨0,ag _,rfl,rfl,hB,fun i hi=>by omega⟩
 obtain⟨k,hk,hm,h8,hB,hA⟩:=hI;refine zX 8 _ h8 nu (zn6 ?_);refine zQ rfl (fun c9=>?_) (fun c9=>?_)
 ·have hlt:k<n:=by omega
  refine Kz ?_;refine wl (qy (v:= .bool _) U4 rfl rfl ((hb.bel hB).cell (vW hlt))) (wl (r_eqlB U4 rfl rfl) (zJ (e_S ?_)));refine jQ rfl (fun a1=>?_) (fun a1=>?_)
  ·have hmk:mk k=false:=by simpa using a1
   refine uw ?_;exact⟨⟨_,rfl,.inr ⟨k,rfl,hlt,hmk,hA⟩⟩,hB⟩
  refine zn7 ?_;refine x8 (n-(k+1)) oG agA ?_
  exact⟨k+1,by omega,rfl,rfl,hB,fun i hi=>by
    by_cases e:i=k
    ·subst e;simpa using a1
    ·exact hA i oG⟩
 have hke:k=n:=by omega
 subst hke;refine vj ?_;exact⟨⟨_,rfl,.inl ⟨rfl,hA⟩⟩,hB⟩
theorem Qw(a b:Int)(w:World):Calls prog 43 #[.int .i64 a,.int .i64 b] w fun e w'=>e= .returned (flV (a,b))/\Bel w w':=by
 refine enT func43 ntmps43 rfl rfl fun hB=>?_;refine zn2 ?_;refine qW (cs:=#[.int .i64 0,.int .i64 0]) x6 rfl (fun b4 w1 a1 s1 hr=>?_);have lo4:=hB.ob hr;refine zn6 ?_;refine wl (vw (v0:= .int _ _) (v1:= .int _ _) (fun v0 v1=>#[v0,v1]) rfl rfl kR) ?_;refine zZ a1 rfl rfl zj rfl qz (fun w2 hq s2=>?_);replace a1:=hq;refine zn3 ?_;refine xK (.inl rfl) rfl (zW U36 rfl rfl a1.range0 zj) ?_;exact⟨rfl,hB.u⟩
theorem loose_any(A B G:Option Addr)(c d cg:Nat)(l:List Ty)(fs:List Ft)(gr:List Nd)(w:World)(hG:NodesIn w G gr):Calls prog 41 #[.agg #[.slice A l.length c,.slice B fs.length d],.agg #[.slice G gr.length cg]] w fun e w'=>e= .returned (flV (j9 l.length fs.length gr))/\Bel w w':=by
 refine enT func41 ntmps41 rfl rfl fun hB=>?_;refine zn2 ?_;refine xy (v:= .agg #[_,_]) (cs:=#[_,_]) rfl rfl (fun b2 w1 a9 s1 hr=>?_);refine xy (v:= .agg #[_]) (cs:=#[_]) rfl rfl (fun b3 w2 a5 s2 hr=>?_);refine qW (cs:=#[.int .i64 0,.int .i64 0]) x6 rfl (fun b4 w3 a1 s3 hr=>?_);have lo4:=hB.u.ob hr;refine zn4 ?_;replace hB:=hB.tr0 (s1.t (s2.t s3));refine xw (rg [] 10 10) 19 (.bool (decide (gr.length=0\/60<gr.length))) nu ?_ (fun gq=>?_)
 ·refine zn6 ?_;refine zw 14 rfl (fun g14=>?_) (fun g14=>?_)
  ·refine zn5 ?_;refine zJ (e_R ⟨rfl,agA,?_⟩);exact clA
  refine zn9 ?_;refine zJ (e_R ⟨rfl,agA,?_⟩);exact clA
 refine e_S ?_;refine zQ rfl (fun b8=>?_) (fun b8=>?_)
 ·refine zn2 ?_;refine ba kR (Qw _ _ _) rfl (fun w4 s4=>?_);refine zZ a1.u rfl rfl zj rfl qz (fun w5 hq s5=>?_);replace a1:=hq;refine zn4 ?_;refine xK (.inl rfl) rfl (zW U36 rfl rfl a1.range0 zj) ?_;replace hB:=(hB.tr0 s4).tr1 s5 lo4;exact⟨xq (by simp only[j9,if_pos b8]),hB⟩
 have hR:=Lib.hid (show j9 l.length fs.length gr=qQ (Y7 l.length fs.length gr) 0 (gr.length-0) by simp only[j9,if_neg b8,Nat.sub_zero]);refine vj ?_;refine qx (rg [5,6,7,9] 24 61) (fun m g w'=>∃ k:Nat,k<=gr.length/\m=gr.length-k/\g 24= .int .i64 k/\Bel w w'/\Blk w' b2 25 #[.slice A l.length c,.slice B fs.length d]/\Blk w' b3 30 #[.slice G gr.length cg]/\Blk w' b4 36 #[.int .i64 0,.int .i64 0]/\j9 l.length fs.length gr=qQ (Y7 l.length fs.length gr) k (gr.length-k)) (gr.length) ?_ (fun m g4 w6 hI=>?_)
 ·exact⟨0,ag _,rfl,rfl,hB,a9.u,a5.u,a1,hR.out⟩
 obtain⟨k,hk,hm,hk0,hB,a9,a5,a1,an⟩:=hI;refine zX 24 _ hk0 nu (zn6 ?_);refine zQ rfl (fun c25=>?_) (fun c25=>?_)
 ·have a2:k<gr.length:=by omega
  obtain⟨nb,no,LA,lc,rfl,hnb,hnr,hln⟩:=hG.at_ hB a2;have hmx:=hln.1;unfold vJ at hmx;refine zn8 ?_;refine wl (qw U80 rfl rfl hnr o6) ?_;refine qW (cs:=#[.int .i64 0,.slice none 0 0]) DX rfl (fun b6 w7 ac s6 hr=>?_);have:=a9.ob hr;have:=a5.ob hr;have:=a1.ob hr;have lo6:=hB.ob hr;refine waI rfl ?_;refine zZ ac rfl rfl o6 rfl qz (fun w8 hq s7=>?_);replace ac:=hq;refine zn4 ?_;replace hB:=(hB.tr0 s6).tr1 s7 lo6;replace a1:=(a1.tr0 s6).tr1 s7 oG;refine xw (rg [] 29 11) 39 (.bool (decide ((gr[k]'a2).ty<0\/(l.length:Int)<=(gr[k]'a2).ty))) nu ?_ (fun gq=>?_)
  ·refine zn5 ?_;refine zw 32 rfl (fun g32=>?_) (fun g32=>?_)
   ·refine zn7 ?_;refine zJ (e_R ⟨rfl,agA,?_⟩);exact clA
   refine uw ?_;refine zJ (e_R ⟨rfl,agA,?_⟩);exact clA
  refine e_S ?_;refine zQ rfl (fun b7=>?_) (fun b7=>?_)
  ·have ab:=M5 (nf:=fs.length) a2 b7;refine zn3 ?_;refine ba kR (Qw _ _ _) rfl (fun w9 s8=>?_);refine zZ a1.u rfl rfl zj rfl qz (fun w10 hq s9=>?_);replace a1:=hq;refine zn9 ?_;refine xK (.inl rfl) rfl (zW U36 rfl rfl a1.range0 zj) ?_;exact⟨xq (an.trans (x7 (c:=3) oG ab dE)),hB.u⟩
  refine Kz ?_;refine qx (rg [7,9] 45 39) (fun m g w'=>∃(j:Nat) (a4:Int),j<=(gr[k]'a2).ln.length/\m=(gr[k]'a2).ln.length-j/\g 45= .int .i64 j/\g 7= .int .i64 a4/\Bel w w'/\Blk w' b2 25 #[.slice A l.length c,.slice B fs.length d]/\Blk w' b3 30 #[.slice (some ⟨nb,no,none⟩) gr.length cg]/\Blk w' b4 36 #[.int .i64 0,.int .i64 0]/\Blk w' b6 80 #[.int .i64 (gr[k]'a2).ty,.slice LA (gr[k]'a2).ln.length lc]/\Y7 l.length fs.length gr k=yY fs.length gr.length a4 ((gr[k]'a2).ln.drop j)) ((gr[k]'a2).ln.length) ?_ (fun m g10 w11 hI=>?_)
  ·exact⟨0,-1,ag _,rfl,rfl,rfl,hB,a9.u,a5.u,a1,ac,XQ a2 b7⟩
  obtain⟨j,a4,hj,hmj,h45,h7,hB,a9,a5,a1,ac,hP⟩:=hI;refine zX 45 _ h45 nu (zX 7 _ h7 nu (zn6 ?_));refine zQ rfl (fun c46=>?_) (fun c46=>?_)
  ·have a3:j<(gr[k]'a2).ln.length:=by omega
   obtain⟨lb,lof,rfl,hlb,hlr⟩:=hln.at_ hB a3;refine zn7 ?_;refine wl (qw U83 rfl rfl hlr uW) ?_;refine yx (cs:=#[.int .i64 0,.int .i64 0]) K4 rfl (fun _=>rfl) (fun _=>rfl) uW rfl qz (fun b9 w13 hb9 s10 hr=>?_);refine zn4 ?_;replace hB:=hB.tr0 s10;replace a1:=a1.tr0 s10;refine xw (rg [] 49 24) 72 (.bool (decide (((gr[k]'a2).ln[j]'a3).1<0\/(fs.length:Int)<=((gr[k]'a2).ln[j]'a3).1\/((gr[k]'a2).ln[j]'a3).2<0\/(gr.length:Int)<=((gr[k]'a2).ln[j]'a3).2))) nu ?_ (fun gq=>?_)
   ·refine zn5 ?_;refine zw 52 rfl (fun g52=>?_) (fun g52=>?_)
    ·refine zn20 ?_;refine zJ (e_R ⟨rfl,agA,?_⟩);exact clA
    refine ZV ?_;refine zw 60 rfl (fun g60=>?_) (fun g60=>?_)
    ·refine vj ?_;refine zJ (e_R ⟨rfl,agA,?_⟩);exact clA
    refine zn8 ?_;refine zw 65 rfl (fun g65=>?_) (fun g65=>?_)
    ·refine zn7 ?_;refine zJ (e_R ⟨rfl,agA,?_⟩);exact clA
    refine uw ?_;refine zJ (e_R ⟨rfl,agA,?_⟩);exact clA
   refine e_S ?_;refine zQ rfl (fun ao=>?_) (fun ao=>?_)
   ·have ab:=hP.trans (ln_bad a3 (show oz _ _ _ from ao));refine zn3 ?_;refine ba kR (Qw _ _ _) rfl (fun w14 s11=>?_);refine zZ a1.u rfl rfl zj rfl qz (fun w15 hq s12=>?_);replace a1:=hq;refine uw ?_;refine xK (.inl rfl) rfl (zW U36 rfl rfl a1.range0 zj) ?_;exact⟨xq (an.trans (x7 (c:=3) oG ab dE)),hB.u⟩
   refine jq ?_;refine zQ rfl (fun b5=>?_) (fun b5=>?_)
   ·have ab:=hP.trans (ln_ord a3 (show ¬oz _ _ _ from ao) b5);refine zn3 ?_;refine ba kR (Qw _ _ _) rfl (fun w16 s13=>?_);refine zZ a1.u rfl rfl zj rfl qz (fun w17 hq s14=>?_);replace a1:=hq;refine uw ?_;refine xK (.inl rfl) rfl (zW U36 rfl rfl a1.range0 zj) ?_;exact⟨xq (an.trans (x7 (c:=13) oG ab dE)),hB.u⟩
   have hP':=hP.trans (FV a3 (show ¬oz _ _ _ from ao) b5);refine uw ?_;refine x8 ((gr[k]'a2).ln.length-(j+1)) oG agA ?_;exact⟨j+1,_,by omega,rfl,rfl,rfl,hB,a9.u,a5.u,a1,ac.u,hP'⟩
  have b1:=hP.trans (ln_end oG);refine yW ?_;refine x8 (gr.length-(k+1)) oG agA ?_;exact⟨k+1,by omega,rfl,rfl,hB,a9,a5,a1,an.trans (vQ a2 b1)⟩
 refine zn7 ?_;refine wl (gQ (vs:=#[]) (cs:=#[.int .i64 0,.int .i64 0]) (by simp) kR) ?_;refine zZ a1 rfl rfl zj rfl qz (fun w18 hq s15=>?_);replace a1:=hq;refine zn3 ?_;refine xK (.inl rfl) rfl (zW U36 rfl rfl a1.range0 zj) ?_;exact⟨xq (an.trans (jz oG)),hB.u⟩
theorem rloose_any(A B G:Option Addr)(c d cg:Nat)(l:List Ty)(fs:List Ft)(gr:List Nd)(w:World)(hG:NodesIn w G gr):Calls prog 31 #[.agg #[.slice A l.length c,.slice B fs.length d],.agg #[.slice G gr.length cg]] w fun e w'=>e= .returned (flV (j9 l.length fs.length gr))/\Bel w w':=by
 refine enT func31 ntmps31 rfl rfl fun hB=>?_;refine zn2 ?_;refine xy (v:= .agg #[_,_]) (cs:=#[_,_]) rfl rfl (fun b2 w1 a9 s1 hr=>?_);refine xy (v:= .agg #[_]) (cs:=#[_]) rfl rfl (fun b3 w2 a5 s2 hr=>?_);refine qW (cs:=#[.int .i64 0,.int .i64 0]) x6 rfl (fun b4 w3 a1 s3 hr=>?_);have lo4:=hB.u.ob hr;refine zn4 ?_;replace hB:=hB.tr0 (s1.t (s2.t s3));refine xw (rg [] 9 10) 18 (.bool (decide (gr.length=0\/60<gr.length))) nu ?_ (fun gq=>?_)
 ·refine zn6 ?_;refine zw 13 rfl (fun g13=>?_) (fun g13=>?_)
  ·refine zn5 ?_;refine zJ (e_R ⟨rfl,agA,?_⟩);exact clA
  refine zn9 ?_;refine zJ (e_R ⟨rfl,agA,?_⟩);exact clA
 refine e_S ?_;refine zQ rfl (fun be=>?_) (fun be=>?_)
 ·refine zn2 ?_;refine wl (vw (v0:= .int _ _) (v1:= .int _ _) (fun v0 v1=>#[v0,v1]) rfl rfl kR) ?_;refine zZ a1 rfl rfl zj rfl qz (fun w4 hq s4=>?_);replace a1:=hq;refine zn4 ?_;refine xK (.inl rfl) rfl (zW U36 rfl rfl a1.range0 zj) ?_;replace hB:=hB.tr1 s4 lo4;exact⟨xq (by simp only[j9,if_pos be]),hB⟩
 have hR:=Lib.hid (show j9 l.length fs.length gr=qQ (Y7 l.length fs.length gr) 0 (gr.length-0) by simp only[j9,if_neg be,Nat.sub_zero]);refine vj ?_;refine qx (rg [5,6,7,8] 23 70) (fun m g w'=>∃ k:Nat,k<=gr.length/\m=gr.length-k/\g 23= .int .i64 k/\Bel w w'/\Blk w' b2 25 #[.slice A l.length c,.slice B fs.length d]/\Blk w' b3 30 #[.slice G gr.length cg]/\Blk w' b4 36 #[.int .i64 0,.int .i64 0]/\j9 l.length fs.length gr=qQ (Y7 l.length fs.length gr) k (gr.length-k)) (gr.length) ?_ (fun m g4 w5 hI=>?_)
 ·exact⟨0,ag _,rfl,rfl,hB,a9.u,a5.u,a1,hR.out⟩
 obtain⟨k,hk,hm,hk0,hB,a9,a5,a1,ao⟩:=hI;refine zX 23 _ hk0 nu (zn6 ?_);refine zQ rfl (fun c24=>?_) (fun c24=>?_)
 ·have a2:k<gr.length:=by omega
  obtain⟨nb,no,LA,lc,rfl,hnb,hnr,bb⟩:=hG.at_ hB a2;have hmx:=bb.1;unfold vJ at hmx;refine zn8 ?_;refine wl (qw U80 rfl rfl hnr o6) ?_;refine qW (cs:=#[.int .i64 0,.slice none 0 0]) DX rfl (fun b6 w6 ab s5 hr=>?_);have:=a9.ob hr;have:=a5.ob hr;have:=a1.ob hr;have lo6:=hB.ob hr;refine waI rfl ?_;refine zZ ab rfl rfl o6 rfl qz (fun w7 hq s6=>?_);replace ab:=hq;refine zn4 ?_;replace hB:=(hB.tr0 s5).tr1 s6 lo6;replace a1:=(a1.tr0 s5).tr1 s6 oG;refine xw (rg [] 28 11) 38 (.bool (decide ((gr[k]'a2).ty<0\/(l.length:Int)<=(gr[k]'a2).ty))) nu ?_ (fun gq=>?_)
  ·refine zn5 ?_;refine zw 31 rfl (fun g31=>?_) (fun g31=>?_)
   ·refine zn7 ?_;refine zJ (e_R ⟨rfl,agA,?_⟩);exact clA
   refine uw ?_;refine zJ (e_R ⟨rfl,agA,?_⟩);exact clA
  refine e_S ?_;refine zQ rfl (fun bd=>?_) (fun bd=>?_)
  ·have an:=M5 (nf:=fs.length) a2 bd;refine zn3 ?_;refine wl (vw (v0:= .int _ _) (v1:= .int _ _) (fun v0 v1=>#[v0,v1]) rfl rfl kR) ?_;refine zZ a1 rfl rfl zj rfl qz (fun w8 hq s7=>?_);replace a1:=hq;refine zn9 ?_;refine xK (.inl rfl) rfl (zW U36 rfl rfl a1.range0 zj) ?_;exact⟨xq (ao.trans (x7 (c:=3) oG an dE)),hB.u⟩
  refine jq ?_;refine qx (rg [7,8] 44 48) (fun m g w'=>∃(j:Nat) (a3:Int),j<=(gr[k]'a2).ln.length/\m=(gr[k]'a2).ln.length-j/\g 44= .int .i64 j/\Bel w w'/\Blk w' b2 25 #[.slice A l.length c,.slice B fs.length d]/\Blk w' b3 30 #[.slice (some ⟨nb,no,none⟩) gr.length cg]/\Blk w' b4 36 #[.int .i64 0,.int .i64 0]/\Blk w' b6 80 #[.int .i64 (gr[k]'a2).ty,.slice LA (gr[k]'a2).ln.length lc]/\(j=0->a3= -1)/\(∀ h:0<j/\j-1<(gr[k]'a2).ln.length,a3=((gr[k]'a2).ln[j-1]'h.2).1)/\Y7 l.length fs.length gr k=yY fs.length gr.length a3 ((gr[k]'a2).ln.drop j)) ((gr[k]'a2).ln.length) ?_ (fun m g9 w9 hI=>?_)
  ·exact⟨0,-1,ag _,rfl,rfl,hB,a9.u,a5.u,a1,ab,fun _=>rfl,fun h=>by omega,XQ a2 bd⟩
  obtain⟨j,a3,hj,hmj,h44,hB,a9,a5,a1,ab,hl0,hl1,hP⟩:=hI;refine zX 44 _ h44 nu (zn6 ?_);refine zQ rfl (fun c45=>?_) (fun c45=>?_)
  ·have a4:j<(gr[k]'a2).ln.length:=by omega
   have b9:=bb;obtain⟨lb,lof,rfl,hlb,hlr⟩:=bb.at_ hB a4;have hpd:∀ h:j-1<(gr[k]'a2).ln.length,w.rangeAt lb (lof+(j-1)*2) [.int .i64 ((gr[k]'a2).ln[j-1]'h).1,.int .i64 ((gr[k]'a2).ln[j-1]'h).2]:=fun h=>by
     obtain⟨pb,po,he,hpb,hpr⟩:=b9.at_ (Below.refl _ _:Bel w w) h;cases he;exact hpr
   refine zn8 ?_;refine wl (qw U83 rfl rfl hlr uW) ?_;refine qW (cs:=#[.int .i64 0,.int .i64 0]) K4 rfl (fun b8 w10 bc s8 hr=>?_);have:=a9.ob hr;have:=a5.ob hr;have:=a1.ob hr;have:=ab.ob hr;have lo8:=hB.ob hr;refine waI rfl ?_;refine zZ bc rfl rfl uW rfl qz (fun w11 hq s9=>?_);replace bc:=hq;refine zn4 ?_;replace hB:=(hB.tr0 s8).tr1 s9 lo8;replace a1:=(a1.tr0 s8).tr1 s9 oG;refine xw (rg [] 49 24) 72 (.bool (decide (((gr[k]'a2).ln[j]'a4).1<0\/(fs.length:Int)<=((gr[k]'a2).ln[j]'a4).1\/((gr[k]'a2).ln[j]'a4).2<0\/(gr.length:Int)<=((gr[k]'a2).ln[j]'a4).2))) nu ?_ (fun gq=>?_)
   ·refine zn5 ?_;refine zw 52 rfl (fun g52=>?_) (fun g52=>?_)
    ·refine zn20 ?_;refine zJ (e_R ⟨rfl,agA,?_⟩);exact clA
    refine ZV ?_;refine zw 60 rfl (fun g60=>?_) (fun g60=>?_)
    ·refine vj ?_;refine zJ (e_R ⟨rfl,agA,?_⟩);exact clA
    refine zn8 ?_;refine zw 65 rfl (fun g65=>?_) (fun g65=>?_)
    ·refine zn7 ?_;refine zJ (e_R ⟨rfl,agA,?_⟩);exact clA
    refine uw ?_;refine zJ (e_R ⟨rfl,agA,?_⟩);exact clA
   refine e_S ?_;refine zQ rfl (fun b1=>?_) (fun b1=>?_)
   ·have an:=hP.trans (ln_bad a4 (show oz _ _ _ from b1));refine zn3 ?_;refine wl (vw (v0:= .int _ _) (v1:= .int _ _) (fun v0 v1=>#[v0,v1]) rfl rfl kR) ?_;refine zZ a1 rfl rfl zj rfl qz (fun w12 hq s10=>?_);replace a1:=hq;refine uw ?_;refine xK (.inl rfl) rfl (zW U36 rfl rfl a1.range0 zj) ?_;exact⟨xq (ao.trans (x7 (c:=3) oG an dE)),hB.u⟩
   refine zn3 ?_;refine oZ kR kR (fun w13 ac=>?_);refine zn3 ?_;refine kK 77 rfl (fun g77=>?_) (fun g77=>?_)
   ·refine yV 77 rfl rfl (u6 U83 qk dE rfl rfl rfl) (yV 77 rfl rfl (qy (v:= .int _ _) U3 rfl rfl (bc.u.cell rfl)) (yV 77 rfl rfl (u6 U80 BW dE rfl rfl rfl) (yV 77 rfl rfl (qy (v:= .slice _ _ _) U78 rfl rfl (ab.u.cell rfl)) (yV 77 rfl rfl (xz (v:= .int _ _) rfl) (yV 77 rfl rfl (kZ (c:=((j-1:Nat):Int)) rfl rfl oG oG) (yV 77 rfl rfl (x9 (i:=j-1) U78 uW rfl rfl oG rfl) (yV 77 rfl rfl (u6 U83 qk dE rfl rfl rfl) (yV 77 rfl rfl (qy (v:= .int _ _) U3 rfl rfl (hB.u.cell hlb (hpd oG 0 _ rfl))) (yV 77 rfl rfl (r_leq rfl rfl) (zn1 ?_))))))))));refine ux (e_S ?_);refine zQ rfl (fun c88=>?_) (fun c88=>?_)
    ·have an:=hP.trans (ln_ord a4 (show ¬oz _ _ _ from b1) (by have:=hl1 ⟨by omega,by omega⟩;omega));refine zn3 ?_;refine wl (vw (v0:= .int _ _) (v1:= .int _ _) (fun v0 v1=>#[v0,v1]) rfl rfl kR) ?_;refine zZ a1.u rfl rfl zj rfl qz (fun w14 hq s12=>?_);replace a1:=hq;refine vj ?_;refine xK (.inl rfl) rfl (zW U36 rfl rfl a1.range0 zj) ?_;exact⟨xq (ao.trans (x7 (c:=13) oG an dE)),hB.u⟩
    refine zn7 ?_;refine x8 ((gr[k]'a2).ln.length-(j+1)) oG agA ?_;have b7:¬((gr[k]'a2).ln[j]'a4).1<=a3:=fun h=>by
      by_cases e:j=0
      · have:=hl0 e;omega
      · have:=hl1 ⟨by omega,by omega⟩
        omega
    replace a9:=((a9.tr0 s8).tr1 s9 oG).tr0 ac;replace a5:=((a5.tr0 s8).tr1 s9 oG).tr0 ac;replace ab:=((ab.tr0 s8).tr1 s9 oG).tr0 ac;replace hB:=hB.tr0 ac;replace a1:=a1.tr0 ac;exact⟨j+1,((gr[k]'a2).ln[j]'a4).1,by omega,rfl,rfl,hB,a9,a5,a1,ab,fun h=>by omega,fun h=>rfl,hP.trans (FV a4 (show ¬oz _ _ _ from b1) b7)⟩
   refine jq ?_;refine ux (zn9 ?_);refine x8 ((gr[k]'a2).ln.length-(j+1)) oG agA ?_;have b7:¬((gr[k]'a2).ln[j]'a4).1<=a3:=fun h=>by
     by_cases e:j=0
     · have:=hl0 e;omega
     · have:=hl1 ⟨by omega,by omega⟩
       omega
   replace a9:=((a9.tr0 s8).tr1 s9 oG).tr0 ac;replace a5:=((a5.tr0 s8).tr1 s9 oG).tr0 ac;replace ab:=((ab.tr0 s8).tr1 s9 oG).tr0 ac;replace hB:=hB.tr0 ac;replace a1:=a1.tr0 ac;exact⟨j+1,((gr[k]'a2).ln[j]'a4).1,by omega,rfl,rfl,hB,a9,a5,a1,ab,fun h=>by omega,fun h=>rfl,hP.trans (FV a4 (show ¬oz _ _ _ from b1) b7)⟩
  have b5:=hP.trans (ln_end oG);refine yW ?_;refine x8 (gr.length-(k+1)) oG agA ?_;exact⟨k+1,by omega,rfl,rfl,hB,a9,a5,a1,ao.trans (vQ a2 b5)⟩
 refine zn7 ?_;refine wl (gQ (vs:=#[]) (cs:=#[.int .i64 0,.int .i64 0]) (by simp) kR) ?_;refine zZ a1 rfl rfl zj rfl qz (fun w15 hq s13=>?_);replace a1:=hq;refine zn3 ?_;refine xK (.inl rfl) rfl (zW U36 rfl rfl a1.range0 zj) ?_;exact⟨xq (ao.trans (jz oG)),hB.u⟩
end Go.Proofs.YtgcgnkmmbecfmaaGreatDoor
