/- What these functions compute, at every world: slices.Index[[]bool,bool], graph.fault, graph.Loose, ref3.LooseFault; and plain laws. -/
import Derived.Test.YtndbjnkilegebaaGreatDoorHFault
import Derived.Test.YtndbjnkilegebaaGreatDoorU
import Derived.Test.YtndbjnkilegebaaGreatDoorZst
namespace Go.Proofs.YtndbjnkilegebaaGreatDoor
open Go.RowKit Go.Proofs.Tryz
variable {A:Option Addr}{X Y o:List Nat}{a b base bn bs cap i j k lo m n nf nt sz t x:Nat}{a1:Int}{e:TypeId}{f h:Nat->Value}{fs:List Ft}{l:List Ty}{m0 mk:Nat->Bool}{v:Value}{w w' w2:World}{xs:List (Int×Int)}
def capB(l:List Ty)(a b c:Nat):Bool:=sub l a c&&sub l b c
def joinB(l:List Ty)(a b c:Nat):Bool:=capB l a b c&&(List.range l.length).all (fun j=>!(!(decide (j=c))&&sub l j c&&capB l a b j))
def restN(l:List Ty)(a b k:Nat):Nat:=kW (fun i=>capB l a b i&&decide (k<=i)) l.length
structure RestAt(l:List Ty)(a b k i:Nat):Prop where
 lt:i<l.length
 le:k<=i
 cap:capB l a b i=true
 gap:∀ j,k<=j->j<i->joinB l a b j=false
 next:restN l a b k&&&(restN l a b k-1)=restN l a b (i+1)
theorem meet_is(hv:VT l)(h60:l.length<=60)(hm:m<l.length)(a1:jV l a b m=true)(hs:∀ i,i<l.length->jV l a b i=true->sub l i m=true):meet l a b=(m,true,false):=by
 have h0:vK l a b≠0:=fun h=>by
  have:=mask_eq_zero.1 h m hm
  grind
 have hz:=IQ h60 h0;have he:Lib.ctz 64 (vK l a b)=m:=by
  have h1:¬m<Lib.ctz 64 (vK l a b):=fun h=>by
   have:=hz.2.2 m h
   grind
  have h2:=E2 hv (hs _ hz.1 hz.2.1);exact Nat.le_antisymm (Nat.le_of_not_lt h1) h2
 have hd:Q8 l (Lib.ctz 64 (vK l a b))=vK l a b:=by
  rw[he];refine kK (fun i hi=>?_);cases h1:sub l i m with
  | true=>
   simp only[jV,Bool.and_eq_true]at a1;simp[jV,Y7 hv h1 a1.1,Y7 hv h1 a1.2]
  | false=>
   grind
 unfold meet
 grind
theorem Pv(h60:l.length<=60)(h:(meet l a b).2.1=true):(meet l a b).1<l.length/\jV l a b (meet l a b).1=true/\∀ i,i<l.length->jV l a b i=true->sub l i (meet l a b).1=true:=by
 by_cases h0:vK l a b=0
 ·grind[meet]
 by_cases hd:Q8 l (Lib.ctz 64 (vK l a b))≠vK l a b
 ·simp only[meet,if_neg h0,if_pos hd]at h;cases h
 have e:meet l a b=(Lib.ctz 64 (vK l a b),true,false):=by simp only[meet,if_neg h0,if_neg hd]
 have hz:=IQ h60 h0;rw[e];refine⟨hz.1,hz.2.1,fun i hi hc=>?_⟩;have hd':Q8 l (Lib.ctz 64 (vK l a b))=vK l a b:=ak.1 hd;have:=mask_inj.1 hd' i hi
 grind
theorem meet_zero(h:(meet l a b).2.1=false):(meet l a b).1=0:=by
 unfold meet at h ⊢
 grind
theorem H6(_hv:VT l)(h60:l.length<=60)(h:∀ m,m<l.length->jV l a b m=true->∃ i,i<l.length/\jV l a b i=true/\sub l i m=false):(meet l a b).2.1=false/\(meet l a b).1=0:=by
 cases hok:(meet l a b).2.1 with
 | false=>exact⟨rfl,meet_zero hok⟩
 | true=>
  obtain⟨h1,h2,h3⟩:=Pv h60 hok
  grind
theorem meet_comm(l:List Ty)(a b:Nat):meet l b a=meet l a b:=by
 have e:vK l b a=vK l a b:=kK (fun i _=>Bool.and_comm _ _);unfold meet;rw[e]
structure Kv(l:List Ty):Prop where
 vt:VT l
 pos:0<l.length
 le:l.length<=60
 all:∀ a b i,a<l.length->b<l.length->i<l.length->jV l a b i=true->(meet l a b).2.1=true
theorem Q0(h:(qW l fs).1=0):Kv l:=by
 unfold qW at h;by_cases h4:40<fs.length
 ·grind
 rw[if_neg h4]at h;by_cases ht:(xk l).1≠0
 ·grind
 rw[if_neg ht]at h;have ht0:=ak.1 ht;by_cases hu:(Z3 l).1≠0
 ·grind
 have hu0:=ak.1 hu;have hv:=vt_of ht0;have hl:=OJ ht0;have h60:l.length<=60:=by omega
 have hlt:∀ a b,a<b->b<l.length->(meet l a b).2.2=false:=fun a b hab hb=>by
  have h1:=uY hu0 b (ah _) oG
  grind[meet,CQ,h1]
 have a1:∀ a b,a<l.length->b<l.length->(meet l a b).2.2=false:=fun a b ha hb=>by
  rcases Nat.lt_trichotomy a b with h1|h1|h1
  ·grind
  ·subst h1
   have:=meet_is hv h60 (a:=a) (b:=a) ha (by simp[jV,Y8 hv]) (fun i _ hc=>by
    simp only[jV,Bool.and_eq_true]at hc
    exact hc.1)
   rw[this]
  ·grind[meet_comm,h1]
 refine⟨hv,by omega,h60,fun a b i ha hb hi hc=>?_⟩;have h1:=a1 a b ha hb;have h0:vK l a b≠0:=fun h=>by
  have:=mask_eq_zero.1 h i hi
  grind
 by_cases hd:Q8 l (Lib.ctz 64 (vK l a b))≠vK l a b
 ·simp only[meet,if_neg h0,if_pos hd]at h1;cases h1
 ·simp only[meet,if_neg h0,if_neg hd]
theorem GQ(hv:VT l)(h:sub l a b=true)(h2:sub l b a=true):a=b:=Nat.le_antisymm (E2 hv h2) (E2 hv h)
structure Tri(l:List Ty)(a b c m:Nat)(ok:Bool):Prop where
 yes:ok=true->m<l.length/\(sub l m a=true/\sub l m b=true/\sub l m c=true)/\∀ i,i<l.length->sub l i a=true->sub l i b=true->sub l i c=true->sub l i m=true
 no:ok=false->m=0/\∀ i,i<l.length->sub l i a=true->sub l i b=true->sub l i c=true->False
theorem Tri.uniq(hv:VT l){c:Nat}{p q:Bool}(h:Tri l a b c m p)(k:Tri l a b c n q):p=q/\m=n:=by
 cases p with
 | true=>
  obtain⟨h1,⟨h2,h3,h4⟩,h5⟩:=h.yes rfl;cases q with
  | true=>
   obtain⟨k1,⟨k2,k3,k4⟩,k5⟩:=k.yes rfl;exact⟨rfl,GQ hv (k5 m h1 h2 h3 h4) (h5 n k1 k2 k3 k4)⟩
  | false=>exact((k.no rfl).2 m h1 h2 h3 h4).elim
 | false=>
  cases q with
  | true=>
   obtain⟨k1,⟨k2,k3,k4⟩,k5⟩:=k.yes rfl;exact((h.no rfl).2 n k1 k2 k3 k4).elim
  | false=>exact⟨rfl,(h.no rfl).1.trans (k.no rfl).1.symm⟩
def twoF(l:List Ty)(fs:List Ft)(a b:Int):Fl:=
 if (qW l fs).1≠0 then qW l fs else if a<0\/(l.length:Int)<=a then (3,-2)else if b<0\/(l.length:Int)<=b then (3,-3)else (0,0)
structure TwoOk(l:List Ty)(fs:List Ft)(a b:Int):Prop where
 h:(qW l fs).1=0
 s:Kv l
 a0:0<=a
 al:a<l.length
 b0:0<=b
 bl:b<l.length
 z:twoF l fs a b=(0,0)
def hsub(l:List Ty)(fs:List Ft)(a b:Int):Bool:=if (twoF l fs a b).1≠0 then false else sub l a.toNat b.toNat
theorem S7{xs:List Int}(h:Own w base 3 1 A xs.length cap (xs.map (Value.int .i64))):IntsIn w A xs:=
 ⟨h.max,fun hn=>by
  obtain⟨g,e,hb,hg,hc⟩:=h.cell (by simpa using hn)
  refine⟨g,0,e,hg,fun k hk=>?_⟩
  have:=hc k (.int .i64 xs[k]) (by simp[hk])
  simpa using this⟩
theorem EV{xs:List Int}{z:Int}(h:Own w base 3 1 A (xs.length+1) cap (xs.map (Value.int .i64)++[Value.int .i64 z])):Own w base 3 1 A (xs++[z]).length cap ((xs++[z]).map (Value.int .i64)):=by
 grind
theorem DY(A:Option Addr)(cap:Nat)(xs:List Int)(z:Int):Value.slice A (xs.length+1) cap=Value.slice A (xs++[z]).length cap:=by rw[List.length_append];rfl
structure Nd where
 ty:Int
 ln:List (Int×Int)
theorem Vv{a b:Nd}(h1:a.ty=b.ty)(h2:a.ln=b.ln):a=b:=by
 cases a;cases b;simp only at h1 h2;rw[h1,h2]
instance:DecidableEq Nd:=fun a b=>decidable_of_iff (a.ty=b.ty/\a.ln=b.ln) ⟨fun h=>Vv h.1 h.2,fun h=>by rw[h];exact⟨rfl,rfl⟩⟩
def LinksIn(w:World)(A:Option Addr)(xs:List (Int×Int)):Prop:=
 xs.length<=vX/\(xs≠[]->∃ b o,A=some ⟨b,o,none⟩/\b<w.heap.size/\∀ k (h:k<xs.length),w.rangeAt b (o+k*2) [.int .i64 (xs[k]).1,.int .i64 (xs[k]).2])
theorem LinksIn.mono(h:LinksIn w A xs)(hb:Bel w w'):LinksIn w' A xs:=
 ⟨h.1,fun hn=>by
  obtain⟨b,o,e,hl,hc⟩:=h.2 hn
  exact⟨b,o,e,nLL hl hb.size,fun k hk=>hb.range hl (hc k hk)⟩⟩
theorem LinksIn.at_(h:LinksIn w A xs)(hb:Bel w w')(hk:k<xs.length):
  ∃ b o,A=some ⟨b,o,none⟩/\b<w.heap.size/\w'.rangeAt b (o+k*2) [.int .i64 (xs[k]).1,.int .i64 (xs[k]).2]:=by
 obtain⟨b,o,e,hl,hc⟩:=h.2 (by rintro rfl;simp at hk);exact⟨b,o,e,hl,hb.range hl (hc k hk)⟩
def NdIn(w:World)(b o:Nat)(n:Nd):Prop:=∃ A c,w.rangeAt b o [.int .i64 n.ty,.slice A n.ln.length c]/\LinksIn w A n.ln
def NodesIn(w:World)(A:Option Addr)(g:List Nd):Prop:=
 g.length<=vX/\(g≠[]->∃ b o,A=some ⟨b,o,none⟩/\b<w.heap.size/\∀ k (h:k<g.length),NdIn w b (o+k*2) g[k])
theorem NdIn.mono{w w':World}{b o:Nat}{n:Nd}(h:NdIn w b o n)(hb:Bel w w')(hl:b<w.heap.size):NdIn w' b o n:=by
 obtain⟨A,c,h1,h2⟩:=h;exact⟨A,c,hb.range hl h1,h2.mono hb⟩
theorem NodesIn.mono{w w':World}{A:Option Addr}{g:List Nd}(h:NodesIn w A g)(hb:Bel w w'):NodesIn w' A g:=
 ⟨h.1,fun hn=>by
  obtain⟨b,o,e,hl,hc⟩:=h.2 hn
  exact⟨b,o,e,nLL hl hb.size,fun k hk=>(hc k hk).mono hb hl⟩⟩
theorem NodesIn.at_{g:List Nd}(h:NodesIn w A g)(hb:Bel w w')(hk:k<g.length):
  ∃ b o A' c,A=some ⟨b,o,none⟩/\b<w.heap.size/\w'.rangeAt b (o+k*2) [.int .i64 (g[k]).ty,.slice A' (g[k]).ln.length c]/\LinksIn w A' (g[k]).ln:=by
 obtain⟨b,o,e,hl,hc⟩:=h.2 (by rintro rfl;simp at hk);obtain⟨A',c,h1,h2⟩:=hc k hk;exact⟨b,o,A',c,e,hl,hb.range hl h1,h2⟩
def oZ(nf n:Nat)(x:Int×Int):Prop:=x.1<0\/(nf:Int)<=x.1\/x.2<0\/(n:Int)<=x.2
instance(nf n:Nat)(x:Int×Int):Decidable (oZ nf n x):=by unfold oZ;infer_instance
def yJ(nf n:Nat):Int->List (Int×Int)->Int
 | _,[]=>0
 | last,x::xs=>if oZ nf n x then 3 else if x.1<=last then 13 else yJ nf n x.1 xs
def H4(nt nf n:Nat)(x:Nd):Int:=if x.ty<0\/(nt:Int)<=x.ty then 3 else yJ nf n (-1) x.ln
def Yw(nt nf:Nat)(g:List Nd)(i:Nat):Int:=match g[i]? with
 | none=>0
 | some x=>H4 nt nf g.length x
def j9(nt nf:Nat)(g:List Nd):Fl:=if g.length=0\/60<g.length then (2,-2)else yX (Yw nt nf g) 0 g.length
theorem Mx{g:List Nd}(hi:i<g.length)(h:(g[i]).ty<0\/(nt:Int)<=(g[i]).ty):Yw nt nf g i=3:=by
 simp only[Yw,List.getElem?_eq_getElem hi,H4,if_pos h]
theorem XY{g:List Nd}(hi:i<g.length)(h:¬((g[i]).ty<0\/(nt:Int)<=(g[i]).ty)):Yw nt nf g i=yJ nf g.length (-1) ((g[i]).ln.drop 0):=by
 simp only[Yw,List.getElem?_eq_getElem hi,H4,if_neg h,List.drop_zero]
theorem ln_bad(hj:j<xs.length)(h:oZ nf n xs[j]):yJ nf n a1 (xs.drop j)=3:=by
 grind[List.drop_eq_getElem_cons,yJ]
theorem ln_ord(hj:j<xs.length)(h:¬oZ nf n xs[j])(h2:(xs[j]).1<=a1):yJ nf n a1 (xs.drop j)=13:=by
 grind[List.drop_eq_getElem_cons,yJ]
theorem Hx(hj:j<xs.length)(h:¬oZ nf n xs[j])(h2:¬(xs[j]).1<=a1):yJ nf n a1 (xs.drop j)=yJ nf n (xs[j]).1 (xs.drop (j+1)):=by
 grind[List.drop_eq_getElem_cons,yJ]
theorem ln_end(hj:xs.length<=j):yJ nf n a1 (xs.drop j)=0:=by
 rw[List.drop_eq_nil_of_le hj];rfl
theorem Sk{nf n:Nat}:∀ {xs:List (Int×Int)} {a1:Int},yJ nf n a1 xs=0->∀ x∈xs,¬oZ nf n x
 | [],_,_,x,hx=>by cases hx
 | y::ys,a1,h,x,hx=>by
  unfold yJ at h
  by_cases h1:oZ nf n y
  ·grind
  rw[if_neg h1]at h
  by_cases h2:y.1<=a1
  ·omega
  rw[if_neg h2]at h
  rcases av.1 hx with rfl|hx
  ·exact h1
  ·exact Sk h x hx
theorem D7{nf n:Nat}:∀ {xs:List (Int×Int)} {a1:Int},yJ nf n a1 xs=0->-1<=a1->a1<nf->(xs.length:Int)<=nf-1-a1
 | [],a1,_,h1,h2=>by simp only[List.length_nil];omega
 | y::ys,a1,h,h1,h2=>by
  unfold yJ at h
  by_cases h3:oZ nf n y
  ·grind
  rw[if_neg h3]at h
  by_cases h4:y.1<=a1
  ·omega
  rw[if_neg h4]at h
  unfold oZ at h3
  have:=D7 h oG oG
  grind
structure GOk(nt nf:Nat)(g:List Nd):Prop where
 pos:0<g.length
 le:g.length<=60
 ty:∀ i (h:i<g.length),0<=(g[i]).ty/\(g[i]).ty<nt
 ln:∀ i (h:i<g.length),∀ x∈(g[i]).ln,0<=x.1/\x.1<nf/\0<=x.2/\x.2<g.length
 few:∀ i (h:i<g.length),(g[i]).ln.length<=nf
structure Nj(nf:Nat)(g:List Nd):Prop where
 pos:0<g.length
 le:g.length<=1000000
 ln:∀ i (h:i<g.length),∀ x∈(g[i]).ln,0<=x.1/\x.1<nf/\0<=x.2/\x.2<g.length
 few:∀ i (h:i<g.length),(g[i]).ln.length<=nf
theorem GOk.two{g:List Nd}(h:GOk nt nf g):Nj nf g:=⟨h.pos,nLT h.le dE,h.ln,h.few⟩
theorem SX{g:List Nd}(h:(j9 nt nf g).1=0):GOk nt nf g:=by
 unfold j9 at h;by_cases h0:g.length=0\/60<g.length
 ·grind
 rw[if_neg h0]at h;have hi:∀ i (h:i<g.length),¬((g[i]).ty<0\/(nt:Int)<=(g[i]).ty)/\yJ nf g.length (-1) (g[i]).ln=0:=fun i hl=>by
  have h1:=uY h i (ah _) oG
  grind[Mx,hl,h1,XY]
 refine⟨by omega,by omega,fun i hl=>?_,fun i hl x hx=>?_,fun i hl=>?_⟩
 ·grind
 ·have:=Sk (hi i hl).2 x hx
  grind[oZ]
 ·have:=D7 (hi i hl).2 oG oG
  omega
theorem Iw{g:List Nd}(h:(j9 nt nf g).1=0):∀ i (hi:i<g.length),yJ nf g.length (-1) (g[i]).ln=0:=fun i hl=>by
 unfold j9 at h
 by_cases h0:g.length=0\/60<g.length
 ·grind
 rw[if_neg h0]at h
 have h1:=uY h i (ah _) oG
 grind[Mx,hl,h1,XY]
theorem YJ{f:Nat->Int}:∀ {m i:Nat},(∀ j,i<=j->j<i+m->f j=0)->yX f i m=(0,0)
 | 0,_,_=>rfl
 | m+1,i,h=>by
  unfold yX
  rw[if_neg (fun e=>e (h i (Nat.le_refl _) oG))]
  exact YJ (fun j h1 h2=>h j oG oG)
theorem Fq{f:Nat->Int}:∀ {m i:Nat},(yX f i m).1=0->yX f i m=(0,0)
 | 0,_,_=>rfl
 | m+1,i,h=>by
  unfold yX at h ⊢
  by_cases h3:f i≠0
  ·grind
  ·rw[if_neg h3]at h ⊢;exact Fq h
def PV(fs:List Ft)(z:Int):Ft:=fs.getD z.toNat ⟨⟨#[]⟩,0,0⟩
def Pk(g:List Nd)(z:Int):Nd:=g.getD z.toNat ⟨0,[]⟩
def Py(l:List Ty)(fs:List Ft)(g:List Nd)(t:Int)(x:Int×Int):Bool:=
 !(sub l t.toNat (PV fs x.1).of.toNat) || !(sub l (Pk g x.2).ty.toNat (PV fs x.1).val.toNat)
def tyN(l:List Ty)(fs:List Ft)(g:List Nd)(i:Nat):Int:=match g[i]? with
 | none=>0
 | some x=>if x.ln.any (Py l fs g x.ty)then 12 else 0
def tyF(l:List Ty)(fs:List Ft)(g:List Nd):Fl:=yX (tyN l fs g) 0 g.length
theorem tyN_yes{g:List Nd}(hi:i<g.length)(hj:j<(g[i]).ln.length)(h:Py l fs g (g[i]).ty (g[i]).ln[j]=true):tyN l fs g i=12:=by
 simp only[tyN,List.getElem?_eq_getElem hi]
 grind
theorem FV{g:List Nd}(hi:i<g.length)(h:∀ j (hj:j<(g[i]).ln.length),Py l fs g (g[i]).ty (g[i]).ln[j]=false):tyN l fs g i=0:=by
 simp only[tyN,List.getElem?_eq_getElem hi]
 grind[List.getElem_of_mem]
inductive Rch(g:List Nd):Nat->Prop
 | zero:Rch g 0
 | step {i:Nat} {x:Int×Int} (h:Rch g i) (hi:i<g.length) (hx:x∈(g[i]).ln):Rch g x.2.toNat
def CL(g:List Nd)(mk:Nat->Bool):Prop:=∀ i (hi:i<g.length),mk i=true->∀ x∈(g[i]).ln,mk x.2.toNat=true
def Only(g:List Nd)(mk:Nat->Bool):Prop:=∀ i,mk i=true->Rch g i
theorem reach_cl{g:List Nd}(h0:mk 0=true)(hc:CL g mk)(h:Rch g i):mk i=true:=by
 induction h with
 | zero=>exact h0
 | step h hi hx ih=>exact hc _ hi ih _ hx
def UnrIs(g:List Nd)(r:Int):Prop:=(r= -1/\∀ i,i<g.length->Rch g i)\/∃ k:Nat,r=k/\k<g.length/\¬Rch g k/\∀ i,i<k->Rch g i
theorem UnrIs.uniq{g:List Nd}{r s:Int}(h:UnrIs g r)(k:UnrIs g s):r=s:=by
 rcases h with ⟨h1,h2⟩|⟨a,h1,h2,h3,h4⟩<;>rcases k with ⟨k1,k2⟩|⟨b,k1,k2,k3,k4⟩
 ·omega
 ·grind
 ·grind
 ·grind
noncomputable def KV(g:List Nd):Int:=@Classical.epsilon Int ⟨0⟩ (UnrIs g)
theorem OX{g:List Nd}{r:Int}(h:UnrIs g r):r=KV g:=h.uniq (@Classical.epsilon_spec Int (UnrIs g) ⟨r,h⟩)
structure AllM(g:List Nd)(mk:Nat->Bool):Prop where
 zero:mk 0=true
 only:Only g mk
 cl:CL g mk
theorem AllM.no{g:List Nd}(h:AllM g mk)(hk:k<g.length)(hm:mk k=false)(hb:∀ i,i<k->mk i=true):((k:Nat):Int)=KV g:=
 OX (.inr ⟨k,rfl,hk,fun hr=>absurd ((reach_cl h.zero h.cl hr).symm.trans hm) (by simp),fun i hi=>h.only i (hb i hi)⟩)
theorem AllM.yes{g:List Nd}(h:AllM g mk)(hb:∀ i,i<g.length->mk i=true):(-1:Int)=KV g:=
 OX (.inl ⟨rfl,fun i hi=>h.only i (hb i hi)⟩)
def Z7(mk:Nat->Bool)(j:Nat)(x:Nat):Bool:=if x=j then true else mk x
theorem M6(mk:Nat->Bool)(j:Nat):Z7 mk j j=true:=by simp[Z7]
theorem oq(h:mk x=true):Z7 mk j x=true:=by
 unfold Z7;split
 ·rfl
 ·exact h
theorem Zv(h:Z7 mk j x=true):x=j\/mk x=true:=by
 grind[Z7]
def ux(n:Nat)(mk:Nat->Bool):Nat:=(List.range n).countP (fun i=>!mk i)
theorem C7(n:Nat)(mk:Nat->Bool):ux n mk<=n:=by
 grind[List.countP_le_length,mk,List.range,ux]
theorem lack_set(hj:j<n)(h:mk j=false):ux n (Z7 mk j)<ux n mk:=
 QJ (fun x hx=>by
  cases hm:mk x with
  | false=>rfl
  | true=>
   have:=oq (j:=j) hm
   simp[this]at hx) (List.range n) j (az.2 hj) (by simp[h]) (by simp[M6])
structure DS(g:List Nd)(mk:Nat->Bool)(st:List Int)(i k:Nat):Prop where
 zero:mk 0=true
 only:Only g mk
 stk:∀ s∈st,∃ n:Nat,s=(n:Int)/\n<g.length/\mk n=true
 cl:∀ j (hj:j<g.length),mk j=true->j≠i->(j:Int)∈st\/∀ x∈(g[j]).ln,mk x.2.toNat=true
 me:∀(hi:i<g.length),mk i=true/\∀ x∈(g[i]).ln.take k,mk x.2.toNat=true
theorem DS.start{g:List Nd}(h:0<g.length):DS g (Z7 (fun _=>false) 0) [0] g.length 0:=
 ⟨by simp[Z7],fun i hi=>by
  rcases Zv hi with rfl|h
  ·exact .zero
  ·exact absurd h aQ,fun s hs=>by
  obtain rfl:=ar.1 hs
  exact⟨0,rfl,h,by simp[Z7]⟩,fun j hj hm _=>by
  rcases Zv hm with rfl|h
  ·exact .inl (by simp)
  ·exact absurd h aQ,fun hi=>absurd hi (aG _)⟩
theorem DS.pop{g:List Nd}{st:List Int}{z:Int}(h:DS g mk (st++[z]) g.length 0):∃ n:Nat,z=(n:Int)/\n<g.length/\DS g mk st n 0:=by
 obtain⟨n,rfl,hn,hm⟩:=h.stk z (by simp);refine⟨n,rfl,hn,h.zero,h.only,fun s hs=>h.stk s (by simp[hs]),fun j hj hmj hne=>?_,fun hi=>⟨hm,fun x hx=>by simp at hx⟩⟩;rcases h.cl j hj hmj oG with h1|h1
 ·grind
 ·exact .inr h1
theorem DS.old{g:List Nd}{st:List Int}(h:DS g mk st i k)(hi:i<g.length)(hk:k<(g[i]).ln.length)(hm:mk ((g[i]).ln[k]).2.toNat=true):DS g mk st i (k+1):=
 ⟨h.zero,h.only,h.stk,h.cl,fun _=>⟨(h.me hi).1,fun x hx=>by
  rw[List.take_succ_eq_append_getElem hk]at hx
  rcases aD.1 hx with hx|hx
  ·exact(h.me hi).2 x hx
  ·rw[List.mem_singleton.1 hx];exact hm⟩⟩
theorem DS.new{g:List Nd}{st:List Int}(h:DS g mk st i k)(hi:i<g.length)(hk:k<(g[i]).ln.length)(ht:((g[i]).ln[k]).2=(t:Int))(htl:t<g.length):DS g (Z7 mk t) (st++[(t:Int)]) i (k+1):=
 ⟨oq h.zero,fun j hj=>by
  rcases Zv hj with rfl|hj
  ·have:=Rch.step (h.only i (h.me hi).1) hi (aq hk)
   rw[ht]at this;simpa using this
  ·exact h.only j hj,fun s hs=>by
  rcases aD.1 hs with hs|hs
  ·obtain⟨n,h1,h2,h3⟩:=h.stk s hs
   exact⟨n,h1,h2,oq h3⟩
  ·exact⟨t,ar.1 hs,htl,M6 _ _⟩,fun j hj hm hne=>by
  rcases Zv hm with rfl|hm
  ·exact .inl (by simp)
  ·rcases h.cl j hj hm hne with h1|h1
   ·exact .inl (by simp[h1])
   ·exact .inr (fun x hx=>oq (h1 x hx)),fun _=>⟨oq (h.me hi).1,fun x hx=>by
  rw[List.take_succ_eq_append_getElem hk]at hx
  rcases aD.1 hx with hx|hx
  ·exact oq ((h.me hi).2 x hx)
  ·rw[List.mem_singleton.1 hx,ht];simp[M6]⟩⟩
theorem DS.done{g:List Nd}{st:List Int}(h:DS g mk st i k)(hi:i<g.length)(hk:k=(g[i]).ln.length):DS g mk st g.length 0:=
 ⟨h.zero,h.only,h.stk,fun j hj hm _=>by
  by_cases e:j=i
  ·subst e
   have h1:=(h.me hj).2
   grind
  ·exact h.cl j hj hm e,fun hi=>absurd hi (aG _)⟩
theorem DS.end_{g:List Nd}(h:DS g mk [] g.length 0):AllM g mk:=
 ⟨h.zero,h.only,fun i hi hm x hx=>by
  rcases h.cl i hi hm oG with h1|h1
  ·cases h1
  ·exact h1 x hx⟩
def cntN(n:Nat)(mk:Nat->Bool):Nat:=(List.range n).countP mk
theorem cnt_le(n:Nat)(mk:Nat->Bool):cntN n mk<=n:=by
 grind[List.countP_le_length,mk,List.range,cntN]
structure PS(g:List Nd)(mk:Nat->Bool)(p:Nat):Prop where
 zero:mk 0=true
 only:Only g mk
 far:CL g mk\/p+1<=cntN g.length mk
structure PP(g:List Nd)(m0 mk:Nat->Bool)(i k:Nat):Prop where
 zero:mk 0=true
 only:Only g mk
 sup:∀ j,m0 j=true->mk j=true
 same:CL g m0->∀ j,mk j=true->m0 j=true
 done:∀ j (hj:j<g.length),j<i->m0 j=true->∀ x∈(g[j]).ln,mk x.2.toNat=true
 me:∀(hi:i<g.length),m0 i=true->∀ x∈(g[i]).ln.take k,mk x.2.toNat=true
theorem PS.start{g:List Nd}(h:0<g.length):PS g (Z7 (fun _=>false) 0) 0:=
 ⟨by simp[Z7],fun i hi=>by
  rcases Zv hi with rfl|h
  ·exact .zero
  ·exact absurd h aQ,.inr (by
  have:0<cntN g.length (Z7 (fun _=>false) 0):=List.countP_pos_iff.2 ⟨0,az.2 h,by simp[Z7]⟩
  omega)⟩
theorem PP.start{g:List Nd}{p:Nat}(h:PS g mk p):PP g mk mk 0 0:=
 ⟨h.zero,h.only,fun _ h=>h,fun _ _ h=>h,fun j _ hj=>by omega,fun _ _ x hx=>by simp at hx⟩
theorem PP.skip{g:List Nd}(h:PP g m0 mk i k)(hm:mk i=false):PP g m0 mk i (k+1):=
 ⟨h.zero,h.only,h.sup,h.same,h.done,fun _ h0=>absurd ((h.sup i h0).symm.trans hm) (by simp)⟩
theorem PP.mark{g:List Nd}(h:PP g m0 mk i k)(hi:i<g.length)(hk:k<(g[i]).ln.length)(ht:((g[i]).ln[k]).2=(t:Int))(hm:mk i=true):PP g m0 (Z7 mk t) i (k+1):=
 ⟨oq h.zero,fun j hj=>by
  rcases Zv hj with rfl|hj
  ·have:=Rch.step (h.only i hm) hi (aq hk)
   grind
  ·exact h.only j hj,fun j hj=>oq (h.sup j hj),fun hc j hj=>by
  rcases Zv hj with rfl|hj
  ·have:=hc i hi (h.same hc i hm) _ (aq hk)
   grind
  ·exact h.same hc j hj,fun j hj hji h0 x hx=>oq (h.done j hj hji h0 x hx),fun _ h0 x hx=>by
  rw[List.take_succ_eq_append_getElem hk]at hx
  rcases aD.1 hx with hx|hx
  ·exact oq (h.me hi h0 x hx)
  ·rw[List.mem_singleton.1 hx,ht];simp[M6]⟩
theorem PP.next{g:List Nd}(h:PP g m0 mk i k)(hi:i<g.length)(hk:k=(g[i]).ln.length):PP g m0 mk (i+1) 0:=
 ⟨h.zero,h.only,h.sup,h.same,fun j hj hji h0 x hx=>by
  by_cases e:j=i
  ·subst e
   have:=h.me hj h0
   grind
  ·exact h.done j hj oG h0 x hx,fun _ _ x hx=>by simp at hx⟩
theorem PP.end_{g:List Nd}(hr:∀ i (hi:i<g.length),∀ x∈(g[i]).ln,x.2.toNat<g.length){p:Nat}(h0:PS g m0 p)(h:PP g m0 mk g.length 0):PS g mk (p+1):=by
 refine⟨h.zero,h.only,?_⟩;have hcl:CL g m0->CL g mk:=fun hc i hi hm x hx=>h.sup _ (hc i hi (h.same hc i hm) x hx)
 by_cases hc:CL g m0
 ·exact .inl (hcl hc)
 ·right
  rcases h0.far with h1|h1
  ·exact absurd h1 hc
  ·have hex:∃ i,∃ hi:i<g.length,m0 i=true/\∃ x,x∈(g[i]).ln/\m0 x.2.toNat=false:=aK (fun hn=>hc (fun i hi hm x hx=>by
    cases hv:m0 x.2.toNat with
    | true=>rfl
    | false=>exact absurd ⟨i,hi,hm,x,hx,hv⟩ hn))
   obtain⟨i,hi,hm,x,hx,hv⟩:=hex;have a1:=h.done i hi hi hm x hx;have hl:=hr i hi x hx;have:cntN g.length m0<cntN g.length mk:=QJ h.sup (List.range g.length) _ (az.2 hl) a1 hv;omega
theorem PS.end_{g:List Nd}(h:PS g mk g.length):AllM g mk:=
 ⟨h.zero,h.only,by
  rcases h.far with h1|h1
  ·exact h1
  ·have:=cnt_le g.length mk
   omega⟩
theorem snoc_of{st:List Int}(h:0<st.length):∃ s z,st=s++[z]:=by
 rcases List.eq_nil_or_concat st with rfl|⟨s,z,rfl⟩
 ·cases h
 ·grind
theorem By:row n (fun x=>if x=j then Value.bool true else .bool (mk x))=row n (fun x=> .bool (Z7 mk j x)):=
 xy (fun x _=>by by_cases e:x=j<;>simp[Z7,e])
theorem gok_rng{g:List Nd}(h:GOk nt nf g):∀ i (hi:i<g.length),∀ x∈(g[i]).ln,x.2.toNat<g.length:=fun i hi x hx=>by
 have:=h.ln i hi x hx;omega
structure FOk(nt:Nat)(fs:List Ft):Prop where
 at_:∀ i (h:i<fs.length),0<=(fs[i]).of/\(fs[i]).of<nt/\0<=(fs[i]).val/\(fs[i]).val<nt
theorem SK(h:(qW l fs).1=0):FOk l.length fs:=by
 unfold qW at h;by_cases h4:40<fs.length
 ·grind
 rw[if_neg h4]at h;by_cases ht:(xk l).1≠0
 ·grind
 rw[if_neg ht]at h;by_cases hu:(Z3 l).1≠0
 ·grind
 rw[if_neg hu]at h;refine⟨fun i hi=>?_⟩;have h1:=uY h i (ah _) oG
 grind[vY,ft10,h1,seen,ft7,F7,ft3]
theorem lnTy_at{g:List Nd}{t:Int}{x:Int×Int}{fi ti yn on vn zn:Nat}(h1:x.1=(fi:Int))(hfi:fi<fs.length)(h2:x.2=(ti:Int))(hti:ti<g.length)(ht:t=(yn:Int))(ho:(fs[fi]).of=(on:Int))(hv:(fs[fi]).val=(vn:Int))(hz:(g[ti]).ty=(zn:Int)):
  Py l fs g t x=(!sub l yn on || !sub l zn vn):=by
 unfold Py PV Pk;rw[h1,h2,ht];have e1:fs.getD (fi:Int).toNat ⟨⟨#[]⟩,0,0⟩=fs[fi]:=by simp[List.getD,hfi]
 have e2:g.getD (ti:Int).toNat ⟨0,[]⟩=g[ti]:=by simp[List.getD,hti]
 rw[e1,e2,ho,hv,hz];simp
noncomputable def y9(l:List Ty)(fs:List Ft)(g:List Nd):Fl:=
 if (j9 l.length fs.length g).1≠0 then j9 l.length fs.length g else if (tyF l fs g).1≠0 then tyF l fs g else if 0<=KV g then (5,KV g)else (0,0)
theorem Ny{g:List Nd}(h:¬(j9 l.length fs.length g).1=0):y9 l fs g=((j9 l.length fs.length g).1,(j9 l.length fs.length g).2):=by unfold y9;rw[if_pos h]
theorem wi_ty{g:List Nd}{k:Int}(h:(j9 l.length fs.length g).1=0)(ht:tyF l fs g=(12,k)):y9 l fs g=(12,k):=by
 grind[y9]
theorem wi_unr{g:List Nd}(h:(j9 l.length fs.length g).1=0)(ht:tyF l fs g=(0,0))(hu:0<=KV g):y9 l fs g=(5,KV g):=by
 grind[y9]
theorem IY{g:List Nd}(h:(j9 l.length fs.length g).1=0)(ht:tyF l fs g=(0,0))(hu:¬0<=KV g):y9 l fs g=(0,0):=by
 grind[y9]
noncomputable def gj(l:List Ty)(fs:List Ft)(g:List Nd):Fl:=if (qW l fs).1≠0 then qW l fs else y9 l fs g
theorem gf_hier{g:List Nd}(h:¬(qW l fs).1=0):gj l fs g=((qW l fs).1,(qW l fs).2):=by unfold gj;rw[if_pos h]
theorem gf_in{g:List Nd}(h:(qW l fs).1=0):gj l fs g=((y9 l fs g).1,(y9 l fs g).2):=by unfold gj;rw[if_neg (fun e=>e h)]
def nd(g:List Nd)(i:Nat):Nd:=g.getD i ⟨0,[]⟩
theorem yK{g:List Nd}(hi:i<g.length):nd g i=g[i]:=by simp[nd,List.getD,hi]
def vQ(g:List Nd)(i:Nat):List Nat:=(nd g i).ln.map (fun x=>x.2.toNat)
inductive DL(g:List Nd):List Nat->List Nat->List Nat->Prop
 | nil {o:List Nat}:DL g [] o o
 | old {i:Nat} {is o o':List Nat} (h:i∈o) (t:DL g is o o'):DL g (i::is) o o'
 | new {i:Nat} {is o o1 o':List Nat} (h:¬i∈o) (s:DL g (vQ g i) (o++[i]) o1) (t:DL g is o1 o'):DL g (i::is) o o'
theorem DL.det{g:List Nd}{is a:List Nat}(h:DL g is o a):∀ {b:List Nat},DL g is o b->a=b:=by
 induction h with
 | nil=>intro b k;cases k;rfl
 | old h t ih=>
  intro b k;cases k with
  | old h' t'=>exact ih t'
  | new h' s' t'=>exact absurd h h'
 | new h s t ihs iht=>
  intro b k;cases k with
  | old h' t'=>exact absurd h' h
  | new h' s' t'=>
   grind
theorem DL.append{g:List Nd}{xs a b:List Nat}(h:DL g xs a b):∀ {ys c:List Nat},DL g ys b c->DL g (xs++ys) a c:=by
 induction h with
 | nil=>intro ys c k;exact k
 | old h t ih=>intro ys c k;exact .old h (ih k)
 | new h s t ihs iht=>intro ys c k;exact .new h s (iht k)
def Xy(o:List Nat)(x:Nat):Bool:=decide (x∈o)
structure OOk(n:Nat)(o:List Nat):Prop where
 lt:∀ x∈o,x<n
 cnt:o.length+ux n (Xy o)<=n
theorem OOk.nil(n:Nat):OOk n []:=⟨fun x hx=>by simp at hx,by have:=C7 n (Xy []);simpa using this⟩
theorem Mk(hi:i<n)(h:¬i∈o):ux n (Xy (o++[i]))<ux n (Xy o):=
 QJ (fun x hx=>by
  simp only[Xy,Bool.not_eq_true',decide_eq_false_iff_not,List.mem_append,not_or]at hx ⊢
  exact hx.1) (List.range n) i (az.2 hi) (by simp[Xy,h]) (by simp[Xy])
theorem F4(n:Nat)(o s:List Nat):ux n (Xy (o++s))<=ux n (Xy o):=
 List.countP_mono_left (fun x _ hx=>by
  simp only[Xy,Bool.not_eq_true',decide_eq_false_iff_not,List.mem_append,not_or]at hx ⊢
  exact hx.1)
theorem OOk.snoc{n i:Nat}{o:List Nat}(h:OOk n o)(hi:i<n)(hn:¬i∈o):OOk n (o++[i]):=
 ⟨fun x hx=>by
  rcases aD.1 hx with hx|hx
  ·exact h.lt x hx
  ·rw[List.mem_singleton.1 hx];exact hi,by
  have h1:=Mk hi hn
  have h2:=h.cnt
  simp only[List.length_append,List.length_cons,List.length_nil]
  omega⟩
theorem DL.ok{g:List Nd}(hr:∀ i,i<g.length->∀ t∈vQ g i,t<g.length){is o':List Nat}(h:DL g is o o'):(∀ i∈is,i<g.length)->OOk g.length o->OOk g.length o'/\∃ s,o'=o++s:=by
 induction h with
 | nil=>intro _ k;exact⟨k,[],by simp⟩
 | old h t ih=>intro hi k;exact ih (fun i h=>hi i (aw _ h)) k
 | new h s t ihs iht=>
  intro hi k;have hlt:=hi _ (aE ..);obtain⟨h1,s1,e1⟩:=ihs (hr _ hlt) (k.snoc hlt h)
  grind
theorem M2{g:List Nd}(h:Nj nf g):∀ i,i<g.length->∀ t∈vQ g i,t<g.length:=fun i hi t ht=>by
 simp only[vQ,yK hi,List.mem_map]at ht
 obtain⟨x,hx,rfl⟩:=ht
 have:=h.ln i hi x hx
 omega
theorem CV{g:List Nd}(hi:i<g.length)(hj:j<(g[i]).ln.length)(ht:((g[i]).ln[j]).2=(t:Int)):(vQ g i).take (j+1)=(vQ g i).take j++[t]:=by
 grind[hl,vQ,yK,List.take_succ_eq_append_getElem]
def kJ(o:List Nat)(x:Nat):Int:=if x∈o then (o.idxOf x:Nat)else -1
theorem numO_nil(x:Nat):kJ [] x= -1:=by simp[kJ]
theorem numO_neg(h:¬0<=kJ o x):¬x∈o:=fun hx=>h (by simp only[kJ,if_pos hx];omega)
theorem numO_pos(h:0<=kJ o x):x∈o:=by
 grind[kJ]
theorem numO_snoc(h:¬i∈o)(x:Nat):(if x=i then ((o.length:Nat):Int)else kJ o x)=kJ (o++[i]) x:=by
 grind[kJ]
theorem row_num(h:¬i∈o):row n (fun x=>if x=i then Value.int .i64 ((o.length:Nat):Int)else .int .i64 (kJ o x))=row n (fun x=> .int .i64 (kJ (o++[i]) x)):=
 xy (fun x _=>by rw[<- numO_snoc h];split<;>rfl)
def oV(o:List Nat):List Value:=o.map (fun(n:Nat)=>Value.int .i64 (n:Int))
theorem own_oV(h:Own w base 3 1 A (o.length+1) cap (oV o++[Value.int .i64 (i:Int)])):Own w base 3 1 A (o++[i]).length cap (oV (o++[i])):=by
 grind[oV,List.length_append]
theorem sl_oV(A:Option Addr)(cap:Nat)(o:List Nat)(i:Nat):Value.slice A (o.length+1) cap=Value.slice A (o++[i]).length cap:=by rw[List.length_append];rfl
structure Chg(base:Nat)(X:List Nat)(w w':World):Prop where
 os:w'.os=w.os
 tape:w'.tape=w.tape
 output:w'.output=w.output
 size:w.heap.size<=w'.heap.size
 blk:∀ k,k<base->¬k∈X->w'.heap[k]? =w.heap[k]?
theorem Chg.refl(base:Nat)(X:List Nat)(w:World):Chg base X w w:=⟨rfl,rfl,rfl,ai _,fun _ _ _=>rfl⟩
theorem Chg.trans{base:Nat}{X:List Nat}{a b c:World}(h:Chg base X a b)(k:Chg base X b c):Chg base X a c:=
 ⟨k.os.trans h.os,k.tape.trans h.tape,k.output.trans h.output,nLT h.size k.size,fun i hi hx=>(k.blk i hi hx).trans (h.blk i hi hx)⟩
theorem Chg.st{a b c:World}(h:Chg base X a b)(k:Same Y b c)(hb:base<=b.heap.size)(hy:∀ g∈Y,g∈X\/base<=g):Chg base X a c:=
 h.trans ⟨k.os,k.tape,k.output,k.size,fun i hi hx=>k.blk i (nLL hi hb) (fun hm=>by
  rcases hy i hm with h1|h1
  ·exact hx h1
  ·omega)⟩
theorem xV{a b c:World}(h:Chg base X a b/\base<=b.heap.size)(k:Same Y b c)(hy:∀ g∈Y,g∈X\/base<=g:=by first|(simp;done)|(intro g hg;have h1:=ar.1 hg;first|(left;rw[h1];simp;done)|(right;omega))|(intro g hg;exact .inr (by have:=(Own.lt (by assumption) g hg).1;omega))):Chg base X a c/\base<=c.heap.size:=⟨h.1.st k h.2 hy,nLT h.2 (Same.size k)⟩
theorem Blk.chg{cs:Array Value}(h:Blk w b t cs)(hc:Chg base X w w')(hb:b<base)(hx:¬b∈X):Blk w' b t cs:=(hc.blk b hb hx).trans h
theorem Bel.chg{w0:World}(h:Bel w0 w)(hc:Chg base X w w')(hb:w0.heap.size<=base)(hx:∀ g∈X,w0.heap.size<=g):Bel w0 w':=
 ⟨hc.os.trans h.os,hc.tape.trans h.tape,hc.output.trans h.output,nLT h.size hc.size,fun k hk=>(hc.blk k (nLL hk hb) (fun hm=>by have:=hx k hm;omega)).trans (h.block k hk)⟩
def kz(m:Nat)(f h:Nat->Value):Array Value:=Array.ofFn (n:=m*2) (fun i=>if i.val%2=0 then f (i.val/2)else h (i.val/2))
theorem u5(m:Nat)(f h:Nat->Value):(kz m f h).size=m*2:=by simp[kz]
theorem XK(hi:i<m):(kz m f h)[0+i*2+0]? =some (f i):=by
 have e1:0+i*2+0=i*2:=by omega
 have e2:i*2<m*2:=by omega
 rw[e1];simp[kz,e2]
theorem ZQ(hi:i<m):(kz m f h)[0+i*2+1]? =some (h i):=by
 have e1:0+i*2+1=i*2+1:=by omega
 have e2:i*2+1<m*2:=by omega
 have e3:(i*2+1)%2=1:=by omega
 have e4:(i*2+1)/2=i:=by omega
 rw[e1];simp[kz,e2,e3,e4]
theorem J0:(kz m f h).setIfInBounds (0+i*2+0) v=kz m (fun j=>if j=i then v else f j) h:=by
 apply Array.ext
 ·simp[kz]
 ·grind[h1,kz,Array.getElem_ofFn]
theorem M8:(kz m f h).setIfInBounds (0+i*2+1) v=kz m f (fun j=>if j=i then v else h j):=by
 apply Array.ext
 ·simp[kz]
 ·grind[h1,kz,Array.getElem_ofFn]
theorem oY{f' h':Nat->Value}(hf:∀ j,j<m->f j=f' j)(hh:∀ j,j<m->h j=h' j):kz m f h=kz m f' h':=by
 grind[Array.ext,kz,h1,Array.getElem_ofFn]
theorem M9(m:Nat)(a b:Value):madeCells #[a,b] (m*2)=kz m (fun _=>a) (fun _=>b):=by
 apply Array.ext
 ·simp[kz,madeCells]
 ·intro k h1 h2
  simp only[kz,madeCells,Array.getElem_ofFn,Array.getElem_map,Array.getElem_range]
  grind
def YV(o:List Nat)(x:Int×Int):Int×Int:=(x.1,kJ o x.2.toNat)
def TY(g:List Nd)(o:List Nat)(i:Nat):Nd:=⟨(nd g i).ty,(nd g i).ln.map (YV o)⟩
def yq(g:List Nd)(o:List Nat):List Nd:=o.map (TY g o)
def lnV(xs:List (Int×Int)):List Value:=xs.flatMap (fun x=>[Value.int .i64 x.1,Value.int .i64 x.2])
theorem O3(xs:List (Int×Int))(x:Int×Int):lnV xs++[Value.int .i64 x.1,Value.int .i64 x.2]=lnV (xs++[x]):=by simp[lnV]
theorem V9:∀(xs:List (Int×Int)) (k:Nat) (hk:k<xs.length),(lnV xs)[k*2]? =some (Value.int .i64 (xs[k]).1)/\(lnV xs)[k*2+1]? =some (Value.int .i64 (xs[k]).2)
 | [],k,hk=>by simp at hk
 | x::xs,0,_=>by simp[lnV]
 | x::xs,k+1,hk=>by
  have h:=V9 xs k (by simpa using hk)
  grind[lnV]
theorem Pq(h:Own w base 84 2 A xs.length cap (lnV xs)):LinksIn w A xs:=
 ⟨h.max,fun hn=>by
  have hne:lnV xs≠[]:=by
   cases xs with
   | nil=>exact absurd rfl hn
   | cons x r=>simp[lnV]
  obtain⟨g,e,hb,hg,hc⟩:=h.cell hne;refine⟨g,0,e,hg,fun k hk j v hj=>?_⟩;have h2:=V9 xs k hk
  match j,hj with
  | 0,hj=>cases hj;have:=hc _ _ h2.1;simpa using this
  | 1,hj=>cases hj;have:=hc _ _ h2.2;simpa using this
  | _+2,hj=>cases hj⟩
structure FrSame(B:Nat)(w w2:World):Prop where
 size:w.heap.size<=w2.heap.size
 blk:∀ k,B<=k->k<w.heap.size->w2.heap[k]? =w.heap[k]?
theorem FrSame.of{B:Nat}{w0:World}(h:FrSame B w0 w)(hs:Same X w w')(hx:∀ g∈X,g<B\/w0.heap.size<=g):FrSame B w0 w':=
 ⟨nLT h.size hs.size,fun k hk hk2=>by
  rw[hs.blk k (nLL hk2 h.size) (fun hm=>by have:=hx k hm;omega)]
  exact h.blk k hk hk2⟩
theorem FrSame.refl(B:Nat)(w:World):FrSame B w w:=⟨ai _,fun _ _ _=>rfl⟩
theorem FrSame.at_{B:Nat}{cs:Array Value}(h:FrSame B w w2)(hb:Blk w b t cs)(hl:B<=b):Blk w2 b t cs:=(h.blk b hl hb.lt).trans hb
def RowO(w:World)(lo bs:Nat)(v:Value)(xs:List (Int×Int)):Prop:=∃ A c,v= .slice A xs.length c/\Own w lo 84 2 A xs.length c (lnV xs)/\∀ g∈aL A,g<bs
theorem Own.typ{xs:List Value}(h:Own w base e sz A k cap xs):∀ g∈aL A,∃ cs,Blk w g e cs:=fun g hg=>by
 rcases h.2 with ⟨hn,_⟩|⟨g',c,cur,hv,hb,hgg,r⟩
 ·cases hn;cases hg
 ·cases hv
  simp only[aL,List.mem_singleton]at hg
  subst hg;exact⟨cur,hgg⟩
theorem Own.typ9{xs:List Value}(h:Own w base e sz A k cap xs)(ht:e≠t):∀ g∈aL A,∃ cs u,Blk w g u cs/\u≠t:=fun g hg=>by
 obtain⟨cs,k⟩:=h.typ g hg
 exact⟨cs,_,k,ht⟩
theorem RowO.tr{w w':World}{lo bs:Nat}{v:Value}{xs:List (Int×Int)}{X:List Nat}(h:RowO w lo bs v xs)(hs:Same X w w')(hx:∀ g∈X,bs<=g\/∃ cs t,Blk w g t cs/\t≠84):RowO w' lo bs v xs:=by
 obtain⟨A,c,h1,h2,h3⟩:=h;refine⟨A,c,h1,h2.tr hs (fun g hg hm=>?_),h3⟩;rcases hx g hm with h4|⟨cs,t,h4,h5⟩
 ·have:=h3 g hg;omega
 ·obtain⟨cs2,h6⟩:=h2.typ g hg
  exact h5 (jz h4 h6)
theorem RowO.c(h:RowO w lo bs v xs)(hs:Same X w w')(hx:∀ g∈X,bs<=g\/∃ cs t,Blk w g t cs/\t≠84:=by first|(simp;done)|(intro g hg;rw[List.mem_singleton.1 hg];first|exact .inr ⟨_,_,by assumption,by decide⟩|exact .inl oG)|(intro g hg;first|exact .inl (by have:=(Own.lt (by assumption) g hg).1;omega)|exact .inr (Own.typ9 (by assumption) dE g hg))):RowO w' lo bs v xs:=h.tr hs hx
theorem zY{V:Nat->Value}{L:Nat->List (Int×Int)}(h:∀ x,x<n->RowO w lo bs (V x) (L x))(hs:Same X w w')(hx:∀ g∈X,bs<=g\/∃ cs t,Blk w g t cs/\t≠84:=by first|(simp;done)|(intro g hg;rw[List.mem_singleton.1 hg];first|exact .inr ⟨_,_,by assumption,by decide⟩|exact .inl oG)|(intro g hg;first|exact .inl (by have:=(Own.lt (by assumption) g hg).1;omega)|exact .inr (Own.typ9 (by assumption) dE g hg))):∀ x,x<n->RowO w' lo bs (V x) (L x):=fun x k=>(h x k).tr hs hx
theorem RowO.up{bs':Nat}(h:RowO w lo bs v xs)(hb:bs<=bs'):RowO w lo bs' v xs:=by
 obtain⟨A,c,h1,h2,h3⟩:=h;exact⟨A,c,h1,h2,fun g hg=>nLL (h3 g hg) hb⟩
theorem RowO.of(hl:lo<=base)(h:Own w base 84 2 A xs.length cap (lnV xs)):RowO w lo w.heap.size (.slice A xs.length cap) xs:=⟨A,cap,rfl,h.low hl,fun g hg=>(h.lt g hg).2⟩
theorem RowO.fr(h:RowO w lo bs v xs)(hf:FrSame lo w w2):RowO w2 lo bs v xs:=by
 obtain⟨A,c,h1,h2,h3⟩:=h;refine⟨A,c,h1,⟨h2.1,?_⟩,h3⟩;rcases h2.2 with hn|⟨g,c,cur,hv,hb,hg,r⟩
 ·exact .inl hn
 ·exact .inr ⟨g,c,cur,hv,hb,(hf.blk g hb (uj hg)).trans hg,r⟩
theorem nodes_row2{gr:List Nd}(hb:Blk w b t (kz m f h))(hm:gr.length=m)(hmx:m<=vX)(hf:∀ k (hk:k<gr.length),f k= .int .i64 (gr[k]).ty)(hh:∀ k (hk:k<gr.length),RowO w lo bs (h k) (gr[k]).ln):NodesIn w (some ⟨b,0,none⟩) gr:=
 ⟨by rw[hm];exact hmx,fun _=>⟨b,0,rfl,hb.lt,fun k hk=>by
  obtain⟨A,c,h1,h2,_⟩:=hh k hk
  refine⟨A,c,hb.range (fun j v hj=>?_),Pq h2⟩
  match j,hj with
  | 0,hj=>cases hj;rw[<- hf k hk];exact XK oG
  | 1,hj=>cases hj;rw[<- h1];exact ZQ oG
  | _+2,hj=>cases hj⟩⟩
def OrdF(w:World)(bn bd:Nat)(A:Option Addr)(o:List Nat):Prop:=
 (o= []/\A=none)\/(o≠[]/\∃ b,A=some ⟨b,0,none⟩/\b≠bn/\b<bd/\b<w.heap.size/\∀ k (hk:k<o.length),w.cell? ⟨b,0+k,none⟩=some (.int .i64 (o[k]:Nat)))
theorem OrdF.nil(w:World)(bn bd:Nat):OrdF w bn bd none []:= .inl ⟨rfl,rfl⟩
theorem OrdF.tr{bd:Nat}(h:OrdF w bn bd A o)(hs:Same X w w')(hx:∀ g∈X,g=bn\/bd<=g):OrdF w' bn bd A o:=by
 rcases h with h|⟨h1,b,h2,h3,h4,h5,h6⟩
 ·exact .inl h
 ·refine .inr ⟨h1,b,h2,h3,h4,nLL h5 hs.size,fun k hk=>?_⟩
  rw[World.cell?_of_block (hs.blk b h5 (fun hm=>by rcases hx b hm with h|h<;>omega))];exact h6 k hk
theorem OrdF.up{bd bd':Nat}(h:OrdF w bn bd A o)(hb:bd<=bd'):OrdF w bn bd' A o:=by
 rcases h with h|⟨h1,b,h2,h3,h4,h5,h6⟩
 ·exact .inl h
 ·exact .inr ⟨h1,b,h2,h3,nLL h4 hb,h5,h6⟩
theorem ord_own{g:Nat}(h:Own w base 3 1 (some ⟨g,0,none⟩) (o.length+1) cap (oV o++[Value.int .i64 (i:Int)]))(hb:bn<base):OrdF w bn w.heap.size (some ⟨g,0,none⟩) (o++[i]):=by
 have h1:=own_oV h;obtain⟨g',e,hg1,hg2,hc⟩:=h1.cell (by simp[oV]);cases e;refine .inr ⟨by simp,g,rfl,by omega,hg2,hg2,fun k hk=>?_⟩
 have:=hc k (.int .i64 ((o++[i])[k]:Nat)) (by
  unfold oV
  rw[List.getElem?_map,List.getElem?_eq_getElem hk];rfl)
 simpa using this
theorem Same.freshL{w1:World}(h:Same X w w1)(hs:Same Y w1 w2)(hb:∀ g∈Y,g∈X\/w.heap.size<=g):Same X w w2:=
 ⟨hs.os.trans h.os,hs.tape.trans h.tape,hs.output.trans h.output,nLT h.size hs.size,fun k hk hx=>(hs.blk k (nLL hk h.size) (fun hm=>by
  rcases hb k hm with h1|h1
  ·exact hx h1
  ·omega)).trans (h.blk k hk hx)⟩
def ndV(f h:Nat->Value)(k:Nat):List Value:=(List.range k).flatMap (fun x=>[f x,h x])
theorem X4(f h:Nat->Value)(k:Nat):ndV f h (k+1)=ndV f h k++[f k,h k]:=by simp[ndV,List.range_succ,List.flatMap_append]
theorem gW{f f' h h':Nat->Value}:∀ {k:Nat},(∀ x,x<k->f x=f' x)->(∀ x,x<k->h x=h' x)->ndV f h k=ndV f' h' k
 | 0,_,_=>rfl
 | k+1,h1,h2=>by rw[X4,X4,gW (fun x hx=>h1 x oG) (fun x hx=>h2 x oG),h1 k oG,h2 k oG]
theorem K3(f h:Nat->Value):∀ k,(ndV f h k).length=k*2
 | 0=>rfl
 | k+1=>by rw[X4,List.length_append,K3 f h k];simp only[List.length_cons,List.length_nil];omega
theorem QV(f h:Nat->Value):∀ {k x:Nat},x<k->(ndV f h k)[x*2]? =some (f x)/\(ndV f h k)[x*2+1]? =some (h x)
 | 0,_,hx=>by omega
 | k+1,x,hx=>by
  have hl:=K3 f h k
  rw[X4]
  by_cases e:x<k
  ·have ih:=QV f h e
   grind
  ·grind
theorem Own.fr{xs:List Value}(h:Own w base e sz A k cap xs)(hl:lo<=base)(hf:FrSame lo w w2):Own w2 base e sz A k cap xs:=by
 refine⟨h.1,?_⟩;rcases h.2 with hn|⟨g,c,cur,hv,hb,hg,r⟩
 ·exact .inl hn
 ·exact .inr ⟨g,c,cur,hv,hb,(hf.blk g (nLT hl hb) (uj hg)).trans hg,r⟩
theorem Pj{gr:List Nd}(ho:Own w base 87 2 A m cap (ndV f h m))(hm:gr.length=m)(hf:∀ k (hk:k<gr.length),f k= .int .i64 (gr[k]).ty)(hh:∀ k (hk:k<gr.length),RowO w lo bs (h k) (gr[k]).ln):NodesIn w A gr:=
 ⟨by rw[hm];exact ho.max,fun hn=>by
  have hne:ndV f h m≠[]:=fun h0=>by
   have h1:=K3 f h m
   rw[h0]at h1
   exact hn (aM.1 (by simp only[List.length_nil]at h1;omega))
  obtain⟨g,e,hb,hg,hc⟩:=ho.cell hne
  refine⟨g,0,e,hg,fun k hk=>?_⟩
  obtain⟨A',c,h1,h2,_⟩:=hh k hk
  have h3:=QV f h (show k<m by omega)
  refine⟨A',c,fun j v hj=>?_,Pq h2⟩
  match j,hj with
  | 0,hj=>cases hj;rw[<- hf k hk];have:=hc _ _ h3.1;simpa using this
  | 1,hj=>cases hj;rw[<- h1];have:=hc _ _ h3.2;simpa using this
  | _+2,hj=>cases hj⟩
theorem sz26:(prog.info? 26).map (·.size)=some 1:=by kernel_rfl
theorem qq:(prog.info? 3).map (·.size)=some 1:=by kernel_rfl
theorem j8:(prog.info? 4).map (·.size)=some 1:=by kernel_rfl
theorem zK:(prog.info? 45).map (·.size)=some 2:=by kernel_rfl
theorem gQ:(prog.info? 84).map (·.size)=some 2:=by kernel_rfl
theorem Tz:(prog.info? 85).map (·.size)=some 1:=by kernel_rfl
theorem ZW:(prog.info? 87).map (·.size)=some 2:=by kernel_rfl
theorem qV:(prog.info? 45).map (·.zero)=some (some (.agg #[.int .i64 0,.int .i64 0])):=by kernel_rfl
theorem Vq:(prog.info? 84).map (·.zero)=some (some (.agg #[.int .i64 0,.int .i64 0])):=by kernel_rfl
theorem Dk:(prog.info? 87).map (·.zero)=some (some (.agg #[.int .i64 0,.slice none 0 0])):=by kernel_rfl
theorem F5(b n:Nat)(mk:Nat->Bool)(w:World)(hb:Blk w b 4 (row n (fun x=> .bool (mk x))))(hn:n<=1000):Calls prog 89 #[.slice (some ⟨b,0,none⟩) n n,.bool false] w fun e w'=>(∃ r,e= .returned (.int .i64 r)/\((r= -1/\∀ i,i<n->mk i=true)\/∃ k:Nat,r=k/\k<n/\mk k=false/\∀ i,i<k->mk i=true))/\Bel w w':=by
 refine enT func89 ntmps89 rfl rfl fun hB=>?_;refine QY ?_;refine qz (rg [4,5] 8 11) (fun m g w'=>∃ k:Nat,k<=n/\m=n-k/\g 8= .int .i64 k/\Bel w w'/\∀ i,i<k->mk i=true) (n) ?_ (fun m g2 w1 hI=>?_)
 ·exact⟨0,ah _,rfl,rfl,hB,fun i hi=>by omega⟩
 obtain⟨k,hk,hm,h8,hB,hA⟩:=hI;refine zQ 8 _ h8 nu (zn6 ?_);refine zZ rfl (fun c9=>?_) (fun c9=>?_)
 ·have hlt:k<n:=by omega
  refine Jq ?_;refine wl (qj (v:= .bool _) U4 rfl rfl ((hb.bel hB).cell (j5 hlt))) (wl (r_eqlB U4 rfl rfl) (qY (e_S ?_)));refine jv rfl (fun a1=>?_) (fun a1=>?_)
  ·have hmk:mk k=false:=by simpa using a1
   refine uJ ?_;exact⟨⟨_,rfl,.inr ⟨k,rfl,hlt,hmk,hA⟩⟩,hB⟩
  refine zn7 ?_;refine x9 (n-(k+1)) oG agA ?_
  exact⟨k+1,by omega,rfl,rfl,hB,fun i hi=>by
    by_cases e:i=k
    ·subst e;simpa using a1
    ·exact hA i oG⟩
 have hke:k=n:=by omega
 subst hke;refine yZ ?_;exact⟨⟨_,rfl,.inl ⟨rfl,hA⟩⟩,hB⟩
theorem QX(a b:Int)(w:World):Calls prog 73 #[.int .i64 a,.int .i64 b] w fun e w'=>e= .returned (flV (a,b))/\Bel w w':=by
 refine enT func73 ntmps73 rfl rfl fun hB=>?_;refine zn2 ?_;refine qQ (cs:=#[.int .i64 0,.int .i64 0]) qV rfl (fun b4 w1 a1 s1 hr=>?_);have lo4:=hB.ob hr;refine zn6 ?_;refine vy ?_;refine zV a1 (fun w2 hq s2=>?_);replace a1:=hq;refine zn3 ?_;refine xK (.inl rfl) rfl (zX U45 rfl rfl a1.range0 zK) ?_;exact⟨rfl,hB.u⟩
theorem loose_any(A B G:Option Addr)(c d cg:Nat)(l:List Ty)(fs:List Ft)(gr:List Nd)(w:World)(hG:NodesIn w G gr):Calls prog 71 #[.agg #[.slice A l.length c,.slice B fs.length d],.agg #[.slice G gr.length cg]] w fun e w'=>e= .returned (flV (j9 l.length fs.length gr))/\Bel w w':=by
 refine enT func71 ntmps71 rfl rfl fun hB=>?_;refine zn2 ?_;refine qv (cs:=#[_,_]) rfl (fun b2 w1 a8 s1 hr=>?_);refine qv (cs:=#[_]) rfl (fun b3 w2 a5 s2 hr=>?_);refine qQ (cs:=#[.int .i64 0,.int .i64 0]) qV rfl (fun b4 w3 a1 s3 hr=>?_);have lo4:=hB.u.ob hr;refine zn4 ?_;replace hB:=hB.tr0 (s1.t (s2.t s3));refine xj (rg [] 10 10) 19 (.bool (decide (gr.length=0\/60<gr.length))) nu ?_ (fun gq=>?_)
 ·refine zn6 ?_;refine zk 14 rfl (fun g14=>?_) (fun g14=>?_)
  ·refine zn5 ?_;exact xq
  refine zn9 ?_;exact xq
 refine e_S ?_;refine zZ rfl (fun b5=>?_) (fun b5=>?_)
 ·refine zn2 ?_;refine a7 kR (QX _ _ _) rfl (fun w4 s4=>?_);refine zV a1.u (fun w5 hq s5=>?_);replace a1:=hq;refine zn4 ?_;refine xK (.inl rfl) rfl (zX U45 rfl rfl a1.range0 zK) ?_;replace hB:=(hB.tr0 s4).tr1 s5 lo4;exact⟨xX (by simp only[j9,if_pos b5]),hB⟩
 have hR:=Lib.hid (show j9 l.length fs.length gr=yX (Yw l.length fs.length gr) 0 (gr.length-0) by simp only[j9,if_neg b5,Nat.sub_zero]);refine yZ ?_;refine qz (rg [5,6,7,9] 24 61) (fun m g w'=>∃ k:Nat,k<=gr.length/\m=gr.length-k/\g 24= .int .i64 k/\Bel w w'/\Blk w' b2 25 #[.slice A l.length c,.slice B fs.length d]/\Blk w' b3 28 #[.slice G gr.length cg]/\Blk w' b4 45 #[.int .i64 0,.int .i64 0]/\j9 l.length fs.length gr=yX (Yw l.length fs.length gr) k (gr.length-k)) (gr.length) ?_ (fun m g4 w6 hI=>?_)
 ·exact⟨0,ah _,rfl,rfl,hB,a8.u,a5.u,a1,hR.out⟩
 obtain⟨k,hk,hm,hk0,hB,a8,a5,a1,ac⟩:=hI;refine zQ 24 _ hk0 nu (zn6 ?_);refine zZ rfl (fun c25=>?_) (fun c25=>?_)
 ·have a2:k<gr.length:=by omega
  obtain⟨nb,no,LA,lc,rfl,hnb,hnr,hln⟩:=hG.at_ hB a2;have hmx:=hln.1;unfold vX at hmx;refine zn8 ?_;refine wl (qw U87 rfl rfl hnr ZW) ?_;refine qQ (cs:=#[.int .i64 0,.slice none 0 0]) Dk rfl (fun b6 w7 ab s6 hr=>?_);have:=a8.ob hr;have:=a5.ob hr;have:=a1.ob hr;have lo6:=hB.ob hr;refine waI rfl ?_;refine zV ab (fun w8 hq s7=>?_);replace ab:=hq;refine zn4 ?_;replace hB:=(hB.tr0 s6).tr1 s7 lo6;replace a1:=(a1.tr0 s6).tr1 s7 oG;refine xj (rg [] 29 11) 39 (.bool (decide ((gr[k]'a2).ty<0\/(l.length:Int)<=(gr[k]'a2).ty))) nu ?_ (fun gq=>?_)
  ·refine zn5 ?_;refine zk 32 rfl (fun g32=>?_) (fun g32=>?_)
   ·refine zn7 ?_;exact xq
   refine uJ ?_;exact xq
  refine e_S ?_;refine zZ rfl (fun b1=>?_) (fun b1=>?_)
  ·have a9:=Mx (nf:=fs.length) a2 b1;refine zn3 ?_;refine a7 kR (QX _ _ _) rfl (fun w9 s8=>?_);refine zV a1.u (fun w10 hq s9=>?_);replace a1:=hq;refine zn9 ?_;refine xK (.inl rfl) rfl (zX U45 rfl rfl a1.range0 zK) ?_;exact⟨xX (ac.trans (xZ (c:=3) oG a9 dE)),hB.u⟩
  refine Jq ?_;refine qz (rg [7,9] 45 39) (fun m g w'=>∃(j:Nat) (a4:Int),j<=(gr[k]'a2).ln.length/\m=(gr[k]'a2).ln.length-j/\g 45= .int .i64 j/\g 7= .int .i64 a4/\Bel w w'/\Blk w' b2 25 #[.slice A l.length c,.slice B fs.length d]/\Blk w' b3 28 #[.slice (some ⟨nb,no,none⟩) gr.length cg]/\Blk w' b4 45 #[.int .i64 0,.int .i64 0]/\Blk w' b6 87 #[.int .i64 (gr[k]'a2).ty,.slice LA (gr[k]'a2).ln.length lc]/\Yw l.length fs.length gr k=yJ fs.length gr.length a4 ((gr[k]'a2).ln.drop j)) ((gr[k]'a2).ln.length) ?_ (fun m g10 w11 hI=>?_)
  ·exact⟨0,-1,ah _,rfl,rfl,rfl,hB,a8.u,a5.u,a1,ab,XY a2 b1⟩
  obtain⟨j,a4,hj,hmj,h45,h7,hB,a8,a5,a1,ab,hP⟩:=hI;refine zQ 45 _ h45 nu (zQ 7 _ h7 nu (zn6 ?_));refine zZ rfl (fun c46=>?_) (fun c46=>?_)
  ·have a3:j<(gr[k]'a2).ln.length:=by omega
   obtain⟨lb,lof,rfl,hlb,hlr⟩:=hln.at_ hB a3;refine zn7 ?_;refine wl (qw U84 rfl rfl hlr gQ) ?_;refine y8 (cs:=#[.int .i64 0,.int .i64 0]) Vq rfl (fun _=>rfl) (fun _=>rfl) gQ rfl xW (fun b9 w13 hb9 s10 hr=>?_);refine zn4 ?_;replace hB:=hB.tr0 s10;replace a1:=a1.tr0 s10;refine xj (rg [] 49 24) 72 (.bool (decide (((gr[k]'a2).ln[j]'a3).1<0\/(fs.length:Int)<=((gr[k]'a2).ln[j]'a3).1\/((gr[k]'a2).ln[j]'a3).2<0\/(gr.length:Int)<=((gr[k]'a2).ln[j]'a3).2))) nu ?_ (fun gq=>?_)
   ·refine zn5 ?_;refine zk 52 rfl (fun g52=>?_) (fun g52=>?_)
    ·refine zn20 ?_;exact xq
    refine QY ?_;refine zk 60 rfl (fun g60=>?_) (fun g60=>?_)
    ·refine yZ ?_;exact xq
    refine zn8 ?_;refine zk 65 rfl (fun g65=>?_) (fun g65=>?_)
    ·refine zn7 ?_;exact xq
    refine uJ ?_;exact xq
   refine e_S ?_;refine zZ rfl (fun ad=>?_) (fun ad=>?_)
   ·have a9:=hP.trans (ln_bad a3 (show oZ _ _ _ from ad));refine zn3 ?_;refine a7 kR (QX _ _ _) rfl (fun w14 s11=>?_);refine zV a1.u (fun w15 hq s12=>?_);replace a1:=hq;refine uJ ?_;refine xK (.inl rfl) rfl (zX U45 rfl rfl a1.range0 zK) ?_;exact⟨xX (ac.trans (xZ (c:=3) oG a9 dE)),hB.u⟩
   refine vJ ?_;refine zZ rfl (fun ao=>?_) (fun ao=>?_)
   ·have a9:=hP.trans (ln_ord a3 (show ¬oZ _ _ _ from ad) ao);refine zn3 ?_;refine a7 kR (QX _ _ _) rfl (fun w16 s13=>?_);refine zV a1.u (fun w17 hq s14=>?_);replace a1:=hq;refine uJ ?_;refine xK (.inl rfl) rfl (zX U45 rfl rfl a1.range0 zK) ?_;exact⟨xX (ac.trans (xZ (c:=13) oG a9 dE)),hB.u⟩
   have hP':=hP.trans (Hx a3 (show ¬oZ _ _ _ from ad) ao);refine uJ ?_;refine x9 ((gr[k]'a2).ln.length-(j+1)) oG agA ?_;exact⟨j+1,_,by omega,rfl,rfl,rfl,hB,a8.u,a5.u,a1,ab.u,hP'⟩
  have an:=hP.trans (ln_end oG);refine yj ?_;refine x9 (gr.length-(k+1)) oG agA ?_;exact⟨k+1,by omega,rfl,rfl,hB,a8,a5,a1,ac.trans (kZ a2 an)⟩
 refine zn7 ?_;refine jW (cs:=#[.int .i64 0,.int .i64 0]) ?_;refine zV a1 (fun w18 hq s15=>?_);replace a1:=hq;refine zn3 ?_;refine xK (.inl rfl) rfl (zX U45 rfl rfl a1.range0 zK) ?_;exact⟨xX (ac.trans (uk oG)),hB.u⟩
theorem rloose_any(A B G:Option Addr)(c d cg:Nat)(l:List Ty)(fs:List Ft)(gr:List Nd)(w:World)(hG:NodesIn w G gr):Calls prog 55 #[.agg #[.slice A l.length c,.slice B fs.length d],.agg #[.slice G gr.length cg]] w fun e w'=>e= .returned (flV (j9 l.length fs.length gr))/\Bel w w':=by
 refine enT func55 ntmps55 rfl rfl fun hB=>?_;refine zn2 ?_;refine qv (cs:=#[_,_]) rfl (fun b2 w1 a8 s1 hr=>?_);refine qv (cs:=#[_]) rfl (fun b3 w2 a5 s2 hr=>?_);refine qQ (cs:=#[.int .i64 0,.int .i64 0]) qV rfl (fun b4 w3 a1 s3 hr=>?_);have lo4:=hB.u.ob hr;refine zn4 ?_;replace hB:=hB.tr0 (s1.t (s2.t s3));refine xj (rg [] 9 10) 18 (.bool (decide (gr.length=0\/60<gr.length))) nu ?_ (fun gq=>?_)
 ·refine zn6 ?_;refine zk 13 rfl (fun g13=>?_) (fun g13=>?_)
  ·refine zn5 ?_;exact xq
  refine zn9 ?_;exact xq
 refine e_S ?_;refine zZ rfl (fun bb=>?_) (fun bb=>?_)
 ·refine zn2 ?_;refine vy ?_;refine zV a1 (fun w4 hq s4=>?_);replace a1:=hq;refine zn4 ?_;refine xK (.inl rfl) rfl (zX U45 rfl rfl a1.range0 zK) ?_;replace hB:=hB.tr1 s4 lo4;exact⟨xX (by simp only[j9,if_pos bb]),hB⟩
 have hR:=Lib.hid (show j9 l.length fs.length gr=yX (Yw l.length fs.length gr) 0 (gr.length-0) by simp only[j9,if_neg bb,Nat.sub_zero]);refine yZ ?_;refine qz (rg [5,6,7,8] 23 70) (fun m g w'=>∃ k:Nat,k<=gr.length/\m=gr.length-k/\g 23= .int .i64 k/\Bel w w'/\Blk w' b2 25 #[.slice A l.length c,.slice B fs.length d]/\Blk w' b3 28 #[.slice G gr.length cg]/\Blk w' b4 45 #[.int .i64 0,.int .i64 0]/\j9 l.length fs.length gr=yX (Yw l.length fs.length gr) k (gr.length-k)) (gr.length) ?_ (fun m g4 w5 hI=>?_)
 ·exact⟨0,ah _,rfl,rfl,hB,a8.u,a5.u,a1,hR.out⟩
 obtain⟨k,hk,hm,hk0,hB,a8,a5,a1,ad⟩:=hI;refine zQ 23 _ hk0 nu (zn6 ?_);refine zZ rfl (fun c24=>?_) (fun c24=>?_)
 ·have a2:k<gr.length:=by omega
  obtain⟨nb,no,LA,lc,rfl,hnb,hnr,b7⟩:=hG.at_ hB a2;have hmx:=b7.1;unfold vX at hmx;refine zn8 ?_;refine wl (qw U87 rfl rfl hnr ZW) ?_;refine qQ (cs:=#[.int .i64 0,.slice none 0 0]) Dk rfl (fun b6 w6 a9 s5 hr=>?_);have:=a8.ob hr;have:=a5.ob hr;have:=a1.ob hr;have lo6:=hB.ob hr;refine waI rfl ?_;refine zV a9 (fun w7 hq s6=>?_);replace a9:=hq;refine zn4 ?_;replace hB:=(hB.tr0 s5).tr1 s6 lo6;replace a1:=(a1.tr0 s5).tr1 s6 oG;refine xj (rg [] 28 11) 38 (.bool (decide ((gr[k]'a2).ty<0\/(l.length:Int)<=(gr[k]'a2).ty))) nu ?_ (fun gq=>?_)
  ·refine zn5 ?_;refine zk 31 rfl (fun g31=>?_) (fun g31=>?_)
   ·refine zn7 ?_;exact xq
   refine uJ ?_;exact xq
  refine e_S ?_;refine zZ rfl (fun ba=>?_) (fun ba=>?_)
  ·have ac:=Mx (nf:=fs.length) a2 ba;refine zn3 ?_;refine vy ?_;refine zV a1 (fun w8 hq s7=>?_);replace a1:=hq;refine zn9 ?_;refine xK (.inl rfl) rfl (zX U45 rfl rfl a1.range0 zK) ?_;exact⟨xX (ad.trans (xZ (c:=3) oG ac dE)),hB.u⟩
  refine vJ ?_;refine qz (rg [7,8] 44 48) (fun m g w'=>∃(j:Nat) (a3:Int),j<=(gr[k]'a2).ln.length/\m=(gr[k]'a2).ln.length-j/\g 44= .int .i64 j/\Bel w w'/\Blk w' b2 25 #[.slice A l.length c,.slice B fs.length d]/\Blk w' b3 28 #[.slice (some ⟨nb,no,none⟩) gr.length cg]/\Blk w' b4 45 #[.int .i64 0,.int .i64 0]/\Blk w' b6 87 #[.int .i64 (gr[k]'a2).ty,.slice LA (gr[k]'a2).ln.length lc]/\(j=0->a3= -1)/\(∀ h:0<j/\j-1<(gr[k]'a2).ln.length,a3=((gr[k]'a2).ln[j-1]'h.2).1)/\Yw l.length fs.length gr k=yJ fs.length gr.length a3 ((gr[k]'a2).ln.drop j)) ((gr[k]'a2).ln.length) ?_ (fun m g9 w9 hI=>?_)
  ·exact⟨0,-1,ah _,rfl,rfl,hB,a8.u,a5.u,a1,a9,fun _=>rfl,fun h=>by omega,XY a2 ba⟩
  obtain⟨j,a3,hj,hmj,h44,hB,a8,a5,a1,a9,hl0,hl1,hP⟩:=hI;refine zQ 44 _ h44 nu (zn6 ?_);refine zZ rfl (fun c45=>?_) (fun c45=>?_)
  ·have a4:j<(gr[k]'a2).ln.length:=by omega
   have b5:=b7;obtain⟨lb,lof,rfl,hlb,hlr⟩:=b7.at_ hB a4;have hpd:∀ h:j-1<(gr[k]'a2).ln.length,w.rangeAt lb (lof+(j-1)*2) [.int .i64 ((gr[k]'a2).ln[j-1]'h).1,.int .i64 ((gr[k]'a2).ln[j-1]'h).2]:=fun h=>by
     obtain⟨pb,po,he,hpb,hpr⟩:=b5.at_ (Below.refl _ _:Bel w w) h;cases he;exact hpr
   refine zn8 ?_;refine wl (qw U84 rfl rfl hlr gQ) ?_;refine qQ (cs:=#[.int .i64 0,.int .i64 0]) Vq rfl (fun b8 w10 b9 s8 hr=>?_);have:=a8.ob hr;have:=a5.ob hr;have:=a1.ob hr;have:=a9.ob hr;have lo8:=hB.ob hr;refine waI rfl ?_;refine zV b9 (fun w11 hq s9=>?_);replace b9:=hq;refine zn4 ?_;replace hB:=(hB.tr0 s8).tr1 s9 lo8;replace a1:=(a1.tr0 s8).tr1 s9 oG;refine xj (rg [] 49 24) 72 (.bool (decide (((gr[k]'a2).ln[j]'a4).1<0\/(fs.length:Int)<=((gr[k]'a2).ln[j]'a4).1\/((gr[k]'a2).ln[j]'a4).2<0\/(gr.length:Int)<=((gr[k]'a2).ln[j]'a4).2))) nu ?_ (fun gq=>?_)
   ·refine zn5 ?_;refine zk 52 rfl (fun g52=>?_) (fun g52=>?_)
    ·refine zn20 ?_;exact xq
    refine QY ?_;refine zk 60 rfl (fun g60=>?_) (fun g60=>?_)
    ·refine yZ ?_;exact xq
    refine zn8 ?_;refine zk 65 rfl (fun g65=>?_) (fun g65=>?_)
    ·refine zn7 ?_;exact xq
    refine uJ ?_;exact xq
   refine e_S ?_;refine zZ rfl (fun an=>?_) (fun an=>?_)
   ·have ac:=hP.trans (ln_bad a4 (show oZ _ _ _ from an));refine zn3 ?_;refine vy ?_;refine zV a1 (fun w12 hq s10=>?_);replace a1:=hq;refine uJ ?_;refine xK (.inl rfl) rfl (zX U45 rfl rfl a1.range0 zK) ?_;exact⟨xX (ad.trans (xZ (c:=3) oG ac dE)),hB.u⟩
   refine zn3 ?_;refine oJ kR kR (fun w13 ab=>?_);refine zn3 ?_;refine kX 77 rfl (fun g77=>?_) (fun g77=>?_)
   ·refine yQ 77 rfl rfl (jX U84 qq dE rfl rfl rfl) (yQ 77 rfl rfl (qj (v:= .int _ _) U3 rfl rfl (b9.u.cell rfl)) (yQ 77 rfl rfl (jX U87 Tz dE rfl rfl rfl) (yQ 77 rfl rfl (qj (v:= .slice _ _ _) U85 rfl rfl (a9.u.cell rfl)) (yQ 77 rfl rfl (x6 (v:= .int _ _) rfl) (yQ 77 rfl rfl (jJ (c:=((j-1:Nat):Int)) rfl rfl oG oG) (yQ 77 rfl rfl (x7 (i:=j-1) U85 gQ rfl rfl oG rfl) (yQ 77 rfl rfl (jX U84 qq dE rfl rfl rfl) (yQ 77 rfl rfl (qj (v:= .int _ _) U3 rfl rfl (hB.u.cell hlb (hpd oG 0 _ rfl))) (yQ 77 rfl rfl (r_leq rfl rfl) (zn1 ?_))))))))));refine uz (e_S ?_);refine zZ rfl (fun c88=>?_) (fun c88=>?_)
    ·have ac:=hP.trans (ln_ord a4 (show ¬oZ _ _ _ from an) (by have:=hl1 ⟨by omega,by omega⟩;omega));refine zn3 ?_;refine vy ?_;refine zV a1.u (fun w14 hq s12=>?_);replace a1:=hq;refine yZ ?_;refine xK (.inl rfl) rfl (zX U45 rfl rfl a1.range0 zK) ?_;exact⟨xX (ad.trans (xZ (c:=13) oG ac dE)),hB.u⟩
    refine zn7 ?_;refine x9 ((gr[k]'a2).ln.length-(j+1)) oG agA ?_;have b1:¬((gr[k]'a2).ln[j]'a4).1<=a3:=fun h=>by
      by_cases e:j=0
      · have:=hl0 e;omega
      · have:=hl1 ⟨by omega,by omega⟩
        omega
    replace a8:=((a8.tr0 s8).tr1 s9 oG).tr0 ab;replace a5:=((a5.tr0 s8).tr1 s9 oG).tr0 ab;replace a9:=((a9.tr0 s8).tr1 s9 oG).tr0 ab;replace hB:=hB.tr0 ab;replace a1:=a1.tr0 ab;exact⟨j+1,((gr[k]'a2).ln[j]'a4).1,by omega,rfl,rfl,hB,a8,a5,a1,a9,fun h=>by omega,fun h=>rfl,hP.trans (Hx a4 (show ¬oZ _ _ _ from an) b1)⟩
   refine vJ ?_;refine uz (zn9 ?_);refine x9 ((gr[k]'a2).ln.length-(j+1)) oG agA ?_;have b1:¬((gr[k]'a2).ln[j]'a4).1<=a3:=fun h=>by
     by_cases e:j=0
     · have:=hl0 e;omega
     · have:=hl1 ⟨by omega,by omega⟩
       omega
   replace a8:=((a8.tr0 s8).tr1 s9 oG).tr0 ab;replace a5:=((a5.tr0 s8).tr1 s9 oG).tr0 ab;replace a9:=((a9.tr0 s8).tr1 s9 oG).tr0 ab;replace hB:=hB.tr0 ab;replace a1:=a1.tr0 ab;exact⟨j+1,((gr[k]'a2).ln[j]'a4).1,by omega,rfl,rfl,hB,a8,a5,a1,a9,fun h=>by omega,fun h=>rfl,hP.trans (Hx a4 (show ¬oZ _ _ _ from an) b1)⟩
  have ao:=hP.trans (ln_end oG);refine yj ?_;refine x9 (gr.length-(k+1)) oG agA ?_;exact⟨k+1,by omega,rfl,rfl,hB,a8,a5,a1,ad.trans (kZ a2 ao)⟩
 refine zn7 ?_;refine jW (cs:=#[.int .i64 0,.int .i64 0]) ?_;refine zV a1 (fun w15 hq s13=>?_);replace a1:=hq;refine zn3 ?_;refine xK (.inl rfl) rfl (zX U45 rfl rfl a1.range0 zK) ?_;exact⟨xX (ad.trans (uk oG)),hB.u⟩
end Go.Proofs.YtndbjnkilegebaaGreatDoor
