/- What these functions compute, at every world: subsume.Both, subsume.Find, subsume.Subsumes; and plain laws. -/
import Derived.Test.YtiofaflajkgiaaaGreatDoorComp
import Derived.Test.YtiofaflajkgiaaaGreatDoorU
import Derived.Test.YtiofaflajkgiaaaGreatDoorZst
namespace Go.Proofs.YtiofaflajkgiaaaGreatDoor
open Go.RowKit Go.Proofs.Tryz
set_option maxHeartbeats 2000000
structure Hom(l:List Ty)(a b:List Nd)(φ:Nat->Nat):Prop where
 zero:φ 0=0
 lt:∀ i,i<a.length->φ i<b.length
 ty:∀ i,i<a.length->sub l (nd b (φ i)).ty.toNat (nd a i).ty.toNat=true
 ln:∀ i,i<a.length->∀ x∈(nd a i).ln,tgt (nd b (φ i)).ln x.1=((φ x.2.toNat:Nat):Int)
theorem Hom.uniq{l:List Ty}{a b:List Nd}{φ ψ:Nat->Nat}(h:Hom l a b φ)(k:Hom l a b ψ){i:Nat}(hr:Rch a i):φ i=ψ i:=by
 induction hr with
 | zero=>rw[h.zero,k.zero]
 | step hr hi hx ih=>
  rename_i i x
  have e:=yV hi;have h1:=h.ln i hi x (by rw[e];exact hx);have h2:=k.ln i hi x (by rw[e];exact hx);rw[ih]at h1;rw[h1]at h2;exact Int.ofNat.inj h2
def Maps(l:List Ty)(a b:List Nd):Prop:=∃ φ,Hom l a b φ
noncomputable instance(l:List Ty)(a b:List Nd):Decidable (Maps l a b):=Classical.propDecidable _
open Classical in
noncomputable def Gy(l:List Ty)(a b:List Nd):List Int:=if h:Maps l a b then (List.range a.length).map (fun i=>((Classical.choose h i:Nat):Int))else []
theorem mapF_no{l:List Ty}{a b:List Nd}(h:¬Maps l a b):Gy l a b= []:=by unfold Gy;rw[dif_neg h]
theorem Ww{l:List Ty}{a b:List Nd}{φ:Nat->Nat}(hr:∀ i,i<a.length->Rch a i)(h:Hom l a b φ):Gy l a b=(List.range a.length).map (fun i=>((φ i:Nat):Int)):=by
 have hm:Maps l a b:=⟨φ,h⟩
 unfold Gy;rw[dif_pos hm];refine aI (fun i hi=>?_);rw[(Classical.choose_spec hm).uniq h (hr i (List.mem_range.1 hi))]
def Jw(out:Nat->Int)(t:Nat)(v:Int)(x:Nat):Int:=if x=t then v else out x
theorem X7(out:Nat->Int)(t:Nat)(v:Int):Jw out t v t=v:=by simp[Jw]
theorem kJ{out:Nat->Int}{t x:Nat}{v:Int}(h:x≠t):Jw out t v x=out x:=by simp[Jw,h]
theorem FW{n j:Nat}{v:Int}{out:Nat->Int}:row n (fun x=>if x=j then Value.int .i64 v else .int .i64 (out x))=row n (fun x=> .int .i64 (Jw out j v x)):=
 vx (fun x _=>by by_cases e:x=j<;>simp[Jw,e])
def got(out:Nat->Int)(x:Nat):Bool:=decide (0<=out x)
def LinksDone(a b:List Nd)(out:Nat->Int)(j k:Nat):Prop:=∀ x∈(nd a j).ln.take k,0<=out x.2.toNat/\tgt (nd b (out j).toNat).ln x.1=out x.2.toNat
def HY(l:List Ty)(a b:List Nd)(out:Nat->Int)(j:Nat):Prop:=sub l (nd b (out j).toNat).ty.toNat (nd a j).ty.toNat=true/\LinksDone a b out j (nd a j).ln.length
structure FS(l:List Ty)(a b:List Nd)(out:Nat->Int)(st:List Int)(i k:Nat):Prop where
 zero:out 0=0
 rng:∀ j,-1<=out j/\out j<b.length
 only:∀ j,0<=out j->∀ φ,Hom l a b φ->out j=(φ j:Nat)
 stk:∀ s∈st,∃ n:Nat,s=(n:Int)/\n<a.length/\0<=out n
 cl:∀ j,j<a.length->0<=out j->j≠i->(j:Int)∈st\/HY l a b out j
 me:i<a.length->0<=out i/\LinksDone a b out i k
 ty:i<a.length->0<k->sub l (nd b (out i).toNat).ty.toNat (nd a i).ty.toNat=true
theorem FS.start{l:List Ty}{a b:List Nd}(ha:0<a.length)(hb:0<b.length):FS l a b (Jw (fun _=>-1) 0 0) [0] a.length 0:=by
 refine⟨by simp[Jw],fun j=>?_,fun j hj φ h=>?_,fun s hs=>?_,fun j _ hj _=>?_,fun hi=>absurd hi (aF _),fun hi=>absurd hi (aF _)⟩
 ·by_cases e:j=0
  ·subst e;rw[X7];omega
  ·rw[kJ e];show (-1:Int)<=-1/\(-1:Int)<_;omega
 ·by_cases e:j=0
  ·subst e;rw[h.zero];simp[Jw]
  ·rw[kJ e]at hj;omega
 ·obtain rfl:=aj.1 hs
  exact⟨0,rfl,ha,by simp[Jw]⟩
 ·by_cases e:j=0
  ·subst e;exact .inl (by simp)
  ·rw[kJ e]at hj;omega
theorem FS.pop{l:List Ty}{a b:List Nd}{out:Nat->Int}{st:List Int}{z:Int}(h:FS l a b out (st++[z]) a.length 0):∃ n m:Nat,z=(n:Int)/\n<a.length/\out n=(m:Int)/\m<b.length/\FS l a b out st n 0:=by
 obtain⟨n,rfl,hn,hm⟩:=h.stk z (by simp);have hr:=h.rng n;refine⟨n,(out n).toNat,rfl,hn,by omega,by omega,h.zero,h.rng,h.only,fun s hs=>h.stk s (by simp[hs]),fun j hj hmj hne=>?_,fun _=>⟨hm,fun x hx=>by simp at hx⟩,fun _ hk=>absurd hk (aF _)⟩;rcases h.cl j hj hmj oG with h1|h1
 ·rcases az.1 h1 with h2|h2
  ·exact .inl h2
  ·have:=aj.1 h2
   omega
 ·exact .inr h1
theorem FS.noTy{l:List Ty}{a b:List Nd}{out:Nat->Int}{st:List Int}{i k:Nat}(h:FS l a b out st i k)(hi:i<a.length)(ht:¬sub l (nd b (out i).toNat).ty.toNat (nd a i).ty.toNat=true):¬Maps l a b:=by
 rintro⟨φ,hφ⟩
 have e:=h.only i (h.me hi).1 φ hφ;rw[e,Int.toNat_natCast]at ht;exact ht (hφ.ty i hi)
theorem FS.noLn{l:List Ty}{a b:List Nd}{out:Nat->Int}{st:List Int}{i k:Nat}(h:FS l a b out st i k)(hi:i<a.length){x:Int×Int}(hx:x∈(nd a i).ln)(ht:tgt (nd b (out i).toNat).ln x.1<0\/0<=out x.2.toNat/\¬out x.2.toNat=tgt (nd b (out i).toNat).ln x.1):¬Maps l a b:=by
 rintro⟨φ,hφ⟩
 have e:=h.only i (h.me hi).1 φ hφ;rw[e,Int.toNat_natCast,hφ.ln i hi x hx]at ht;rcases ht with ht|⟨h1,h2⟩
 ·omega
 ·exact h2 (h.only _ h1 φ hφ)
theorem take_nd{a:List Nd}{i k:Nat}(hi:i<a.length)(hk:k<(a[i]).ln.length):(nd a i).ln.take (k+1)=(nd a i).ln.take k++[(a[i]).ln[k]]:=by
 rw[yV hi,List.take_succ_eq_append_getElem hk]
theorem LinksDone.snoc{a b:List Nd}{out:Nat->Int}{i k:Nat}(h:LinksDone a b out i k)(hi:i<a.length)(hk:k<(a[i]).ln.length)(hx:0<=out ((a[i]).ln[k]).2.toNat/\tgt (nd b (out i).toNat).ln ((a[i]).ln[k]).1=out ((a[i]).ln[k]).2.toNat):LinksDone a b out i (k+1):=fun x hxm=>by
 rw[take_nd hi hk]at hxm
 rcases az.1 hxm with h1|h1
 ·exact h x h1
 ·rw[List.mem_singleton.1 h1];exact hx
theorem FS.old{l:List Ty}{a b:List Nd}{out:Nat->Int}{st:List Int}{i k:Nat}(h:FS l a b out st i k)(hi:i<a.length)(hk:k<(a[i]).ln.length)(hty:sub l (nd b (out i).toNat).ty.toNat (nd a i).ty.toNat=true)
  (hm:0<=out ((a[i]).ln[k]).2.toNat) (he:out ((a[i]).ln[k]).2.toNat=tgt (nd b (out i).toNat).ln ((a[i]).ln[k]).1):FS l a b out st i (k+1):=
 ⟨h.zero,h.rng,h.only,h.stk,h.cl,fun _=>⟨(h.me hi).1,(h.me hi).2.snoc hi hk ⟨hm,he.symm⟩⟩,fun _ _=>hty⟩
theorem LinksDone.set{a b:List Nd}{out:Nat->Int}{j k t:Nat}{v:Int}(h:LinksDone a b out j k)(hj:0<=out j)(ht:out t<0):LinksDone a b (Jw out t v) j k:=fun x hx=>by
 have h1:=h x hx
 rw[kJ (x:=x.2.toNat) (fun e=>by rw[e]at h1;omega),kJ (x:=j) (fun e=>by rw[e]at hj;omega)]
 exact h1
theorem FS.new{l:List Ty}{a b:List Nd}{out:Nat->Int}{st:List Int}{i k t:Nat}(h:FS l a b out st i k)(hi:i<a.length)(hk:k<(a[i]).ln.length)(hty:sub l (nd b (out i).toNat).ty.toNat (nd a i).ty.toNat=true)
  (htt:((a[i]).ln[k]).2=(t:Int)) (htl:t<a.length) (hn:out t<0) (h0:0<=tgt (nd b (out i).toNat).ln ((a[i]).ln[k]).1) (hb:tgt (nd b (out i).toNat).ln ((a[i]).ln[k]).1<b.length):FS l a b (Jw out t (tgt (nd b (out i).toNat).ln ((a[i]).ln[k]).1)) (st++[(t:Int)]) i (k+1):=by
 have a1:=(h.me hi).1;have a2:i≠t:=fun e=>by rw[e]at a1;omega
 have h0t:0≠t:=fun e=>by have:=h.zero;rw[e]at this;omega
 have hxm:(a[i]).ln[k]∈(nd a i).ln:=by rw[yV hi];exact ar hk
 refine⟨by rw[kJ h0t];exact h.zero,fun j=>?_,fun j hj φ hφ=>?_,fun s hs=>?_,fun j hj hm hne=>?_,fun _=>?_,fun _ _=>by rw[kJ a2];exact hty⟩
 ·by_cases e:j=t
  ·subst e;rw[X7];omega
  ·rw[kJ e];exact h.rng j
 ·by_cases e:j=t
  ·subst e
   rw[X7,h.only i a1 φ hφ,Int.toNat_natCast,hφ.ln i hi _ hxm,htt,Int.toNat_natCast]
  ·rw[kJ e]at hj ⊢;exact h.only j hj φ hφ
 ·rcases az.1 hs with hs|hs
  ·obtain⟨n,h1,h2,h3⟩:=h.stk s hs
   refine⟨n,h1,h2,?_⟩;rw[kJ (fun e=>by rw[e]at h3;omega)];exact h3
  ·exact⟨t,aj.1 hs,htl,by rw[X7];exact h0⟩
 ·by_cases e:j=t
  ·subst e;exact .inl (by simp)
  ·rw[kJ e]at hm
   rcases h.cl j hj hm hne with h1|h1
   ·exact .inl (by simp[h1])
   ·refine .inr ⟨by rw[kJ e];exact h1.1,h1.2.set hm hn⟩
 ·refine⟨by rw[kJ a2];exact a1,?_⟩
  refine LinksDone.snoc ((h.me hi).2.set a1 hn) hi hk ?_;rw[htt,Int.toNat_natCast,X7,kJ a2];exact⟨h0,rfl⟩
theorem FS.done{l:List Ty}{a b:List Nd}{out:Nat->Int}{st:List Int}{i k:Nat}(h:FS l a b out st i k)(hi:i<a.length)(hk:k=(a[i]).ln.length)(hty:sub l (nd b (out i).toNat).ty.toNat (nd a i).ty.toNat=true):FS l a b out st a.length 0:=
 ⟨h.zero,h.rng,h.only,h.stk,fun j hj hm _=>by
  by_cases e:j=i
  ·subst e
   refine .inr ⟨hty,?_⟩
   have h1:=(h.me hj).2
   rw[hk,<- yV hj]at h1
   exact h1
  ·exact h.cl j hj hm e,fun hi=>absurd hi (aF _),fun hi=>absurd hi (aF _)⟩
theorem FS.end_{l:List Ty}{a b:List Nd}{out:Nat->Int}(hr:∀ i,i<a.length->Rch a i)(h:FS l a b out [] a.length 0):Hom l a b (fun i=>(out i).toNat)/\∀ i,i<a.length->0<=out i:=by
 have hd:∀ i,i<a.length->0<=out i->HY l a b out i:=fun i hi hm=>by
  rcases h.cl i hi hm oG with h1|h1
  ·cases h1
  ·exact h1
 have a2:∀ i,Rch a i->i<a.length->0<=out i:=fun i hri=>by
  induction hri with
  | zero=>intro _;rw[h.zero];exact aK _
  | step hr hi hx ih=>
   rename_i i x
   intro _;have h1:=(hd i hi (ih hi)).2 x (by rw[List.take_length,yV hi];exact hx);exact h1.1
 have a1:∀ i,i<a.length->0<=out i:=fun i hi=>a2 i (hr i hi) hi
 refine⟨⟨by show (out 0).toNat=0;rw[h.zero];rfl,fun i hi=>?_,fun i hi=>(hd i hi (a1 i hi)).1,fun i hi x hx=>?_⟩,a1⟩
 ·have h1:=h.rng i;have h2:=a1 i hi;show (out i).toNat<b.length;omega
 ·have h1:=(hd i hi (a1 i hi)).2 x (by rw[List.take_length];exact hx)
  show tgt (nd b (out i).toNat).ln x.1=((out x.2.toNat).toNat:Nat);rw[h1.2];have:=h1.1;omega
theorem WJ{n t:Nat}{out:Nat->Int}{v:Int}(ht:t<n)(h:out t<0)(hv:0<=v):jW n (got (Jw out t v))<jW n (got out):=
 Z9 (fun x hx=>by
  by_cases e:x=t
  ·subst e;simp[got];omega
  ·simp only[got,kJ e]at hx ⊢;exact hx) (List.range n) t (ax.2 ht) (by simp[got];omega) (by simp[got,X7,hv])
def Tw(p:Nat->Nat->Bool)(i j:Nat)(x y:Nat):Bool:=if x=i/\y=j then true else p x y
theorem Ew(p:Nat->Nat->Bool)(i j:Nat):Tw p i j i j=true:=by simp[Tw]
theorem setP_mono{p:Nat->Nat->Bool}{i j x y:Nat}(h:p x y=true):Tw p i j x y=true:=by
 unfold Tw;split
 ·rfl
 ·exact h
theorem VZ{p:Nat->Nat->Bool}{i j x y:Nat}(h:Tw p i j x y=true):(x=i/\y=j)\/p x y=true:=by
 unfold Tw at h;by_cases e:x=i/\y=j
 ·exact .inl e
 ·rw[if_neg e]at h;exact .inr h
def DY(na nb:Nat)(p:Nat->Nat->Bool):Nat:=(List.range (na*nb)).countP (fun z=>!p (z/nb) (z%nb))
theorem lackP_lt{na nb i j:Nat}{p q:Nat->Nat->Bool}(hpq:∀ x y,p x y=true->q x y=true)(hi:i<na)(hj:j<nb)(h1:p i j=false)(h2:q i j=true):DY na nb q<DY na nb p:=by
 have hd:(i*nb+j)/nb=i:=by
  rw[Nat.mul_comm,Nat.mul_add_div oG,Nat.div_eq_of_lt hj,Nat.add_zero]
 have hm:(i*nb+j)%nb=j:=by
  rw[Nat.mul_comm,Nat.mul_add_mod,Nat.mod_eq_of_lt hj]
 have hl:i*nb+j<na*nb:=by
  have:=aS nb (show i+1<=na from hi);rw[Nat.add_mul,Nat.one_mul]at this;omega
 refine Z9 (fun z hz=>?_) (List.range (na*nb)) (i*nb+j) (ax.2 hl) ?_ ?_
 ·cases hp:p (z/nb) (z%nb)with
  | false=>rfl
  | true=>rw[hpq _ _ hp]at hz;cases hz
 ·show (!p ((i*nb+j)/nb) ((i*nb+j)%nb))=true
  rw[hd,hm,h1];rfl
 ·show (!q ((i*nb+j)/nb) ((i*nb+j)%nb))=false
  rw[hd,hm,h2];rfl
def PairLn(a b:List Nd)(p:Nat->Nat->Bool)(i j k:Nat):Prop:=∀ x∈(nd a i).ln.take k,∃ t:Nat,tgt (nd b j).ln x.1=(t:Int)/\p x.2.toNat t=true
def PairOk(l:List Ty)(a b:List Nd)(p:Nat->Nat->Bool)(i j:Nat):Prop:=sub l (nd b j).ty.toNat (nd a i).ty.toNat=true/\PairLn a b p i j (nd a i).ln.length
structure PB(l:List Ty)(a b:List Nd)(p:Nat->Nat->Bool):Prop where
 zero:p 0 0=true
 rng:∀ i j,p i j=true->i<a.length/\j<b.length
 only:∀ i j,p i j=true->∀ φ,Hom l a b φ->φ i=j
structure MPS(l:List Ty)(a b:List Nd)(p:Nat->Nat->Bool)(ch:Bool):Prop where
 pb:PB l a b p
 cl:ch=false->∀ i j,p i j=true->PairOk l a b p i j
structure MPP(l:List Ty)(a b:List Nd)(p0 p:Nat->Nat->Bool)(ch:Bool)(i j k:Nat):Prop where
 pb:PB l a b p
 sup:∀ x y,p0 x y=true->p x y=true
 same:ch=false->∀ x y,p x y=true->p0 x y=true
 more:ch=true->DY a.length b.length p<DY a.length b.length p0
 done:∀ x y,p0 x y=true->x<i\/x=i/\y<j->PairOk l a b p x y
 me:0<k->i<a.length/\j<b.length/\p i j=true/\sub l (nd b j).ty.toNat (nd a i).ty.toNat=true/\PairLn a b p i j k
theorem MPS.start{l:List Ty}{a b:List Nd}(ha:0<a.length)(hb:0<b.length):MPS l a b (Tw (fun _ _=>false) 0 0) true:=
 ⟨⟨Ew _ _ _,(fun i j h=>by
  rcases VZ h with ⟨rfl,rfl⟩|h
  ·exact⟨ha,hb⟩
  ·cases h),(fun i j h φ hφ=>by
  rcases VZ h with ⟨rfl,rfl⟩|h
  ·exact hφ.zero
  ·cases h)⟩,fun h=>nomatch h⟩
theorem MPP.start{l:List Ty}{a b:List Nd}{p:Nat->Nat->Bool}{ch:Bool}(h:MPS l a b p ch):MPP l a b p p false 0 0 0:=
 ⟨h.pb,fun _ _ h=>h,fun _ _ _ h=>h,(fun h=>nomatch h),(fun x y _ hx=>by omega),fun hk=>absurd hk (aF _)⟩
theorem MPP.row{l:List Ty}{a b:List Nd}{p0 p:Nat->Nat->Bool}{ch:Bool}{i:Nat}(h:MPP l a b p0 p ch i b.length 0):MPP l a b p0 p ch (i+1) 0 0:=
 ⟨h.pb,h.sup,h.same,h.more,fun x y hp hx=>h.done x y hp (by
  have:=(h.pb.rng x y (h.sup x y hp)).2
  omega),fun hk=>absurd hk (aF _)⟩
theorem MPP.skip{l:List Ty}{a b:List Nd}{p0 p:Nat->Nat->Bool}{ch:Bool}{i j:Nat}(h:MPP l a b p0 p ch i j 0)(hp:p i j=false):MPP l a b p0 p ch i (j+1) 0:=
 ⟨h.pb,h.sup,h.same,h.more,fun x y h0 hx=>by
  by_cases e:x=i/\y=j
  ·obtain⟨rfl,rfl⟩:=e
   rw[h.sup _ _ h0]at hp;cases hp
  ·exact h.done x y h0 oG,fun hk=>absurd hk (aF _)⟩
theorem MPP.noTy{l:List Ty}{a b:List Nd}{p:Nat->Nat->Bool}{i j:Nat}(h:PB l a b p)(hp:p i j=true)(ht:¬sub l (nd b j).ty.toNat (nd a i).ty.toNat=true):¬Maps l a b:=by
 rintro⟨φ,hφ⟩
 have e:=h.only i j hp φ hφ;subst e;exact ht (hφ.ty i (h.rng _ _ hp).1)
theorem MPP.noLn{l:List Ty}{a b:List Nd}{p:Nat->Nat->Bool}{i j:Nat}(h:PB l a b p)(hp:p i j=true){x:Int×Int}(hx:x∈(nd a i).ln)(ht:tgt (nd b j).ln x.1<0):¬Maps l a b:=by
 rintro⟨φ,hφ⟩
 have e:=h.only i j hp φ hφ;subst e;rw[hφ.ln i (h.rng _ _ hp).1 x hx]at ht;omega
theorem PairLn.snoc{a b:List Nd}{p:Nat->Nat->Bool}{i j k:Nat}(h:PairLn a b p i j k)(hi:i<a.length)(hk:k<(a[i]).ln.length)(hx:∃ t:Nat,tgt (nd b j).ln ((a[i]).ln[k]).1=(t:Int)/\p ((a[i]).ln[k]).2.toNat t=true):PairLn a b p i j (k+1):=fun x hxm=>by
 rw[take_nd hi hk]at hxm
 rcases az.1 hxm with h1|h1
 ·exact h x h1
 ·rw[List.mem_singleton.1 h1];exact hx
theorem PairLn.mono{a b:List Nd}{p q:Nat->Nat->Bool}{i j k:Nat}(h:PairLn a b p i j k)(hpq:∀ x y,p x y=true->q x y=true):PairLn a b q i j k:=fun x hx=>by
 obtain⟨t,h1,h2⟩:=h x hx
 exact⟨t,h1,hpq _ _ h2⟩
structure MPK(l:List Ty)(a b:List Nd)(p0 p:Nat->Nat->Bool)(ch:Bool)(i j k:Nat):Prop where
 pp:MPP l a b p0 p ch i j 0
 at_:p i j=true
 ty:sub l (nd b j).ty.toNat (nd a i).ty.toNat=true
 ln:PairLn a b p i j k
theorem MPK.start{l:List Ty}{a b:List Nd}{p0 p:Nat->Nat->Bool}{ch:Bool}{i j:Nat}(h:MPP l a b p0 p ch i j 0)(hp:p i j=true)(ht:sub l (nd b j).ty.toNat (nd a i).ty.toNat=true):MPK l a b p0 p ch i j 0:=⟨h,hp,ht,fun x hx=>by simp at hx⟩
theorem MPK.old{l:List Ty}{a b:List Nd}{p0 p:Nat->Nat->Bool}{ch:Bool}{i j k s t:Nat}(h:MPK l a b p0 p ch i j k)(hi:i<a.length)(hk:k<(a[i]).ln.length)(hs:((a[i]).ln[k]).2=(s:Int))(ht:tgt (nd b j).ln ((a[i]).ln[k]).1=(t:Int))(hp:p s t=true):MPK l a b p0 p ch i j (k+1):=
 ⟨h.pp,h.at_,h.ty,h.ln.snoc hi hk ⟨t,ht,by rw[hs,Int.toNat_natCast];exact hp⟩⟩
theorem MPK.new{l:List Ty}{a b:List Nd}{p0 p:Nat->Nat->Bool}{ch:Bool}{i j k s t:Nat}(h:MPK l a b p0 p ch i j k)(hi:i<a.length)(hk:k<(a[i]).ln.length)(hs:((a[i]).ln[k]).2=(s:Int))(hsl:s<a.length)(ht:tgt (nd b j).ln ((a[i]).ln[k]).1=(t:Int))(htl:t<b.length)(hp:p s t=false):MPK l a b p0 (Tw p s t) true i j (k+1):=by
 have hxm:(a[i]).ln[k]∈(nd a i).ln:=by rw[yV hi];exact ar hk
 have hm:∀ x y,p x y=true->Tw p s t x y=true:=fun x y h=>setP_mono h
 refine⟨⟨⟨hm _ _ h.pp.pb.zero,fun x y hx=>?_,fun x y hx φ hφ=>?_⟩,fun x y hx=>hm _ _ (h.pp.sup x y hx),(fun h=>nomatch h),fun _=>?_,fun x y h0 hx=>?_,fun hk=>absurd hk (aF _)⟩,hm _ _ h.at_,h.ty,(h.ln.mono hm).snoc hi hk ⟨t,ht,by rw[hs,Int.toNat_natCast];exact Ew _ _ _⟩⟩
 ·rcases VZ hx with ⟨rfl,rfl⟩|hx
  ·exact⟨hsl,htl⟩
  ·exact h.pp.pb.rng _ _ hx
 ·rcases VZ hx with ⟨rfl,rfl⟩|hx
  ·have e:=h.pp.pb.only i j h.at_ φ hφ
   have h1:=hφ.ln i hi _ hxm;rw[e,ht,hs,Int.toNat_natCast]at h1;exact(Int.ofNat.inj h1).symm
  ·exact h.pp.pb.only x y hx φ hφ
 ·have h1:=lackP_lt (na:=a.length) (nb:=b.length) hm hsl htl hp (Ew p s t)
  cases ch with
  | true=>exact aE h1 (h.pp.more rfl)
  | false=>
   have e:DY a.length b.length p0=DY a.length b.length p:=by
    unfold DY;refine List.countP_congr (fun z _=>?_);cases hz:p0 (z/b.length) (z%b.length)with
    | true=>rw[h.pp.sup _ _ hz]
    | false=>
     cases hz2:p (z/b.length) (z%b.length)with
     | false=>rfl
     | true=>rw[h.pp.same rfl _ _ hz2]at hz;cases hz
   rw[e];exact h1
 ·obtain⟨h1,h2⟩:=h.pp.done x y h0 hx
  exact⟨h1,h2.mono hm⟩
theorem MPK.done{l:List Ty}{a b:List Nd}{p0 p:Nat->Nat->Bool}{ch:Bool}{i j k:Nat}(h:MPK l a b p0 p ch i j k)(hi:i<a.length)(hk:k=(a[i]).ln.length):MPP l a b p0 p ch i (j+1) 0:=
 ⟨h.pp.pb,h.pp.sup,h.pp.same,h.pp.more,fun x y h0 hx=>by
  by_cases e:x=i/\y=j
  ·obtain⟨rfl,rfl⟩:=e
   have h1:=h.ln
   rw[hk,<- yV hi]at h1
   exact⟨h.ty,h1⟩
  ·exact h.pp.done x y h0 oG,fun hk=>absurd hk (aF _)⟩
theorem MPP.end_{l:List Ty}{a b:List Nd}{p0 p:Nat->Nat->Bool}{ch:Bool}(h:MPP l a b p0 p ch a.length 0 0):MPS l a b p ch:=
 ⟨h.pb,fun hc i j hp=>h.done i j (h.same hc i j hp) (.inl (h.pb.rng i j hp).1)⟩
theorem MPS.two{l:List Ty}{a b:List Nd}{p:Nat->Nat->Bool}{ch:Bool}{i j k:Nat}(h:MPS l a b p ch)(h1:p i j=true)(h2:p i k=true)(hne:j≠k):¬Maps l a b:=by
 rintro⟨φ,hφ⟩
 exact hne ((h.pb.only i j h1 φ hφ).symm.trans (h.pb.only i k h2 φ hφ))
noncomputable def uj(l:List Ty)(fs:List Ft)(ga gb:List Nd):Fl:=if ¬(yJ l fs ga).1=0 then yJ l fs ga else x7 l fs gb
theorem PW{l:List Ty}{fs:List Ft}{ga gb:List Nd}(h:¬(zY l fs).1=0):uj l fs ga gb=((zY l fs).1,(zY l fs).2):=by
 unfold uj;rw[gf_hier h,if_pos h]
theorem two_one{l:List Ty}{fs:List Ft}{ga gb:List Nd}(h:(zY l fs).1=0)(h1:¬(x7 l fs ga).1=0):uj l fs ga gb=((x7 l fs ga).1,(x7 l fs ga).2):=by
 unfold uj;rw[KV h,if_pos h1]
theorem SW{l:List Ty}{fs:List Ft}{ga gb:List Nd}(h:(zY l fs).1=0)(h1:(x7 l fs ga).1=0):uj l fs ga gb=((x7 l fs gb).1,(x7 l fs gb).2):=by
 unfold uj;rw[KV h,if_neg (fun k=>k h1)]
theorem SY{l:List Ty}{fs:List Ft}{ga gb:List Nd}(h:(uj l fs ga gb).1=0):(GV l fs ga/\GV l fs gb)/\(yJ l fs ga).1=0/\(yJ l fs gb).1=0:=by
 unfold uj at h;by_cases h1:(yJ l fs ga).1=0
 ·rw[if_neg (fun k=>k h1)]at h
  have ha:=H5 h1;have h2:(yJ l fs gb).1=0:=by rw[KV ha.h];exact h
  exact⟨⟨ha,H5 h2⟩,h1,h2⟩
 ·rw[if_pos h1]at h;exact absurd h h1
theorem two_zz{l:List Ty}{fs:List Ft}{ga gb:List Nd}(h:(uj l fs ga gb).1=0):uj l fs ga gb=(0,0):=by
 obtain⟨⟨_,hb⟩,h1,h2⟩:=SY h;unfold uj;rw[if_neg (fun k=>k h1),XY hb.lo hb.t hb.u]
def BothR(l:List Ty)(fs:List Ft)(ga gb:List Nd)(e:Ending)(w:World):Prop:=∃(U D:Option Addr) (n1 k1 n2 k2:Nat),e= .returned (.tuple #[.agg #[.slice U n1 k1,.slice D n2 k2],.agg #[.int .i64 (uj l fs ga gb).1,.int .i64 (uj l fs ga gb).2]])/\((uj l fs ga gb).1=0->∃ bu bd,(U=some ⟨bu,0,none⟩/\n1=l.length/\k1=l.length/\D=some ⟨bd,0,none⟩/\n2=l.length/\k2=l.length)/\TableIn w l bu bd)
theorem Iv{l:List Ty}{fs:List Ft}{ga gb:List Nd}{w:World}{U D:Option Addr}{n1 k1 n2 k2:Nat}(F:Fl)(hF:uj l fs ga gb=F)(h:¬F.1=0):BothR l fs ga gb (.returned (.tuple #[.agg #[.slice U n1 k1,.slice D n2 k2],.agg #[.int .i64 F.1,.int .i64 F.2]])) w:=
 ⟨U,D,n1,k1,n2,k2,by rw[hF],fun h2=>absurd (by rw[<- hF];exact h2) h⟩
theorem both_yes{l:List Ty}{fs:List Ft}{ga gb:List Nd}{w:World}{bu bd:Nat}(hF:uj l fs ga gb=(0,0))(h:TableIn w l bu bd):BothR l fs ga gb (.returned (.tuple #[.agg #[.slice (some ⟨bu,0,none⟩) l.length l.length,.slice (some ⟨bd,0,none⟩) l.length l.length],.agg #[.int .i64 0,.int .i64 0]])) w:=
 ⟨_,_,_,_,_,_,by rw[hF],fun _=>⟨bu,bd,⟨rfl,rfl,rfl,rfl,rfl,rfl⟩,h⟩⟩
theorem F2(A:Option Addr)(c:Nat)(l:List Ty)(w:World)(hT:TypesIn w A l)(hv:VT l)(h60:l.length<=60):Calls prog 29 #[.slice A l.length c] w fun e w'=>(∃ bu bd,e= .returned (.agg #[.slice (some ⟨bu,0,none⟩) l.length l.length,.slice (some ⟨bd,0,none⟩) l.length l.length])/\TableIn w' l bu bd)/\Bel w w':=
 (Vk A c l w hT hv h60).mono fun _ _ ⟨bu,bd,h1,h2,h3⟩=>⟨⟨bu,bd,h1,h2⟩,h3⟩
def FindR(lo:Nat)(l:List Ty)(ga gb:List Nd)(e:Ending)(w:World):Prop:=∃ A c,e= .returned (.slice A (Gy l ga gb).length c)/\(∀ w2,FrSame lo w w2->IntsIn w2 A (Gy l ga gb))/\A.isNone= !decide (Maps l ga gb)
theorem ints_row{w:World}{b n:Nat}{out:Nat->Int}{xs:List Int}(hb:Blk w b 3 (row n (fun x=> .int .i64 (out x))))(hn:xs.length=n)(hm:n<=jx)(hx:∀ k (hk:k<xs.length),xs[k]=out k):IntsIn w (some ⟨b,0,none⟩) xs:=by
 subst hn;exact⟨hm,fun _=>⟨b,0,rfl,hb.lt,fun k hk=>by rw[hx k hk];exact hb.cell (jJ (by exact hk))⟩⟩
theorem find_no{lo:Nat}{l:List Ty}{ga gb:List Nd}{w:World}(h:¬Maps l ga gb):FindR lo l ga gb (.returned (.slice none 0 0)) w:=
 ⟨none,0,by rw[mapF_no h];rfl,by rw[mapF_no h];exact fun _ _=>ints_nil _ _,by rw[decide_eq_false h];rfl⟩
theorem find_yes{lo:Nat}{l:List Ty}{ga gb:List Nd}{w:World}{b:Nat}{out:Nat->Int}(hr:∀ i,i<ga.length->Rch ga i)(h:FS l ga gb out [] ga.length 0)(hb:Blk w b 3 (row ga.length (fun x=> .int .i64 (out x))))(hm:ga.length<=60)(hlo:lo<=b):FindR lo l ga gb (.returned (.slice (some ⟨b,0,none⟩) ga.length ga.length)) w:=by
 obtain⟨hh,hp⟩:=h.end_ hr;have hl:(Gy l ga gb).length=ga.length:=by rw[Ww hr hh];simp
 refine⟨some ⟨b,0,none⟩,ga.length,by rw[hl],?_,by rw[decide_eq_true ⟨_,hh⟩];rfl⟩;refine fun w2 hf=>ints_row (hf.at_ hb hlo) hl (by unfold jx;omega) (fun k hk=>?_)
 have hk2:k<ga.length:=by omega
 have:=hp k hk2;simp only[Ww hr hh,List.getElem_map,List.getElem_range];omega
noncomputable def Fy(l:List Ty)(fs:List Ft)(ga gb:List Nd):Bool:=if (uj l fs ga gb).1=0 then decide (Maps l ga gb)else false
theorem subB_no{l:List Ty}{fs:List Ft}{ga gb:List Nd}(h:¬(uj l fs ga gb).1=0):Fy l fs ga gb=false:=by unfold Fy;rw[if_neg h]
theorem Fw{l:List Ty}{fs:List Ft}{ga gb:List Nd}(h:(uj l fs ga gb).1=0):Fy l fs ga gb=decide (Maps l ga gb):=by unfold Fy;rw[if_pos h]
theorem G4{l:List Ty}{fs:List Ft}{ga gb:List Nd}{b:Bool}{x y:Int}(h:Fy l fs ga gb=b)(hF:uj l fs ga gb=(x,y)):Ending.returned (.tuple #[.bool b,.agg #[.int .i64 x,.int .i64 y]])= .returned (.tuple #[.bool (Fy l fs ga gb),.agg #[.int .i64 (uj l fs ga gb).1,.int .i64 (uj l fs ga gb).2]]):=by rw[h,hF]
theorem Ij:(prog.info? 3).map (fun i=>(i.zero,i.size,i.bytes))=some (some (.int .i64 0),1,8):=by kernel_rfl
theorem qX:(prog.info? 28).map (·.size)=some 1:=by kernel_rfl
theorem qy:(prog.info? 45).map (·.size)=some 2:=by kernel_rfl
theorem yv:(prog.info? 84).map (·.size)=some 2:=by kernel_rfl
theorem jY:(prog.info? 28).map (·.zero)=some (some (.agg #[.slice none 0 0])):=by kernel_rfl
theorem I3:(prog.info? 3).map (·.zero)=some (some (.int .i64 0)):=by kernel_rfl
theorem uV:(prog.info? 45).map (·.zero)=some (some (.agg #[.int .i64 0,.int .i64 0])):=by kernel_rfl
theorem Vz:(prog.info? 84).map (·.zero)=some (some (.agg #[.slice none 0 0,.slice none 0 0])):=by kernel_rfl
theorem HJ(A B G1 G2:Option Addr)(c d c1 c2:Nat)(l:List Ty)(fs:List Ft)(ga gb:List Nd)(w:World)(be:TabIn w)(hT:TypesIn w A l)(hF:FeatsIn w B fs)(hG1:NodesIn w G1 ga)(hG2:NodesIn w G2 gb):Calls prog 40 #[.agg #[.slice A l.length c,.slice B fs.length d],.agg #[.slice G1 ga.length c1],.agg #[.slice G2 gb.length c2]] w fun e w'=>BothR l fs ga gb e w'/\Bel w w':=by
 refine enT func40 ntmps40 rfl rfl fun hB=>?_;refine zn2 ?_;refine qY (v:= .agg #[_,_]) (cs:=#[_,_]) rfl rfl (fun b3 w1 b2 s1 hr=>?_);refine qY (v:= .agg #[_]) (cs:=#[_]) rfl rfl (fun b4 w2 hb4 s2 hr=>?_);refine qY (v:= .agg #[_]) (cs:=#[_]) rfl rfl (fun b5 w3 hb5 s3 hr=>?_);refine qk (cs:=#[.slice none 0 0,.slice none 0 0]) Vz rfl (fun b6 w4 a2 s4 hr=>?_);have lo6:=nLT (Bel.size hB.u) hr;refine qk (cs:=#[.int .i64 0,.int .i64 0]) uV rfl (fun b7 w5 a3 s5 hr=>?_);have:=nLL a2.lt hr;have lo7:=nLT (Bel.size hB.u) hr;refine zn6 ?_;refine aY kR (MJ A B c d l fs _ (be.mono hB.u) (hT.mono hB.u) (hF.mono hB.u)) rfl (fun w6 s6=>?_);refine yj (cs:=#[.int .i64 0,.int .i64 0]) uV rfl (fun _=>rfl) (fun _=>rfl) qy rfl zJ (fun b8 w8 hb8 s7 hr=>?_);have:=nLL a2.u.lt hr;refine zn9 ?_;refine zV rfl (fun an=>?_) (fun an=>?_)
 ·refine xy ?_;refine c_all #[false,false,false,false] kR (by rfl) (fun w9 s8=>?_);refine xJ [0,1] kR rfl ⟨fun o a1=>?_,fun o a1=>?_,trivial⟩
  ·cases sI a1;refine wl (kK (vs:=#[]) (cs:=#[.slice none 0 0,.slice none 0 0]) (by simp) kR) (zQ (e_A (listed':=#[true,false,false,false]) (by rfl) ?_));refine xJ [1,2] kR rfl ⟨fun o a1=>?_,fun o a1=>?_,trivial⟩
   ·cases sI a1;refine zn2 ?_;refine e_A (listed':=#[true,true,false,false]) (by rfl) ?_;refine xJ [2] kR rfl ⟨fun o a1=>?_,trivial⟩;cases sI a1;refine zk a2.u rfl rfl yv rfl zJ (fun w10 hq s9=>?_);replace a2:=hq;refine zQ (e_A (listed':=#[true,true,true,false]) (by rfl) ?_);refine xJ [3] kR rfl ⟨fun o a1=>?_,trivial⟩;cases sI a1;refine zk a3.u rfl rfl qy rfl zJ (fun w11 hq s10=>?_);replace a3:=hq;refine zQ (e_A (listed':=#[true,true,true,true]) (by rfl) (Q1 kR (zn3 ?_)));refine kY (.inl rfl) rfl (zZ U84 rfl rfl a2.u.range0 yv) (zZ U45 rfl rfl a3.range0 qy) ?_;exact⟨Iv (zY l fs) (PW an) an,hB.u⟩
   cases sI a1;refine zk a2.u rfl rfl yv rfl zJ (fun w12 hq s11=>?_);replace a2:=hq;refine zQ (e_A (listed':=#[true,false,true,false]) (by rfl) ?_);refine xJ [1] kR rfl ⟨fun o a1=>?_,trivial⟩;cases sI a1;refine zn2 ?_;refine e_A (listed':=#[true,true,true,false]) (by rfl) ?_;refine xJ [3] kR rfl ⟨fun o a1=>?_,trivial⟩;cases sI a1;refine zk a3.u rfl rfl qy rfl zJ (fun w13 hq s12=>?_);replace a3:=hq;refine zQ (e_A (listed':=#[true,true,true,true]) (by rfl) (Q1 kR (zn3 ?_)));refine kY (.inl rfl) rfl (zZ U84 rfl rfl a2.u.range0 yv) (zZ U45 rfl rfl a3.range0 qy) ?_;exact⟨Iv (zY l fs) (PW an) an,hB.u⟩
  cases sI a1;refine zn2 ?_;refine e_A (listed':=#[false,true,false,false]) (by rfl) ?_;refine xJ [0] kR rfl ⟨fun o a1=>?_,trivial⟩;cases sI a1;refine wl (kK (vs:=#[]) (cs:=#[.slice none 0 0,.slice none 0 0]) (by simp) kR) (zQ (e_A (listed':=#[true,true,false,false]) (by rfl) ?_));refine xJ [2] kR rfl ⟨fun o a1=>?_,trivial⟩;cases sI a1;refine zk a2.u rfl rfl yv rfl zJ (fun w14 hq s13=>?_);replace a2:=hq;refine zQ (e_A (listed':=#[true,true,true,false]) (by rfl) ?_);refine xJ [3] kR rfl ⟨fun o a1=>?_,trivial⟩;cases sI a1;refine zk a3.u rfl rfl qy rfl zJ (fun w15 hq s14=>?_);replace a3:=hq;refine zQ (e_A (listed':=#[true,true,true,true]) (by rfl) (Q1 kR (zn3 ?_)));refine kY (.inl rfl) rfl (zZ U84 rfl rfl a2.u.range0 yv) (zZ U45 rfl rfl a3.range0 qy) ?_;exact⟨Iv (zY l fs) (PW an) an,hB.u⟩
 have h0:=ak.1 an;have hS:=Qy h0;have hfo:=O5 h0;refine zn6 ?_;refine zW kR (F2 A c l _ (hT.mono hB.u) hS.vt hS.le) rfl (fun e' w16 hr=>?_);obtain⟨⟨bu,bd,rfl,⟨a4,a5⟩⟩,s15⟩:=hr;replace s15:=sB s15;have h6u:b6≠bu:=fun h=>absurd (vW (h ▸ a2.u) a4) dE
 have h6d:b6≠bd:=fun h=>absurd (vW (h ▸ a2.u) a5) dE
 have h7u:b7≠bu:=fun h=>absurd (vW (h ▸ a3.u) a4) dE
 have h7d:b7≠bd:=fun h=>absurd (vW (h ▸ a3.u) a5) dE
 refine⟨_,rfl,?_⟩;refine yj (cs:=#[.slice none 0 0,.slice none 0 0]) Vz rfl (fun _=>rfl) (fun _=>rfl) yv rfl zJ (fun b9 w18 b1 s16 hr=>?_);refine zn7 ?_;refine qv (cs:=#[_,_]) [(0,.agg _),(1,.agg _)] rfl underlying109 qX jY dE dE kR rfl (fun bf w19 a6 s17 hr=>?_);refine zn5 ?_;replace a4:=a4.tr0 (s16.t s17);replace a5:=a5.tr0 (s16.t s17);refine qj (rg [11,12] 27 14) (fun m g w'=>∃ k:Nat,k<=2/\m=2-k/\g 27= .int .i64 k/\Bel w w'/\Blk w' bu 114 (rU l.length (upN l))/\Blk w' bd 114 (rU l.length (ZJ l))/\Blk w' b3 25 #[.slice A l.length c,.slice B fs.length d]/\Blk w' b6 84 #[.slice none 0 0,.slice none 0 0]/\Blk w' b7 45 #[.int .i64 0,.int .i64 0]/\Blk w' b9 84 #[.slice (some ⟨bu,0,none⟩) l.length l.length,.slice (some ⟨bd,0,none⟩) l.length l.length]/\Blk w' bf 28 #[.slice G1 ga.length c1,.slice G2 gb.length c2]/\(1<=k->(x7 l fs ga).1=0)/\(2<=k->(x7 l fs gb).1=0)) (2) ?_ (fun m g6 w20 hI=>?_)
 ·exact⟨0,ag _,rfl,rfl,hB.u,a4,a5,b2.u,a2.u,a3.u,b1.u,a6,fun h=>absurd h dE,fun h=>absurd h dE⟩
 obtain⟨k,hk,hm,h27,hB,a4,a5,b2,a2,a3,b1,a6,bb,hq2⟩:=hI;refine zK 27 _ h27 nu (zn6 ?_);refine zV rfl (fun c28=>?_) (fun c28=>?_)
 ·have hlt:k<2:=by omega
  obtain⟨Gx,cx,gx,hGx,hcx,hx0,hx1⟩:∃(Gx:Option Addr) (cx:Nat) (gx:List Nd),NodesIn w Gx gx/\(w20).cell? ⟨bf,0+k*1,none⟩=some (.slice Gx gx.length cx)/\(k=0->gx=ga)/\(k=1->gx=gb):=by
    match k,hlt with
    | 0,_=>exact⟨G1,c1,ga,hG1,a6.cell rfl,fun _=>rfl,fun h=>by cases h⟩
    | 1,_=>exact⟨G2,c2,gb,hG2,a6.cell rfl,fun h=>(by cases h),fun _=>rfl⟩
  have ba:¬(x7 l fs gx).1=0->uj l fs ga gb=((x7 l fs gx).1,(x7 l fs gx).2):=fun h=>by
    by_cases e:k=0
    · have hx:=hx0 e
      subst hx;exact two_one h0 h
    · have hx:=hx1 oG
      subst hx;exact SW h0 (bb oG)
  have hrg:(w20).rangeAt bf (0+k*1) [.slice Gx gx.length cx]:=fun j v hj=>by
    match j,hj with
    | 0,hj=>cases hj;exact hcx
    | _+1,hj=>cases hj
  refine zn7 ?_;refine wl (qZ U28 rfl rfl hrg qX) ?_;refine yj (cs:=#[.slice none 0 0]) jY rfl (fun _=>rfl) (fun _=>rfl) qX rfl zJ (fun b11 w22 hb11 ad hr=>?_);refine zn7 ?_;replace a4:=a4.tr0 ad;replace a5:=a5.tr0 ad;refine aY kR (M4 A B Gx c d cx bu bd l fs gx _ ⟨a4,a5⟩ hS.le (hF.mono hB.u) (hGx.mono hB.u) hfo) rfl (fun w23 a9=>?_);refine yj (cs:=#[.int .i64 0,.int .i64 0]) uV rfl (fun _=>rfl) (fun _=>rfl) qy rfl zJ (fun b12 w25 hb12 a8 hr=>?_);have:=nLL a2.u.lt hr;refine zn9 ?_;refine zV rfl (fun a7=>?_) (fun a7=>?_)
  ·refine xy ?_;refine c_all #[false,false,false,false] kR (by rfl) (fun w26 s21=>?_);refine xJ [0,1] kR rfl ⟨fun o a1=>?_,fun o a1=>?_,trivial⟩
   ·cases sI a1;refine zn2 ?_;refine e_A (listed':=#[true,false,false,false]) (by rfl) ?_;refine xJ [1,2] kR rfl ⟨fun o a1=>?_,fun o a1=>?_,trivial⟩
    ·cases sI a1;refine zn2 ?_;refine e_A (listed':=#[true,true,false,false]) (by rfl) ?_;refine xJ [2] kR rfl ⟨fun o a1=>?_,trivial⟩;cases sI a1;refine zk a2.u rfl rfl yv rfl zJ (fun w27 hq s22=>?_);replace a2:=hq;refine zQ (e_A (listed':=#[true,true,true,false]) (by rfl) ?_);refine xJ [3] kR rfl ⟨fun o a1=>?_,trivial⟩;cases sI a1;refine zk a3.u rfl rfl qy rfl zJ (fun w28 hq s23=>?_);replace a3:=hq;refine zQ (e_A (listed':=#[true,true,true,true]) (by rfl) (Q1 kR (zn7 ?_)));refine kY (.inl rfl) rfl (zZ U84 rfl rfl a2.u.range0 yv) (zZ U45 rfl rfl a3.range0 qy) ?_;exact⟨Iv (x7 l fs gx) (ba a7) a7,hB.u⟩
    cases sI a1;refine zk a2.u rfl rfl yv rfl zJ (fun w29 hq s24=>?_);replace a2:=hq;refine zQ (e_A (listed':=#[true,false,true,false]) (by rfl) ?_);refine xJ [1] kR rfl ⟨fun o a1=>?_,trivial⟩;cases sI a1;refine zn2 ?_;refine e_A (listed':=#[true,true,true,false]) (by rfl) ?_;refine xJ [3] kR rfl ⟨fun o a1=>?_,trivial⟩;cases sI a1;refine zk a3.u rfl rfl qy rfl zJ (fun w30 hq s25=>?_);replace a3:=hq;refine zQ (e_A (listed':=#[true,true,true,true]) (by rfl) (Q1 kR (zn7 ?_)));refine kY (.inl rfl) rfl (zZ U84 rfl rfl a2.u.range0 yv) (zZ U45 rfl rfl a3.range0 qy) ?_;exact⟨Iv (x7 l fs gx) (ba a7) a7,hB.u⟩
   cases sI a1;refine zn2 ?_;refine e_A (listed':=#[false,true,false,false]) (by rfl) ?_;refine xJ [0] kR rfl ⟨fun o a1=>?_,trivial⟩;cases sI a1;refine zn2 ?_;refine e_A (listed':=#[true,true,false,false]) (by rfl) ?_;refine xJ [2] kR rfl ⟨fun o a1=>?_,trivial⟩;cases sI a1;refine zk a2.u rfl rfl yv rfl zJ (fun w31 hq s26=>?_);replace a2:=hq;refine zQ (e_A (listed':=#[true,true,true,false]) (by rfl) ?_);refine xJ [3] kR rfl ⟨fun o a1=>?_,trivial⟩;cases sI a1;refine zk a3.u rfl rfl qy rfl zJ (fun w32 hq s27=>?_);replace a3:=hq;refine zQ (e_A (listed':=#[true,true,true,true]) (by rfl) (Q1 kR (zn7 ?_)));refine kY (.inl rfl) rfl (zZ U84 rfl rfl a2.u.range0 yv) (zZ U45 rfl rfl a3.range0 qy) ?_;exact⟨Iv (x7 l fs gx) (ba a7) a7,hB.u⟩
  refine zn7 ?_;refine xK (2-(k+1)) oG agA ?_;replace hB:=hB.tr0 (ad.t (a9.t a8));replace b2:=b2.tr0 (ad.t (a9.t a8));replace a2:=a2.tr0 (ad.t (a9.t a8));replace a3:=a3.tr0 (ad.t (a9.t a8));replace b1:=b1.tr0 (ad.t (a9.t a8));replace a6:=a6.tr0 (ad.t (a9.t a8));replace a4:=a4.tr0 (a9.t a8);replace a5:=a5.tr0 (a9.t a8)
  exact⟨k+1,by omega,rfl,rfl,hB,a4,a5,b2,a2,a3,b1,a6,(fun h=>by
    by_cases e:k=0
    · rw[hx0 e]at a7;exact ak.1 a7
    · exact bb oG),fun h=>by
    rw[hx1 oG]at a7;exact ak.1 a7⟩
 have hke:k=2:=by omega
 have hz:uj l fs ga gb=(0,0):=by
   rw[SW h0 (bb oG)];have h2:=hq2 oG;have h3:(yJ l fs gb).1=0:=by rw[KV h0];exact h2
   have bc:=H5 h3;rw[XY bc.lo bc.t bc.u]
 refine zn8 ?_;refine wl (kK (vs:=#[]) (cs:=#[.int .i64 0,.int .i64 0]) (by simp) kR) ?_;refine zk a2 rfl rfl yv rfl zJ (fun w33 hq s28=>?_);replace a2:=hq;refine zk a3.u rfl rfl qy rfl zJ (fun w34 hq s29=>?_);replace a3:=hq;refine zn3 ?_;refine kY (.inl rfl) rfl (zZ U84 rfl rfl a2.u.range0 yv) (zZ U45 rfl rfl a3.range0 qy) ?_;replace a4:=(a4.tr1 s28 oG).tr1 s29 oG;replace a5:=(a5.tr1 s28 oG).tr1 s29 oG;exact⟨both_yes hz ⟨a4,a5⟩,hB.u⟩
theorem find_any(G1 G2:Option Addr)(c1 c2 bu bd:Nat)(l:List Ty)(fs:List Ft)(ga gb:List Nd)(w:World)(hI:TableIn w l bu bd)(hG1:NodesIn w G1 ga)(hG2:NodesIn w G2 gb)(c8:GV l fs ga)(hvb:GV l fs gb):Calls prog 43 #[.agg #[.slice (some ⟨bu,0,none⟩) l.length l.length,.slice (some ⟨bd,0,none⟩) l.length l.length],.agg #[.slice G1 ga.length c1],.agg #[.slice G2 gb.length c2]] w fun e w'=>FindR w.heap.size l ga gb e w'/\Bel w w':=by
 have hk:=c8.gok;have c3:=hvb.gok;have hn6:=hk.le;have hn0:=hk.pos;have hb6:=c3.le;have hb0:=c3.pos;have hf40:=c8.few;have cd:=c8.s.le;refine enT func43 ntmps43 rfl rfl fun hB=>?_;refine zn2 ?_;refine qY (v:= .agg #[_,_]) (cs:=#[_,_]) rfl rfl (fun b3 w1 a6 s1 hr=>?_);refine qY (v:= .agg #[_]) (cs:=#[_]) rfl rfl (fun b4 w2 a5 s2 hr=>?_);refine qY (v:= .agg #[_]) (cs:=#[_]) rfl rfl (fun b5 w3 a4 s3 hr=>?_);refine zn8 ?_;refine M3 (m:=ga.length) U68 Ij rfl rfl rfl oG oG (fun bf w4 a1 s4 hr=>?_);have:=nLL a6.u.lt hr;have:=nLL a5.u.lt hr;have:=nLL a4.lt hr;have bk:=nLT (Bel.size hB.u) hr;refine jz ?_;refine qj (rg [8] 21 7) (fun m g w'=>∃ k:Nat,k<=ga.length/\m=ga.length-k/\g 21= .int .i64 k/\Bel w w'/\Blk w' b3 84 #[.slice (some ⟨bu,0,none⟩) l.length l.length,.slice (some ⟨bd,0,none⟩) l.length l.length]/\Blk w' b4 28 #[.slice G1 ga.length c1]/\Blk w' b5 28 #[.slice G2 gb.length c2]/\Blk w' bf 3 (row ga.length (fun x=> .int .i64 ((fun x=>if x<k then -1 else 0) x)))) (ga.length) ?_ (fun m g3 w5 hI=>?_)
 ·refine⟨0,ag _,rfl,rfl,hB.u,a6.u,a5.u,a4.u,?_⟩;rw[vx (g':=fun _=> .int .i64 0) (fun j _=>by simp)];exact a1
 obtain⟨k,hkk,hm,h21,hB,a6,a5,a4,a1⟩:=hI;refine zK 21 _ h21 nu (zn6 ?_);refine zV rfl (fun c22=>?_) (fun c22=>?_)
 ·have hlt:k<ga.length:=by omega
  refine Jj ?_;refine xZ (v:= .int _ _) a1 rfl rfl qV (by rw[row_size];omega) rfl uk (fun w6 hq s5=>?_);replace a1:=hq
  rw[vx (g':=fun x=> .int .i64 (if x<k+1 then -1 else 0)) (fun x _=>by
    by_cases e:x=k
    · subst e;simp
    · have e1:(x<k+1)↔(x<k):=by omega
      simp[e,e1])]at a1
  refine zn7 ?_;refine xK (ga.length-(k+1)) oG agA ?_;exact⟨k+1,by omega,rfl,rfl,hB.u,a6.u,a5.u,a4.u,a1⟩
 have hke:k=ga.length:=by omega
 rw[hke,vx (g':=fun _=> .int .i64 (-1)) (fun j hj=>by simp[hj])]at a1;refine zn8 ?_;refine wl (xX (i:=0) U68 qV rfl rfl hn0 rfl) ?_;refine xZ (v:= .int _ _) a1 rfl rfl qV (by rw[row_size];omega) rfl uk (fun w7 hq s6=>?_);replace a1:=hq;rw[FW (out:=fun _=>-1)]at a1;refine zn5 ?_;refine qv (cs:=#[_]) [(0,.int _ _)] rfl U68 qV I3 dE dE kR rfl (fun b30 w8 ce s7 hr=>?_);have a9:bf<b30:=nLL a1.lt hr;refine zn4 ?_;refine qj (rg [6,9,10,11,13,14] 31 85) (fun m g w'=>∃(st:List Int) (A9:Option Addr) (be:Nat) (out:Nat->Int),m=2*jW ga.length (got out)+st.length/\2*jW ga.length (got out)+st.length<=200/\g 9= .slice A9 st.length be/\Bel w w'/\Blk w' b3 84 #[.slice (some ⟨bu,0,none⟩) l.length l.length,.slice (some ⟨bd,0,none⟩) l.length l.length]/\Blk w' b4 28 #[.slice G1 ga.length c1]/\Blk w' b5 28 #[.slice G2 gb.length c2]/\Blk w' bf 3 (row ga.length (fun x=> .int .i64 (out x)))/\Own w' (bf+1) 3 1 A9 (st).length be ((st).map (Value.int .i64))/\FS l ga gb out st ga.length 0) (2*jW ga.length (got (Jw (fun _=>-1) 0 0))+1) ?_ (fun m g9 w9 hI=>?_)
 ·replace hB:=(hB.tr1 s6 bk).tr0 s7;replace a6:=(a6.tr1 s6 oG).tr0 s7;replace a5:=(a5.tr1 s6 oG).tr0 s7;replace a4:=(a4.tr1 s6 oG).tr0 s7;replace a1:=a1.tr0 s7;exact⟨[0],_,_,Jw (fun _=>-1) 0 0,rfl,by have:=Pv ga.length (got (Jw (fun _=>-1) 0 0));simp only[List.length_cons,List.length_nil];omega,rfl,hB,a6,a5,a4,a1,I9 ce a9 rfl dE,FS.start hn0 hb0⟩
 obtain⟨st,A9,be,out,hm,hbd,h9,hB,a6,a5,a4,a1,ho,hfs⟩:=hI;refine zK 9 _ h9 nu (zn8 ?_);refine zV rfl (fun c33=>?_) (fun c33=>?_)
 ·obtain⟨ad,z,rfl⟩:=snoc_of (show 0<st.length by omega);obtain⟨i,jn,rfl,a2,bm,a8,c4⟩:=hfs.pop;have bq:(ad++[(i:Int)]).length=ad.length+1:=by simp
  obtain⟨q9,rfl,hqb,hql9,hqc⟩:=ho.cell (by simp);have hz:w9.cell? ⟨q9,0+ad.length*1,none⟩=some (.int .i64 (i:Int)):=by
    have:=hqc ad.length (.int .i64 (i:Int)) (by simp)
    simpa using this
  obtain⟨nb1,no1,LA,lc,rfl,c0,bn,hln⟩:=hG1.at_ (Below.refl _ _:Bel w w) a2;obtain⟨nb2,no2,LB,lcb,rfl,cc,bz,hlnb⟩:=hG2.at_ (Below.refl _ _:Bel w w) a8;have hmx:=hln.1;unfold jx at hmx;have hfwa:=hk.few i a2;have hfwb:=c3.few jn a8;obtain⟨yn,hyn,ca⟩:∃ t:Nat,(ga[i]'a2).ty=(t:Int)/\t<l.length:=by
    have h:=hk.ty i a2;exact⟨(ga[i]'a2).ty.toNat,by omega,by omega⟩
  obtain⟨zn,hzn,c9⟩:∃ t:Nat,(gb[jn]'a8).ty=(t:Int)/\t<l.length:=by
    have h:=c3.ty jn a8;exact⟨(gb[jn]'a8).ty.toNat,by omega,by omega⟩
  have hsub:sub l (nd gb jn).ty.toNat (nd ga i).ty.toNat=sub l zn yn:=by rw[yV a2,yV a8,hyn,hzn,Int.toNat_natCast,Int.toNat_natCast]
  refine zn8 ?_;refine wl (jX (c:=(ad.length:Int)) rfl rfl (by rw[bq];omega) oG) (wl (xX (i:=ad.length) U68 qV rfl rfl (by rw[bq];omega) rfl) (wl (qW (v:= .int _ _) U3 rfl rfl hz) (zn8 ?_)));refine wl (jX (c:=(ad.length:Int)) rfl rfl (by rw[bq];omega) oG) (wl (Dq (h:=ad.length) U68 qV rfl rfl (by have:=ho.cap_le;omega)) (zn4 ?_));replace ho:Own w9 (bf+1) 3 1 (some ⟨q9,0,none⟩) ad.length be (ad.map (Value.int .i64)):=by
    have h:=ho.take (k':=ad.length) oG oG
    simpa using h
  have hcj:w9.cell? ⟨bf,0+i*1,none⟩=some (.int .i64 (jn:Int)):=by rw[<- bm];exact a1.cell (jJ a2)
  refine zn3 ?_;refine wl (xX (i:=i) U68 qV rfl rfl a2 rfl) (wl (qW (v:= .int _ _) U3 rfl rfl hcj) (zn5 ?_));rw[hyn]at bn;rw[hzn]at bz;refine u5 [] [0,1,2,3,4,5,6,7,8,9,10,11,12,13,14] rfl (fun w10 s8=>?_);refine zn6 ?_;refine hl1 (v:= .int _ _) rfl U3 rfl rfl (hB.u.cell cc (bz 0 _ rfl)) (zn5 ?_);refine hl1 (v:= .int _ _) rfl U3 rfl rfl (hB.u.cell c0 (bn 0 _ rfl)) ?_;refine hcl (fun v wv=>v= .bool (sub l zn yn)) rfl kR (PY l bu bd zn yn w10 (hI.mono hB.u) cd c9 ca) rfl (fun e' w2 hr=>?_) (fun v62 w11 s9 d62=>?_)
  ·obtain⟨rfl,s10⟩:=hr;exact⟨_,rfl,sB s10,rfl⟩
  have e62:=d62;subst e62;refine zn3 ?_;refine ky rfl (fun cg=>?_) (fun cg=>?_)
  ·have cb:¬Maps l ga gb:=c4.noTy a2 (by rw[bm,Int.toNat_natCast,hsub];simpa using cg);refine jz ?_;exact⟨find_no cb,hB.u⟩
  have hty:sub l (nd gb jn).ty.toNat (nd ga i).ty.toNat=true:=by rw[hsub];simpa using cg
  refine zn7 ?_;refine wl (xX (i:=i) U26 oK rfl rfl a2 rfl) (zn1 ?_);refine wl (qW (v:= .slice _ _ _) U91 rfl rfl (hB.u.cell c0 (bn 1 _ rfl))) (zn5 ?_);replace ho:=ho.tr0 (s8.t s9);refine qj (rg [6,9,13,14] 71 45) (fun m g w'=>∃(q:Nat) (b2:List Int) (A5:Option Addr) (br:Nat) (a3:Nat->Int),q<=(ga[i]'a2).ln.length/\m=(ga[i]'a2).ln.length-q/\g 71= .int .i64 q/\g 9= .slice A5 b2.length br/\a3 i=(jn:Int)/\2*jW ga.length (got a3)+b2.length<=2*jW ga.length (got out)+ad.length/\Bel w w'/\Blk w' b3 84 #[.slice (some ⟨bu,0,none⟩) l.length l.length,.slice (some ⟨bd,0,none⟩) l.length l.length]/\Blk w' b4 28 #[.slice (some ⟨nb1,no1,none⟩) ga.length c1]/\Blk w' b5 28 #[.slice (some ⟨nb2,no2,none⟩) gb.length c2]/\Blk w' bf 3 (row ga.length (fun x=> .int .i64 (a3 x)))/\Own w' (bf+1) 3 1 A5 (b2).length br ((b2).map (Value.int .i64))/\FS l ga gb a3 b2 i q) ((ga[i]'a2).ln.length) ?_ (fun m g16 w12 hI=>?_)
  ·exact⟨0,ad,_,_,out,ag _,rfl,rfl,rfl,bm,ae _,hB.u,a6.u,a5.u,a4.u,a1.u,ho,c4⟩
  obtain⟨q,b2,A5,br,a3,hq,hmq,h71,h9,bb,hms,hB,a6,a5,a4,a1,ho,bc⟩:=hI;refine zK 71 _ h71 nu (zK 9 _ h9 nu (zn6 ?_));refine zV rfl (fun c72=>?_) (fun c72=>?_)
  ·have a7:q<(ga[i]'a2).ln.length:=by omega
   obtain⟨lb,lof,rfl,hlb,hlr⟩:=hln.at_ hB a7;obtain⟨t,ht,htl⟩:∃ t:Nat,((ga[i]'a2).ln[q]'a7).2=(t:Int)/\t<ga.length:=by
     have h1:=hk.ln i a2 _ (ar a7);exact⟨(((ga[i]'a2).ln[q]'a7).2).toNat,by omega,by omega⟩
   have hxm:((ga[i]'a2).ln[q]'a7)∈(nd ga i).ln:=by rw[yV a2];exact ar a7
   have hte:tgt (nd gb (a3 i).toNat).ln ((ga[i]'a2).ln[q]'a7).1=tgt (gb[jn]'a8).ln ((ga[i]'a2).ln[q]'a7).1:=by rw[bb,Int.toNat_natCast,yV a8]
   have bw:sub l (nd gb (a3 i).toNat).ty.toNat (nd ga i).ty.toNat=true:=by rw[bb,Int.toNat_natCast];exact hty
   have htr:=tgt_rng c3 a8 ((ga[i]'a2).ln[q]'a7).1;refine zn7 ?_;refine wl (qZ U90 rfl rfl hlr qJ) ?_;refine yj (cs:=#[.int .i64 0,.int .i64 0]) Q3 rfl (fun _=>rfl) (fun _=>rfl) qJ rfl zJ (fun b13 w14 c5 b8 hr=>?_);have:=nLL a1.lt hr;have an:=fun g hg=>nLL (ho.lt g hg).2 hr
   refine zn3 ?_;rw[ht]at c5;refine zn5 ?_;refine aY kR (Vj (some ⟨nb2,no2,none⟩) c2 fs.length gb jn ((ga[i]'a2).ln[q]'a7).1 _ (hG2.mono hB.u) a8 (V6 hvb.lo jn a8) oG) rfl (fun w15 b7=>?_);refine zn5 ?_;replace hB:=hB.tr0 (b8.t b7);replace a1:=a1.tr0 (b8.t b7);refine xk (rg [] 80 19) 98 (.bool (decide (tgt (gb[jn]'a8).ln ((ga[i]'a2).ln[q]'a7).1<0\/0<=a3 t/\¬a3 t=tgt (gb[jn]'a8).ln ((ga[i]'a2).ln[q]'a7).1))) nu ?_ (fun gq=>?_)
   ·refine zn4 ?_;refine zw 82 rfl (fun g82=>?_) (fun g82=>?_)
    ·refine M2 ?_;refine zQ (e_R ⟨rfl,agA,?_⟩);exact clA
    refine zn7 ?_;refine wl (xX (i:=t) U68 qV rfl rfl htl rfl) (zn1 ?_);refine wl (qW (v:= .int _ _) U3 rfl rfl (a1.cell (jJ htl))) (zn4 ?_);refine zw 89 rfl (fun g89=>?_) (fun g89=>?_)
    ·refine zn7 ?_;refine wl (xX (i:=t) U68 qV rfl rfl htl rfl) (zn1 ?_);refine wl (qW (v:= .int _ _) U3 rfl rfl (a1.cell (jJ htl))) (zn7 ?_);refine zQ (e_R ⟨rfl,agA,?_⟩);exact clA
    refine vy ?_;refine zQ (e_R ⟨rfl,agA,?_⟩);exact clA
   refine e_S ?_;refine zV rfl (fun c98=>?_) (fun c98=>?_)
   ·have cb:¬Maps l ga gb:=bc.noLn a2 hxm (by rw[hte,ht,Int.toNat_natCast];exact c98);refine M2 ?_;exact⟨find_no cb,hB⟩
   refine zn7 ?_;refine wl (xX (i:=t) U68 qV rfl rfl htl rfl) (wl (qW (v:= .int _ _) U3 rfl rfl (a1.cell (jJ htl))) (zn3 ?_));replace ho:=ho.tr0 (b8.t b7);refine zV rfl (fun b1=>?_) (fun b1=>?_)
   ·have bo:=bc.new a2 a7 bw ht htl b1 (by rw[hte];omega) (by rw[hte];omega);rw[hte]at bo;refine zn6 ?_;refine wl (xX (i:=t) U68 qV rfl rfl htl rfl) ?_;refine xZ (v:= .int _ _) a1 rfl rfl qV (by rw[row_size];omega) rfl uk (fun w16 hq c7=>?_);replace ho:=ho.tq c7;replace a1:=hq;rw[FW (out:=a3)]at a1;refine zn6 ?_;refine qv (cs:=#[_]) [(0,.int _ _)] rfl U68 qV I3 dE dE kR rfl (fun b113 w17 c6 bv hr=>?_);have:=nLL a6.u.lt hr;have:=nLL a5.u.lt hr;have:=nLL a4.u.lt hr;have:=nLL a1.lt hr;replace ho:=ho.tr0 bv;refine jv U68 Ij rfl dE ho c6 rfl rfl rfl zJ dE oG oG a1.u.lt (fun b6 cf w18 bj bt hg=>?_);have bi:b6≠b3:=neA ho a6.u.lt hg
    have bh:b6≠b4:=neA ho a5.u.lt hg
    have bg:b6≠b5:=neA ho a4.u.lt hg
    have b9:b6≠bf:=neA ho a1.u.lt hg
    have ba:b6≠b13:=neB c5.u.lt hg (neL an)
    replace hB:=hB.u.tr bt (fun g hg=>nLT (aN bk) (ho.lt g hg).1);replace a6:=((a6.tr0 (b8.t b7)).tr1 c7 oG).tr0 bv;replace a6:=a6.ta bt ho;replace a5:=((a5.tr0 (b8.t b7)).tr1 c7 oG).tr0 bv;replace a5:=a5.ta bt ho;replace a4:=((a4.tr0 (b8.t b7)).tr1 c7 oG).tr0 bv;replace a4:=a4.ta bt ho;replace a1:=a1.tr0 bv;replace a1:=a1.ta bt ho;refine zn8 ?_;refine xK ((ga[i]'a2).ln.length-(q+1)) oG agA ?_
    first
      | exact⟨q+1,b2++[(t:Int)],_,_,Jw a3 t (tgt (gb[jn]'a8).ln ((ga[i]'a2).ln[q]'a7).1),by omega,rfl,rfl,P9 _ _ _ _,by rw[kJ (fun e=>by rw[<- e,bb]at b1;omega)];exact bb,by have:=WJ htl b1 (show 0<=tgt (gb[jn]'a8).ln ((ga[i]'a2).ln[q]'a7).1 by omega);simp only[List.length_append,List.length_cons,List.length_nil];omega,hB,a6,a5,a4,a1,NX bj,bo⟩
      | exact⟨q+1,b2,_,_,a3,by omega,rfl,rfl,rfl,bb,hms,hB,a6,a5,a4,a1,ho,bx⟩
   have bx:=bc.old a2 a7 bw (by rw[ht,Int.toNat_natCast];omega) (by rw[hte,ht,Int.toNat_natCast];omega);refine zn7 ?_;refine xK ((ga[i]'a2).ln.length-(q+1)) oG agA ?_;replace a6:=a6.tr0 (b8.t b7);replace a5:=a5.tr0 (b8.t b7);replace a4:=a4.tr0 (b8.t b7)
   first
     | exact⟨q+1,b2++[(t:Int)],_,_,Jw a3 t (tgt (gb[jn]'a8).ln ((ga[i]'a2).ln[q]'a7).1),by omega,rfl,rfl,P9 _ _ _ _,by rw[kJ (fun e=>by rw[<- e,bb]at b1;omega)];exact bb,by have:=WJ htl b1 (show 0<=tgt (gb[jn]'a8).ln ((ga[i]'a2).ln[q]'a7).1 by omega);simp only[List.length_append,List.length_cons,List.length_nil];omega,hB,a6,a5,a4,a1,NX bj,bo⟩
     | exact⟨q+1,b2,_,_,a3,by omega,rfl,rfl,rfl,bb,hms,hB,a6,a5,a4,a1,ho,bx⟩
  have hqx:q=(ga[i]'a2).ln.length:=by omega
  refine zn5 ?_;refine xK (2*jW ga.length (got a3)+b2.length) oG agA ?_;exact⟨b2,_,_,a3,rfl,by omega,rfl,hB,a6,a5,a4,a1,ho,bc.done a2 hqx (by rw[bb,Int.toNat_natCast];exact hty)⟩
 have hst:st= []:=aB.1 oG;subst hst;refine oJ ?_;exact⟨find_yes c8.rch hfs a1 hn6 bk,hB⟩
theorem subs_any(A B G1 G2:Option Addr)(c d c1 c2:Nat)(l:List Ty)(fs:List Ft)(ga gb:List Nd)(w:World)(a8:TabIn w)(hT:TypesIn w A l)(hF:FeatsIn w B fs)(hG1:NodesIn w G1 ga)(hG2:NodesIn w G2 gb):Calls prog 12 #[.agg #[.slice A l.length c,.slice B fs.length d],.agg #[.slice G1 ga.length c1],.agg #[.slice G2 gb.length c2]] w fun e w'=>e= .returned (.tuple #[.bool (Fy l fs ga gb),.agg #[.int .i64 (uj l fs ga gb).1,.int .i64 (uj l fs ga gb).2]])/\Bel w w':=by
 refine enT func12 ntmps12 rfl rfl fun hB=>?_;refine zn2 ?_;refine qY (v:= .agg #[_,_]) (cs:=#[_,_]) rfl rfl (fun b3 w1 hb3 s1 hr=>?_);refine qY (v:= .agg #[_]) (cs:=#[_]) rfl rfl (fun b4 w2 hb4 s2 hr=>?_);refine qY (v:= .agg #[_]) (cs:=#[_]) rfl rfl (fun b5 w3 hb5 s3 hr=>?_);refine waB rfl ?_;refine qk (cs:=#[.int .i64 0,.int .i64 0]) uV rfl (fun b7 w4 a2 s4 hr=>?_);have lo7:=nLT (Bel.size hB.u) hr;refine zn7 ?_;refine zW kR (HJ A B G1 G2 c d c1 c2 l fs ga gb _ (a8.mono hB.u) (hT.mono hB.u) (hF.mono hB.u) (hG1.mono hB.u) (hG2.mono hB.u)) rfl (fun e' w5 hr=>?_);obtain⟨⟨U,D,n1,k1,n2,k2,rfl,hTB⟩,s5⟩:=hr;replace s5:=sB s5;have a9:Bel w5 w5:=Below.refl _ _;refine⟨_,rfl,?_⟩;refine wmT rfl (wl (y8 (v:=_) rfl rfl) (wl (y8 (v:=_) rfl rfl) ?_));refine qk (cs:=#[.slice none 0 0,.slice none 0 0]) Vz rfl (fun b8 w6 a7 s6 hr=>?_);have:=nLL hb4.u.lt hr;have:=nLL hb5.u.lt hr;have:=nLL a2.u.lt hr;have lo8:=nLT (Bel.size hB.u) hr;have a4:=nLT (Bel.size a9) hr;refine qk (cs:=#[.int .i64 0,.int .i64 0]) uV rfl (fun b9 w7 hb9 s7 hr=>?_);have:=nLL hb4.u.lt hr;have:=nLL hb5.u.lt hr;have:=nLL a2.u.lt hr;have:=nLL a7.lt hr;have lo9:=nLT (Bel.size hB.u) hr;have a3:=nLT (Bel.size a9.u) hr;refine zk a7.u rfl rfl yv rfl zJ (fun w8 hq s8=>?_);replace a7:=hq;refine zk hb9.u rfl rfl qy rfl zJ (fun w9 hq s9=>?_);replace hb9:=hq;refine vy ?_;refine zV rfl (fun a5=>?_) (fun a5=>?_)
 ·refine xy ?_;refine c_all #[false,false,false] kR (by rfl) (fun w10 s10=>?_);refine xJ [0,1] kR rfl ⟨fun o a1=>?_,fun o a1=>?_,trivial⟩
  ·cases sI a1;refine zn2 ?_;refine e_A (listed':=#[true,false,false]) (by rfl) ?_;refine xJ [1] kR rfl ⟨fun o a1=>?_,trivial⟩;cases sI a1;refine zn2 ?_;refine e_A (listed':=#[true,true,false]) (by rfl) ?_;refine xJ [2] kR rfl ⟨fun o a1=>?_,trivial⟩;cases sI a1;refine zk a2.u rfl rfl qy rfl zJ (fun w11 hq s11=>?_);replace a2:=hq;refine zQ (e_A (listed':=#[true,true,true]) (by rfl) (Q1 kR (zn3 ?_)));refine kY (.inl rfl) rfl rfl (zZ U45 rfl rfl a2.range0 qy) ?_;exact⟨G4 (subB_no a5) rfl,hB.u⟩
  cases sI a1;refine zn2 ?_;refine e_A (listed':=#[false,true,false]) (by rfl) ?_;refine xJ [0] kR rfl ⟨fun o a1=>?_,trivial⟩;cases sI a1;refine zn2 ?_;refine e_A (listed':=#[true,true,false]) (by rfl) ?_;refine xJ [2] kR rfl ⟨fun o a1=>?_,trivial⟩;cases sI a1;refine zk a2.u rfl rfl qy rfl zJ (fun w12 hq s12=>?_);replace a2:=hq;refine zQ (e_A (listed':=#[true,true,true]) (by rfl) (Q1 kR (zn3 ?_)));refine kY (.inl rfl) rfl rfl (zZ U45 rfl rfl a2.range0 qy) ?_;exact⟨G4 (subB_no a5) rfl,hB.u⟩
 have h0:=ak.1 a5;obtain⟨⟨hva,hvb⟩,_⟩:=SY h0;have hzz:=two_zz h0;obtain⟨bu,bd,⟨rfl,rfl,rfl,rfl,rfl,rfl⟩,hTI⟩:=hTB h0;refine zn7 ?_;refine zW kR (find_any G1 G2 c1 c2 bu bd l fs ga gb _ (hTI.mono a9.u) (hG1.mono hB.u) (hG2.mono hB.u) hva hvb) rfl (fun e' w13 hr=>?_);obtain⟨⟨FA,fc,rfl,_,hFN⟩,a6⟩:=hr;replace a6:=sB a6;refine⟨_,rfl,?_⟩;refine wl (r_neqNil U68 rfl rfl) (wl (kK (vs:=#[]) (cs:=#[.int .i64 0,.int .i64 0]) (by simp) kR) (waB rfl ?_));refine zk a2.u rfl rfl qy rfl zJ (fun w14 hq s14=>?_);replace a2:=hq;refine zn3 ?_;refine kY (.inl rfl) rfl rfl (zZ U45 rfl rfl a2.range0 qy) ?_;replace hB:=((((hB.tr0 (s1.t (s2.t (s3.t (s4.t (s5.t (s6.t s7))))))).tr1 s8 lo8).tr1 s9 lo9).tr0 a6).tr1 s14 lo7;exact⟨G4 (by rw[Fw h0,hFN,Bool.not_not]) hzz,hB⟩
end Go.Proofs.YtiofaflajkgiaaaGreatDoor
