/- What these functions compute, at every world: subsume.Both; and plain laws. -/
import Derived.Test.YtmfiholmfieieaaDoorComp
namespace Go.Proofs.YtmfiholmfieieaaDoor
open Go.RowKit
variable {a b g:List Nd}{ch:Bool}{i j k n r s t x:Nat}{l:List Ty}{o:List Nat}{out:Nat->Int}{p p0:Nat->Nat->Bool}{st:List Int}{xs:List (Int×Int)}{φ ψ:Nat->Nat}
structure Hom(l:List Ty)(a b:List Nd)(φ:Nat->Nat):Prop where
 zero:φ 0=0
 lt:∀ i,i<a.length->φ i<b.length
 ty:∀ i,i<a.length->sub l (nd b (φ i)).ty.toNat (nd a i).ty.toNat=true
 ln:∀ i,i<a.length->∀ x∈(nd a i).ln,tgt (nd b (φ i)).ln x.1=((φ x.2.toNat:Nat):Int)
theorem Hom.uniq(h:Hom l a b φ)(k:Hom l a b ψ)(hr:Rch a i):φ i=ψ i:=by
 induction hr with
 | zero=>rw[h.zero,k.zero]
 | step hr hi hx ih=>
  rename_i i x
  have e:=yv hi;have h1:=h.ln i hi x (by rw[e];exact hx);have h2:=k.ln i hi x (by rw[e];exact hx)
  grind
def Maps(l:List Ty)(a b:List Nd):Prop:=∃ φ,Hom l a b φ
noncomputable instance(l:List Ty)(a b:List Nd):Decidable (Maps l a b):=Classical.propDecidable _
def C8(out:Nat->Int)(t:Nat)(v:Int)(x:Nat):Int:=if x=t then v else out x
theorem Y5(out:Nat->Int)(t:Nat)(v:Int):C8 out t v t=v:=by simp[C8]
theorem uX{v:Int}(h:x≠t):C8 out t v x=out x:=by simp[C8,h]
def LinksDone(a b:List Nd)(out:Nat->Int)(j k:Nat):Prop:=∀ x∈(nd a j).ln.take k,0<=out x.2.toNat/\tgt (nd b (out j).toNat).ln x.1=out x.2.toNat
def Hk(l:List Ty)(a b:List Nd)(out:Nat->Int)(j:Nat):Prop:=sub l (nd b (out j).toNat).ty.toNat (nd a j).ty.toNat=true/\LinksDone a b out j (nd a j).ln.length
structure FS(l:List Ty)(a b:List Nd)(out:Nat->Int)(st:List Int)(i k:Nat):Prop where
 zero:out 0=0
 rng:∀ j,-1<=out j/\out j<b.length
 only:∀ j,0<=out j->∀ φ,Hom l a b φ->out j=(φ j:Nat)
 stk:∀ s∈st,∃ n:Nat,s=(n:Int)/\n<a.length/\0<=out n
 cl:∀ j,j<a.length->0<=out j->j≠i->(j:Int)∈st\/Hk l a b out j
 me:i<a.length->0<=out i/\LinksDone a b out i k
 ty:i<a.length->0<k->sub l (nd b (out i).toNat).ty.toNat (nd a i).ty.toNat=true
theorem FS.start(ha:0<a.length)(hb:0<b.length):FS l a b (C8 (fun _=>-1) 0 0) [0] a.length 0:=by
 refine⟨by simp[C8],fun j=>?_,fun j hj φ h=>?_,fun s hs=>?_,fun j _ hj _=>?_,fun hi=>absurd hi (aA _),fun hi=>absurd hi (aA _)⟩
 ·grind[Y5,uX]
 ·by_cases e:j=0
  ·subst e;rw[h.zero];simp[C8]
  ·grind[uX]
 ·grind[C8]
 ·grind[uX]
theorem FS.pop{z:Int}(h:FS l a b out (st++[z]) a.length 0):∃ n m:Nat,z=(n:Int)/\n<a.length/\out n=(m:Int)/\m<b.length/\FS l a b out st n 0:=by
 obtain⟨n,rfl,hn,hm⟩:=h.stk z (by simp);have hr:=h.rng n;refine⟨n,(out n).toNat,rfl,hn,by omega,by omega,h.zero,h.rng,h.only,fun s hs=>h.stk s (by simp[hs]),fun j hj hmj hne=>?_,fun _=>⟨hm,fun x hx=>by simp at hx⟩,fun _ hk=>absurd hk (aA _)⟩;rcases h.cl j hj hmj oG with h1|h1
 ·rcases ay.1 h1 with h2|h2
  ·exact .inl h2
  ·have:=aj.1 h2
   omega
 ·exact .inr h1
theorem take_nd(hi:i<a.length)(hk:k<(a[i]).ln.length):(nd a i).ln.take (k+1)=(nd a i).ln.take k++[(a[i]).ln[k]]:=by
 rw[yv hi,List.take_succ_eq_append_getElem hk]
theorem LinksDone.snoc{a b:List Nd}{out:Nat->Int}{i k:Nat}(h:LinksDone a b out i k)(hi:i<a.length)(hk:k<(a[i]).ln.length)(hx:0<=out ((a[i]).ln[k]).2.toNat/\tgt (nd b (out i).toNat).ln ((a[i]).ln[k]).1=out ((a[i]).ln[k]).2.toNat):LinksDone a b out i (k+1):=fun x hxm=>by
 rw[take_nd hi hk]at hxm
 rcases ay.1 hxm with h1|h1
 ·exact h x h1
 ·grind
theorem FS.old(h:FS l a b out st i k)(hi:i<a.length)(hk:k<(a[i]).ln.length)(hty:sub l (nd b (out i).toNat).ty.toNat (nd a i).ty.toNat=true)
  (hm:0<=out ((a[i]).ln[k]).2.toNat) (he:out ((a[i]).ln[k]).2.toNat=tgt (nd b (out i).toNat).ln ((a[i]).ln[k]).1):FS l a b out st i (k+1):=
 ⟨h.zero,h.rng,h.only,h.stk,h.cl,fun _=>⟨(h.me hi).1,(h.me hi).2.snoc hi hk ⟨hm,he.symm⟩⟩,fun _ _=>hty⟩
theorem LinksDone.set{v:Int}(h:LinksDone a b out j k)(hj:0<=out j)(ht:out t<0):LinksDone a b (C8 out t v) j k:=fun x hx=>by
 have h1:=h x hx
 grind[uX,h1]
theorem FS.new(h:FS l a b out st i k)(hi:i<a.length)(hk:k<(a[i]).ln.length)(hty:sub l (nd b (out i).toNat).ty.toNat (nd a i).ty.toNat=true)
  (htt:((a[i]).ln[k]).2=(t:Int)) (htl:t<a.length) (hn:out t<0) (h0:0<=tgt (nd b (out i).toNat).ln ((a[i]).ln[k]).1) (hb:tgt (nd b (out i).toNat).ln ((a[i]).ln[k]).1<b.length):FS l a b (C8 out t (tgt (nd b (out i).toNat).ln ((a[i]).ln[k]).1)) (st++[(t:Int)]) i (k+1):=by
 have a1:=(h.me hi).1;have hit:i≠t:=fun e=>by rw[e]at a1;omega
 have h0t:0≠t:=fun e=>by have:=h.zero;rw[e]at this;omega
 have hxm:(a[i]).ln[k]∈(nd a i).ln:=by rw[yv hi];exact ap hk
 refine⟨by rw[uX h0t];exact h.zero,fun j=>?_,fun j hj φ hφ=>?_,fun s hs=>?_,fun j hj hm hne=>?_,fun _=>?_,fun _ _=>by rw[uX hit];exact hty⟩
 ·by_cases e:j=t
  ·grind[Y5]
  ·rw[uX e];exact h.rng j
 ·by_cases e:j=t
  ·subst e
   rw[Y5,h.only i a1 φ hφ,Int.toNat_natCast,hφ.ln i hi _ hxm,htt,Int.toNat_natCast]
  ·rw[uX e]at hj ⊢;exact h.only j hj φ hφ
 ·rcases ay.1 hs with hs|hs
  ·obtain⟨n,h1,h2,h3⟩:=h.stk s hs
   grind[h1,uX]
  ·grind[Y5]
 ·by_cases e:j=t
  ·grind
  ·rw[uX e]at hm
   rcases h.cl j hj hm hne with h1|h1
   ·grind
   ·refine .inr ⟨by rw[uX e];exact h1.1,h1.2.set hm hn⟩
 ·refine⟨by rw[uX hit];exact a1,?_⟩
  refine LinksDone.snoc ((h.me hi).2.set a1 hn) hi hk ?_
  grind[Int.toNat_natCast,Y5,uX]
theorem FS.done(h:FS l a b out st i k)(hi:i<a.length)(hk:k=(a[i]).ln.length)(hty:sub l (nd b (out i).toNat).ty.toNat (nd a i).ty.toNat=true):FS l a b out st a.length 0:=
 ⟨h.zero,h.rng,h.only,h.stk,fun j hj hm _=>by
  by_cases e:j=i
  ·subst e
   refine .inr ⟨hty,?_⟩
   have h1:=(h.me hj).2
   grind[yv,h1]
  ·exact h.cl j hj hm e,fun hi=>absurd hi (aA _),fun hi=>absurd hi (aA _)⟩
theorem FS.end_(hr:∀ i,i<a.length->Rch a i)(h:FS l a b out [] a.length 0):Hom l a b (fun i=>(out i).toNat)/\∀ i,i<a.length->0<=out i:=by
 have hd:∀ i,i<a.length->0<=out i->Hk l a b out i:=fun i hi hm=>by
  rcases h.cl i hi hm oG with h1|h1
  ·cases h1
  ·exact h1
 have a2:∀ i,Rch a i->i<a.length->0<=out i:=fun i hri=>by
  induction hri with
  | zero=>intro _;rw[h.zero];exact aH _
  | step hr hi hx ih=>
   rename_i i x
   intro _;have h1:=(hd i hi (ih hi)).2 x (by rw[List.take_length,yv hi];exact hx);exact h1.1
 have a1:∀ i,i<a.length->0<=out i:=fun i hi=>a2 i (hr i hi) hi
 refine⟨⟨by show (out 0).toNat=0;rw[h.zero];rfl,fun i hi=>?_,fun i hi=>(hd i hi (a1 i hi)).1,fun i hi x hx=>?_⟩,a1⟩
 ·have h1:=h.rng i;have h2:=a1 i hi;show (out i).toNat<b.length;omega
 ·have h1:=(hd i hi (a1 i hi)).2 x (by rw[List.take_length];exact hx)
  omega
def T6(p:Nat->Nat->Bool)(i j:Nat)(x y:Nat):Bool:=if x=i/\y=j then true else p x y
theorem E0(p:Nat->Nat->Bool)(i j:Nat):T6 p i j i j=true:=by simp[T6]
theorem setP_mono{y:Nat}(h:p x y=true):T6 p i j x y=true:=by
 unfold T6;split
 ·rfl
 ·exact h
theorem YV{y:Nat}(h:T6 p i j x y=true):(x=i/\y=j)\/p x y=true:=by
 grind[T6]
def Dz(na nb:Nat)(p:Nat->Nat->Bool):Nat:=(List.range (na*nb)).countP (fun z=>!p (z/nb) (z%nb))
theorem lackP_lt{na nb:Nat}{q:Nat->Nat->Bool}(hpq:∀ x y,p x y=true->q x y=true)(hi:i<na)(hj:j<nb)(h1:p i j=false)(h2:q i j=true):Dz na nb q<Dz na nb p:=by
 have hd:(i*nb+j)/nb=i:=by
  rw[Nat.mul_comm,Nat.mul_add_div oG,Nat.div_eq_of_lt hj,Nat.add_zero]
 have hm:(i*nb+j)%nb=j:=by
  rw[Nat.mul_comm,Nat.mul_add_mod,Nat.mod_eq_of_lt hj]
 have hl:i*nb+j<na*nb:=by
  have:=Nat.mul_le_mul_right nb (show i+1<=na from hi)
  grind
 refine Q0 (fun z hz=>?_) (List.range (na*nb)) (i*nb+j) (av.2 hl) ?_ ?_
 ·grind
 ·grind
 ·grind
def PairLn(a b:List Nd)(p:Nat->Nat->Bool)(i j k:Nat):Prop:=∀ x∈(nd a i).ln.take k,∃ t:Nat,tgt (nd b j).ln x.1=(t:Int)/\p x.2.toNat t=true
def PairOk(l:List Ty)(a b:List Nd)(p:Nat->Nat->Bool)(i j:Nat):Prop:=sub l (nd b j).ty.toNat (nd a i).ty.toNat=true/\PairLn a b p i j (nd a i).ln.length
structure PB(l:List Ty)(a b:List Nd)(p:Nat->Nat->Bool):Prop where
 zero:p 0 0=true
 rng:∀ i j,p i j=true->i<a.length/\j<b.length
 only:∀ i j,p i j=true->∀ φ,Hom l a b φ->φ i=j
structure MPS(l:List Ty)(a b:List Nd)(p:Nat->Nat->Bool)(ch:Bool):Prop where
 pb:PB l a b p
 cl:ch=false->∀ i j,p i j=true->PairOk l a b p i j
structure MPP(l:List Ty)(a b:List Nd)(p0 p:Nat->Nat->Bool)(ch:Bool)(i j k:Nat):Prop where
 pb:PB l a b p
 sup:∀ x y,p0 x y=true->p x y=true
 same:ch=false->∀ x y,p x y=true->p0 x y=true
 more:ch=true->Dz a.length b.length p<Dz a.length b.length p0
 done:∀ x y,p0 x y=true->x<i\/x=i/\y<j->PairOk l a b p x y
 me:0<k->i<a.length/\j<b.length/\p i j=true/\sub l (nd b j).ty.toNat (nd a i).ty.toNat=true/\PairLn a b p i j k
theorem MPS.start(ha:0<a.length)(hb:0<b.length):MPS l a b (T6 (fun _ _=>false) 0 0) true:=
 ⟨⟨E0 _ _ _,(fun i j h=>by
  rcases YV h with ⟨rfl,rfl⟩|h
  ·exact⟨ha,hb⟩
  ·cases h),(fun i j h φ hφ=>by
  rcases YV h with ⟨rfl,rfl⟩|h
  ·exact hφ.zero
  ·cases h)⟩,fun h=>nomatch h⟩
theorem MPP.start(h:MPS l a b p ch):MPP l a b p p false 0 0 0:=
 ⟨h.pb,fun _ _ h=>h,fun _ _ _ h=>h,(fun h=>nomatch h),(fun x y _ hx=>by omega),fun hk=>absurd hk (aA _)⟩
theorem MPP.row(h:MPP l a b p0 p ch i b.length 0):MPP l a b p0 p ch (i+1) 0 0:=
 ⟨h.pb,h.sup,h.same,h.more,fun x y hp hx=>h.done x y hp (by
  have:=(h.pb.rng x y (h.sup x y hp)).2
  omega),fun hk=>absurd hk (aA _)⟩
theorem MPP.skip(h:MPP l a b p0 p ch i j 0)(hp:p i j=false):MPP l a b p0 p ch i (j+1) 0:=
 ⟨h.pb,h.sup,h.same,h.more,fun x y h0 hx=>by
  by_cases e:x=i/\y=j
  ·obtain⟨rfl,rfl⟩:=e
   rw[h.sup _ _ h0]at hp;cases hp
  ·exact h.done x y h0 oG,fun hk=>absurd hk (aA _)⟩
theorem PairLn.snoc{a b:List Nd}{p:Nat->Nat->Bool}{i j k:Nat}(h:PairLn a b p i j k)(hi:i<a.length)(hk:k<(a[i]).ln.length)(hx:∃ t:Nat,tgt (nd b j).ln ((a[i]).ln[k]).1=(t:Int)/\p ((a[i]).ln[k]).2.toNat t=true):PairLn a b p i j (k+1):=fun x hxm=>by
 rw[take_nd hi hk]at hxm
 rcases ay.1 hxm with h1|h1
 ·exact h x h1
 ·grind
theorem PairLn.mono{q:Nat->Nat->Bool}(h:PairLn a b p i j k)(hpq:∀ x y,p x y=true->q x y=true):PairLn a b q i j k:=fun x hx=>by
 obtain⟨t,h1,h2⟩:=h x hx
 grind
structure MPK(l:List Ty)(a b:List Nd)(p0 p:Nat->Nat->Bool)(ch:Bool)(i j k:Nat):Prop where
 pp:MPP l a b p0 p ch i j 0
 at_:p i j=true
 ty:sub l (nd b j).ty.toNat (nd a i).ty.toNat=true
 ln:PairLn a b p i j k
theorem MPK.start(h:MPP l a b p0 p ch i j 0)(hp:p i j=true)(ht:sub l (nd b j).ty.toNat (nd a i).ty.toNat=true):MPK l a b p0 p ch i j 0:=⟨h,hp,ht,fun x hx=>by simp at hx⟩
theorem MPK.old(h:MPK l a b p0 p ch i j k)(hi:i<a.length)(hk:k<(a[i]).ln.length)(hs:((a[i]).ln[k]).2=(s:Int))(ht:tgt (nd b j).ln ((a[i]).ln[k]).1=(t:Int))(hp:p s t=true):MPK l a b p0 p ch i j (k+1):=
 ⟨h.pp,h.at_,h.ty,h.ln.snoc hi hk ⟨t,ht,by rw[hs,Int.toNat_natCast];exact hp⟩⟩
theorem MPK.new(h:MPK l a b p0 p ch i j k)(hi:i<a.length)(hk:k<(a[i]).ln.length)(hs:((a[i]).ln[k]).2=(s:Int))(hsl:s<a.length)(ht:tgt (nd b j).ln ((a[i]).ln[k]).1=(t:Int))(htl:t<b.length)(hp:p s t=false):MPK l a b p0 (T6 p s t) true i j (k+1):=by
 have hxm:(a[i]).ln[k]∈(nd a i).ln:=by rw[yv hi];exact ap hk
 have hm:∀ x y,p x y=true->T6 p s t x y=true:=fun x y h=>setP_mono h
 refine⟨⟨⟨hm _ _ h.pp.pb.zero,fun x y hx=>?_,fun x y hx φ hφ=>?_⟩,fun x y hx=>hm _ _ (h.pp.sup x y hx),(fun h=>nomatch h),fun _=>?_,fun x y h0 hx=>?_,fun hk=>absurd hk (aA _)⟩,hm _ _ h.at_,h.ty,(h.ln.mono hm).snoc hi hk ⟨t,ht,by rw[hs,Int.toNat_natCast];exact E0 _ _ _⟩⟩
 ·rcases YV hx with ⟨rfl,rfl⟩|hx
  ·omega
  ·exact h.pp.pb.rng _ _ hx
 ·rcases YV hx with ⟨rfl,rfl⟩|hx
  ·have e:=h.pp.pb.only i j h.at_ φ hφ
   have h1:=hφ.ln i hi _ hxm
   grind
  ·exact h.pp.pb.only x y hx φ hφ
 ·have h1:=lackP_lt (na:=a.length) (nb:=b.length) hm hsl htl hp (E0 p s t)
  cases ch with
  | true=>exact Nat.lt_trans h1 (h.pp.more rfl)
  | false=>
   have e:Dz a.length b.length p0=Dz a.length b.length p:=by
    unfold Dz;refine List.countP_congr (fun z _=>?_);cases hz:p0 (z/b.length) (z%b.length)with
    | true=>rw[h.pp.sup _ _ hz]
    | false=>
     cases hz2:p (z/b.length) (z%b.length)with
     | false=>rfl
     | true=>rw[h.pp.same rfl _ _ hz2]at hz;cases hz
   rw[e];exact h1
 ·obtain⟨h1,h2⟩:=h.pp.done x y h0 hx
  exact⟨h1,h2.mono hm⟩
theorem MPK.done{l:List Ty}{a b:List Nd}{p0 p:Nat->Nat->Bool}{ch:Bool}{i j k:Nat}(h:MPK l a b p0 p ch i j k)(hi:i<a.length)(hk:k=(a[i]).ln.length):MPP l a b p0 p ch i (j+1) 0:=
 ⟨h.pp.pb,h.pp.sup,h.pp.same,h.pp.more,fun x y h0 hx=>by
  by_cases e:x=i/\y=j
  ·obtain⟨rfl,rfl⟩:=e
   have h1:=h.ln
   rw[hk,<- yv hi]at h1
   exact⟨h.ty,h1⟩
  ·exact h.pp.done x y h0 oG,fun hk=>absurd hk (aA _)⟩
theorem MPP.end_(h:MPP l a b p0 p ch a.length 0 0):MPS l a b p ch:=
 ⟨h.pb,fun hc i j hp=>h.done i j (h.same hc i j hp) (.inl (h.pb.rng i j hp).1)⟩
theorem MPS.two(h:MPS l a b p ch)(h1:p i j=true)(h2:p i k=true)(hne:j≠k):¬Maps l a b:=by
 rintro⟨φ,hφ⟩
 exact hne ((h.pb.only i j h1 φ hφ).symm.trans (h.pb.only i k h2 φ hφ))
theorem yj:(Tryd.prog.info? 30).map (·.size)=some 1:=by kernel_rfl
theorem Pk:(Tryd.prog.info? 76).map (·.size)=some 2:=by kernel_rfl
theorem kJ:(Tryd.prog.info? 30).map (·.zero)=some (some (.agg #[.slice none 0 0])):=by kernel_rfl
section
section order
variable {l:List Ty} {fs:List Ft} {a b c:List Nd}
def Srt(xs:List (Int×Int)):Prop:=xs.Pairwise (fun x y=>x.1<y.1)
theorem srt_of{nf:Nat}{a1:Int}(h:yq nf n a1 xs=0):Srt xs:=by
 have hs:=(KV h).2;refine List.pairwise_iff_getElem.2 (fun i j hi hj hij=>hs i j hi hj hij)
theorem Px(hs:Srt xs){x:Int×Int}(hx:x∈xs):tgt xs x.1=x.2:=by
 induction xs with
 | nil=>cases hx
 | cons y ys ih=>
  obtain⟨h1,h2⟩:=aP.1 hs;rcases aq.1 hx with e|e
  ·subst e;simp[tgt]
  ·have hne:¬y.1=x.1:=by have:=h1 x e;omega
   have:=ih h2 e;simp only[tgt,List.find?_cons,hne,decide_false]at this ⊢;exact this
theorem XZ{f:Int}(h:0<=tgt xs f):(f,tgt xs f)∈xs:=by
 induction xs with
 | nil=>simp[tgt]at h
 | cons y ys ih=>
  by_cases e:y.1=f
  ·have:tgt (y::ys) f=y.2:=by simp[tgt,e]
   rw[this];have:(f,y.2)=y:=by rw[<- e]
   rw[this];exact au ..
  ·have:tgt (y::ys) f=tgt ys f:=by simp[tgt,e]
   rw[this]at h ⊢;exact am _ (ih h)
theorem srt_ext:∀ {xs ys:List (Int×Int)},Srt xs->Srt ys->(∀ z,z∈xs↔z∈ys)->xs=ys
 | [],[],_,_,_=>rfl
 | [],y::ys,_,_,h=>by have:=(h y).2 (au ..);cases this
 | x::xs,[],_,_,h=>by have:=(h x).1 (au ..);cases this
 | x::xs,y::ys,hx,hy,h=>by
  obtain⟨h1,h2⟩:=aP.1 hx
  obtain⟨h3,h4⟩:=aP.1 hy
  have e:x=y:=by
   rcases aq.1 ((h x).1 (au ..))with e|e
   ·exact e
   ·rcases aq.1 ((h y).2 (au ..))with e2|e2
    ·exact e2.symm
    ·have:=h1 y e2;have:=h3 x e;omega
  subst e;refine congrArg _ (srt_ext h2 h4 (fun z=>⟨fun hz=>?_,fun hz=>?_⟩))
  ·rcases aq.1 ((h z).1 (am _ hz))with e|e
   ·have:=h1 z hz;rw[e]at this;omega
   ·exact e
  ·rcases aq.1 ((h z).2 (am _ hz))with e|e
   ·have:=h3 z hz;rw[e]at this;omega
   ·exact e
theorem D3:∀ {xs ys:List Nat},xs.Nodup->(∀ x∈xs,x∈ys)->xs.length<=ys.length
 | [],_,_,_=>ad _
 | x::xs,ys,hn,h=>by
  obtain⟨h1,h2⟩:=List.nodup_cons.1 hn
  have hx:=h x (au ..)
  have hl:=List.length_erase_of_mem hx
  have hp:=List.length_pos_of_mem hx
  have:=D3 (xs:=xs) (ys:=ys.erase x) h2 (fun y hy=>(List.mem_erase_of_ne (fun e:y=x=>h1 (by rw[<- e];exact hy))).2 (h y (am _ hy)))
  rw[List.length_cons];omega
structure GY(l:List Ty)(a:List Nd):Prop where
 vt:VT l
 pos:0<a.length
 tr:∀ i,i<a.length->0<=(nd a i).ty/\(nd a i).ty<l.length
 srt:∀ i,i<a.length->Srt (nd a i).ln
 lr:∀ i,i<a.length->∀ x∈(nd a i).ln,0<=x.2/\x.2.toNat<a.length
structure GX(l:List Ty)(a:List Nd):Prop extends GY l a where
 rch:∀ i,i<a.length->Rch a i
theorem GV.gx(h:GV l fs a):GX l a:=
 ⟨⟨h.s.vt,h.gok.pos,fun i hi=>by rw[yv hi];exact h.gok.ty i hi,fun i hi=>by rw[yv hi];exact srt_of (Yx h.lo i hi),fun i hi x hx=>by
  rw[yv hi]at hx
  have:=h.gok.ln i hi x hx
  omega⟩,h.rch⟩
theorem D8{nf n:Nat}:∀ {xs:List (Int×Int)} {a1:Int},Srt xs->(∀ x∈xs,a1<x.1/\0<=x.1/\x.1<nf/\0<=x.2/\x.2<n)->yq nf n a1 xs=0
 | [],_,_,_=>rfl
 | x::xs,a1,hs,h=>by
  obtain⟨h1,h2⟩:=aP.1 hs
  have h3:=h x (au ..)
  have h4:¬gw nf n x:=by unfold gw;omega
  unfold yq
  rw[if_neg h4,if_neg (show ¬x.1<=a1 by omega)]
  exact D8 h2 (fun y hy=>by
   have:=h y (am _ hy)
   have:=h1 y hy
   omega)
theorem gf_mk(h:(qz l fs).1=0)(hx:GX l a)(hle:a.length<=60)(hf:∀ i,i<a.length->∀ x∈(nd a i).ln,0<=x.1/\x.1<fs.length)
  (ht:∀ i,i<a.length->∀ x∈(nd a i).ln,sub l (nd a i).ty.toNat (Ey fs x.1).of.toNat=true/\sub l (nd a x.2.toNat).ty.toNat (Ey fs x.1).val.toNat=true):kY l fs a=(0,0):=by
 have hl:vV l.length fs.length a=(0,0):=by
  unfold vV;have:=hx.pos;rw[if_neg oG];refine Xz (fun k _ hk=>?_);have a1:k<a.length:=by omega
  have hty:=hx.tr k a1;rw[yv a1]at hty;rw[Yj a1 oG,List.drop_zero];refine D8 (by rw[<- yv a1];exact hx.srt k a1) (fun x a2=>?_);rw[<- yv a1]at a2;have h1:=hx.lr k a1 x a2;have h2:=hf k a1 x a2;omega
 have ht2:tyF l fs a=(0,0):=by
  refine Xz (fun k _ hk=>?_);have a1:k<a.length:=by omega
  refine HW a1 (fun j hj=>?_);have hm:(a[k]).ln[j]∈(nd a k).ln:=by rw[yv a1];exact ap hj
  obtain⟨h1,h2⟩:=ht k a1 _ hm;rw[yv a1]at h1;unfold Eq;rw[h1,show (E8 a (a[k]).ln[j].2).ty.toNat=(nd a ((a[k]).ln[j]).2.toNat).ty.toNat from rfl,h2];rfl
 have hu:(-1:Int)=I8 a:=Nk (.inl ⟨rfl,hx.rch⟩);rw[WV h,IZ (by rw[hl]) ht2 oG]
theorem GV.lt(h:GV l fs a)(hi:i<a.length){x:Int×Int}(hx:x∈(nd a i).ln):0<=x.1/\x.1<fs.length/\sub l (nd a i).ty.toNat (Ey fs x.1).of.toNat=true/\sub l (nd a x.2.toNat).ty.toNat (Ey fs x.1).val.toNat=true:=by
 rw[yv hi]at hx;have h1:=h.gok.ln i hi x hx;have h0:tyN l fs a i=0:=kX (by rw[show qJ (tyN l fs a) 0 a.length=tyF l fs a from rfl,h.t]) _ (ad _) oG;have h2:Eq l fs a (a[i]).ty x=false:=by
  simp only[tyN,List.getElem?_eq_getElem hi]at h0;cases hb:Eq l fs a (a[i]).ty x with
  | false=>rfl
  | true=>rw[if_pos (List.any_eq_true.2 ⟨x,hx,hb⟩)]at h0;cases h0
 unfold Eq at h2;rw[show (E8 a x.2).ty.toNat=(nd a x.2.toNat).ty.toNat from rfl,Bool.or_eq_false_iff]at h2;rw[yv hi];simp only[Bool.not_eq_false']at h2;exact⟨h1.1,h1.2.1,h2.1,h2.2⟩
theorem GY.rng(h:GY l a):∀ i,i<a.length->∀ t∈yJ a i,t<a.length:=fun i hi t ht=>by
 simp only[yJ,List.mem_map]at ht
 obtain⟨x,hx,rfl⟩:=ht
 exact(h.lr i hi x hx).2
theorem GY.trr(h:GY l a)(a1:r<a.length)(hd:DL a [r] [] o):TrR a r o:=by
 have hr:=h.rng;obtain⟨hok,_,_⟩:=hd.ok hr (fun i hi=>by rw[List.mem_singleton.1 hi];exact a1) (OOk.nil _);have h0:=hd.has r (by simp);refine⟨hd,hok,hd.nodup List.nodup_nil,h0,?_,fun x hx=>hd.clo x hx (by simp)⟩;cases hd with
 | old h' t=>cases h'
 | new h' s t=>
  cases t;obtain⟨_,s1,e1⟩:=s.ok hr (hr r a1) ((OOk.nil _).snoc a1 (by simp));rw[e1];simp
theorem Hom.refl(h:GX l a):Hom l a a (fun i=>i):=
 ⟨rfl,fun _ hi=>hi,fun _ _=>Q3 h.vt _,fun i hi x hx=>by
  have:=h.lr i hi x hx
  rw[Px (h.srt i hi) hx];omega⟩
theorem Hom.comp(hl:VT l)(hφ:Hom l a b φ)(hψ:Hom l b c ψ):Hom l a c (fun i=>ψ (φ i)):=
 ⟨by show ψ (φ 0)=0;rw[hφ.zero,hψ.zero],fun i hi=>hψ.lt _ (hφ.lt i hi),fun i hi=>Qz hl (hψ.ty _ (hφ.lt i hi)) (hφ.ty i hi),fun i hi x hx=>by
  have h1:=hφ.ln i hi x hx
  have hm:=XZ (xs:=(nd b (φ i)).ln) (f:=x.1) oG
  rw[h1]at hm
  have:=hψ.ln _ (hφ.lt i hi) _ hm
  rw[Int.toNat_natCast]at this
  exact this⟩
theorem Maps.comp(hl:VT l)(h:Maps l a b)(k:Maps l b c):Maps l a c:=by
 obtain⟨φ,hφ⟩:=h;obtain⟨ψ,hψ⟩:=k;exact⟨_,hφ.comp hl hψ⟩
theorem turn_hom(ha:GX l a)(hb:GX l b)(hφ:Hom l a b φ)(hψ:Hom l b a ψ):Turn a b φ ψ:=by
 have a3:=ha.vt;have h1:∀ i,i<a.length->ψ (φ i)=i:=fun i hi=>(hφ.comp a3 hψ).uniq (Hom.refl ha) (ha.rch i hi)
 have h2:∀ i,i<b.length->φ (ψ i)=i:=fun i hi=>(hψ.comp a3 hφ).uniq (Hom.refl hb) (hb.rch i hi)
 have a1:b.length=a.length:=by
  have n1:((List.range a.length).map φ).Nodup:=by
   refine List.nodup_iff_pairwise_ne.2 (List.pairwise_map.2 ?_);refine List.Pairwise.imp_of_mem (fun {x y} hx hy a4 e=>a4 ?_) List.nodup_range;rw[<- h1 x (List.mem_range.1 hx),<- h1 y (List.mem_range.1 hy),e]
  have n2:((List.range b.length).map ψ).Nodup:=by
   refine List.nodup_iff_pairwise_ne.2 (List.pairwise_map.2 ?_);refine List.Pairwise.imp_of_mem (fun {x y} hx hy a4 e=>a4 ?_) List.nodup_range;rw[<- h2 x (List.mem_range.1 hx),<- h2 y (List.mem_range.1 hy),e]
  have l1:=(D3 n1 (ys:=List.range b.length) (fun z hz=>by
   obtain⟨x,hx,rfl⟩:=ar.1 hz
   exact av.2 (hφ.lt x (av.1 hx))))
  have l2:=(D3 n2 (ys:=List.range a.length) (fun z hz=>by
   obtain⟨x,hx,rfl⟩:=ar.1 hz
   exact av.2 (hψ.lt x (av.1 hx))))
  simp at l1 l2;omega
 refine⟨a1,hφ.zero,fun i hi=>by rw[<- a1];exact hφ.lt i hi,fun j hj=>?_,h1,fun i hi=>?_⟩
 ·rw[<- a1]at hj
  exact⟨hψ.lt j hj,h2 j hj⟩
 ·have a2:=hφ.lt i hi
  have t1:=hφ.ty i hi;have t2:=hψ.ty _ a2;rw[h1 i hi]at t2;have r1:=ha.tr i hi;have r2:=hb.tr _ a2;have e:=F8 a3 t1 t2;refine V7 (by show (nd b (φ i)).ty=(nd a i).ty;omega) ?_;show (nd b (φ i)).ln=(nd a i).ln.map (fun y=>(y.1,((φ y.2.toNat:Nat):Int)));refine srt_ext (hb.srt _ a2) ?_ (fun z=>⟨fun hz=>?_,fun hz=>?_⟩)
  ·exact List.pairwise_map.2 (ha.srt _ hi)
  ·have g1:=hψ.ln _ a2 z hz
   rw[h1 i hi]at g1;have g2:=hb.lr _ a2 z hz;have hm:=XZ (xs:=(nd a i).ln) (f:=z.1) oG;rw[g1]at hm;refine ar.2 ⟨_,hm,?_⟩;have e2:=h2 _ g2.2;show (z.1,((φ ((ψ z.2.toNat:Nat):Int).toNat:Nat):Int))=z;rw[Int.toNat_natCast,e2,Int.toNat_of_nonneg g2.1]
  ·obtain⟨y,hy,rfl⟩:=ar.1 hz
   have g1:=hφ.ln i hi y hy;have hm:=XZ (xs:=(nd b (φ i)).ln) (f:=y.1) oG;rw[g1]at hm;exact hm
theorem can_eq(ha:GX l a)(hb:GX l b)(h:Maps l a b)(k:Maps l b a){oa ob:List Nat}(ta:DL a [0] [] oa)(tb:DL b [0] [] ob):xJ b ob=xJ a oa:=by
 obtain⟨φ,hφ⟩:=h;obtain⟨ψ,hψ⟩:=k;have t:=turn_hom ha hb hφ hψ;have ho:=(ha.trr ha.pos ta).ok.lt;have hd2:=t.dl ha.rng ta (fun i hi=>by rw[List.mem_singleton.1 hi];exact ha.pos) ho;simp only[List.map_cons,List.map_nil,t.z]at hd2;rw[<- hd2.det tb];exact t.can ha.rng ho
theorem Z8(t:TrR a r o)(hx:x∈o):nd (xJ a o) (o.idxOf x)=trN (o.idxOf ·) (nd a x):=by
 rw[N8 hx];refine V7 rfl ?_;simp only[CX,trN];refine aM (fun y hy=>?_);simp only[Iw,OV (t.mem hx hy)]
theorem dl_ex{g:List Nd}(hr:∀ i,i<g.length->∀ t∈yJ g i,t<g.length):∀(n:Nat) (is o:List Nat),jy g.length (V9 o)<=n->(∀ i∈is,i<g.length)->∃ o',DL g is o o'
 | n,[],o,_,_=>⟨o,.nil⟩
 | n,i::is,o,hn,hi=>by
  have hil:=hi i (au ..)
  have his:∀ j∈is,j<g.length:=fun j hj=>hi j (am _ hj)
  by_cases h:i∈o
  ·obtain⟨o',h1⟩:=dl_ex hr n is o hn his
   exact⟨o',.old h h1⟩
  ·have hl:=Ek hil h
   cases n with
   | zero=>omega
   | succ n=>
    obtain⟨o1,h1⟩:=dl_ex hr n (yJ g i) (o++[i]) oG (hr i hil)
    have hm:jy g.length (V9 o1)<=jy g.length (V9 (o++[i])):=by
     unfold jy;refine List.countP_mono_left (fun x _ hx=>?_);simp only[V9,Bool.not_eq_true',decide_eq_false_iff_not]at hx ⊢;exact fun k=>hx (h1.sub x k)
    obtain⟨o',h2⟩:=dl_ex hr n is o1 oG his;exact⟨o',.new h h1 h2⟩
theorem GY.dl(h:GY l a)(hr:r<a.length):∃ o,DL a [r] [] o:=dl_ex h.rng _ [r] [] (ae _) (fun i hi=>by rw[List.mem_singleton.1 hi];exact hr)
theorem TrR.at_(t:TrR a r o)(hj:j<(xJ a o).length):∃ x,x∈o/\o.idxOf x=j/\o.getD j 0=x/\nd (xJ a o) j=trN (o.idxOf ·) (nd a x):=by
 rw[kw]at hj;have hjo:=ap hj;have h1:=Z8 t hjo;rw[Vq t.nodup hj]at h1;exact⟨o[j],hjo,Vq t.nodup hj,by simp[List.getD,hj],h1⟩
theorem TrR.gx(t:TrR a r o)(ha:GY l a):GX l (xJ a o):=by
 have a1:=kw a o;have hrg:∀ i,i<(xJ a o).length->∀ x∈(nd (xJ a o) i).ln,0<=x.2/\x.2.toNat<(xJ a o).length:=fun j hj x hx=>by
  obtain⟨y,hy,_,_,e⟩:=t.at_ hj;rw[e]at hx;obtain⟨z,hz,rfl⟩:=ar.1 hx;have:=(jk (t.mem hy hz)).1;simp only[a1];omega
 refine⟨⟨ha.vt,by rw[a1];exact List.length_pos_of_mem t.has,fun j hj=>?_,fun j hj=>?_,hrg⟩,fun j hj=>?_⟩
 ·obtain⟨y,hy,_,_,e⟩:=t.at_ hj
  rw[e];exact ha.tr _ (t.lt hy)
 ·obtain⟨y,hy,_,_,e⟩:=t.at_ hj
  rw[e];exact List.pairwise_map.2 (ha.srt _ (t.lt hy))
 ·have hd:=t.dl2 t.has t.dl
  rw[t.zero,Tx t.nodup]at hd
  have hR:=hd.rch (fun i hi y hy=>by
   simp only[yJ,List.mem_map]at hy;obtain⟨x,hx,rfl⟩:=hy
   exact(hrg i hi x hx).2) (fun i hi=>by rw[List.mem_singleton.1 hi,a1];exact List.length_pos_of_mem t.has) (fun i hi=>by rw[List.mem_singleton.1 hi];exact .zero) (fun x hx=>by cases hx)
  exact hR j (av.2 (by rw[<- a1];exact hj))
theorem maps_can(ha:GX l a)(t:TrR a 0 o):Maps l a (xJ a o)/\Maps l (xJ a o) a:=by
 have a1:∀ i,i<a.length->i∈o:=fun i hi=>by
  have:=ha.rch i hi
  induction this with
  | zero=>exact t.has
  | step hr hi2 hx2 ih=>
   rename_i j y
   exact t.mem (ih hi2) (by rw[yv hi2];exact hx2)
 have hcl:=kw a o;have hgc:=t.gx ha.toGY;refine⟨⟨(o.idxOf ·),t.zero,fun i hi=>?_,fun i hi=>?_,fun i hi x hx=>?_⟩,⟨fun j=>o.getD j 0,?_,fun j hj=>?_,fun j hj=>?_,fun j hj x hx=>?_⟩⟩
 ·rw[hcl];exact(jk (a1 i hi)).1
 ·show sub l (nd (xJ a o) (o.idxOf i)).ty.toNat _=true
  rw[Z8 t (a1 i hi)];exact Q3 ha.vt _
 ·show tgt (nd (xJ a o) (o.idxOf i)).ln x.1=((o.idxOf x.2.toNat:Nat):Int)
  have hm:=jk (a1 i hi);have hs:=hgc.srt (o.idxOf i) (by rw[hcl];exact hm.1);rw[Z8 t (a1 i hi)]at hs ⊢;exact Px hs (x:=(x.1,((o.idxOf x.2.toNat:Nat):Int))) (ar.2 ⟨x,hx,rfl⟩)
 ·have h0:=jk t.has
  rw[<- h0.2];have:=Vq t.nodup h0.1;simp only[t.zero];have hp:0<o.length:=by have:=h0.1;omega
  have e:o[0]'hp=0:=by
   have:=h0.2;simp only[t.zero]at this;exact this
  simp[List.getD,hp,e]
 ·rw[hcl]at hj
  have e:o.getD j 0=o[j]:=by simp[List.getD,hj]
  show o.getD j 0<a.length;rw[e];exact t.lt (ap hj)
 ·rw[hcl]at hj
  have e:o.getD j 0=o[j]:=by simp[List.getD,hj]
  have h1:=Z8 t (ap hj);rw[Vq t.nodup hj]at h1;show sub l (nd a (o.getD j 0)).ty.toNat _=true;rw[e,h1];exact Q3 ha.vt _
 ·rw[hcl]at hj
  have e:o.getD j 0=o[j]:=by simp[List.getD,hj]
  have a2:=ap hj;have h1:=Z8 t a2;rw[Vq t.nodup hj]at h1;rw[h1]at hx;obtain⟨y,hy,rfl⟩:=ar.1 hx;have hal:=t.lt a2;have hyl:=ha.lr _ hal y hy;have hyo:=jk (t.mem a2 hy);show tgt (nd a (o.getD j 0)).ln y.1=((o.getD ((o.idxOf y.2.toNat:Nat):Int).toNat 0:Nat):Int);rw[e,Px (ha.srt _ hal) hy,Int.toNat_natCast];have e2:o.getD (o.idxOf y.2.toNat) 0=y.2.toNat:=by
   have:=hyo.2;simp[List.getD,hyo.1,this]
  rw[e2];omega
theorem Hom.part(h:Hom l a b φ)(hb:GX l b){oa ob:List Nat}(ta:TrR a i oa)(tb:TrR b (φ i) ob):Maps l (xJ a oa) (xJ b ob):=by
 have a1:∀ x,x∈oa->φ x∈ob:=by
  have hR:∀ x,x∈oa->x∈oa/\φ x∈ob:=by
   have hw:=DL.within (o:=oa.filter (fun x=>decide (φ x∈ob))) (g:=a) (fun x hx t ht=>by
    simp only[List.mem_filter,decide_eq_true_eq]at hx ⊢;refine⟨ta.clo x hx.1 t ht,?_⟩;simp only[yJ,List.mem_map]at ht;obtain⟨y,hy,rfl⟩:=ht;have h2:=h.ln x (ta.lt hx.1) y hy;have hm:=XZ (xs:=(nd b (φ x)).ln) (f:=y.1) oG;rw[h2]at hm;have:=tb.mem hx.2 hm
    rwa[Int.toNat_natCast]at this) ta.dl (fun z hz=>by
     rw[List.mem_singleton.1 hz];simp only[List.mem_filter,decide_eq_true_eq]
     exact⟨ta.has,tb.has⟩) (fun x hx=>by cases hx)
   intro x hx;have:=hw x hx;simp only[List.mem_filter,decide_eq_true_eq]at this;exact this
  exact fun x hx=>(hR x hx).2
 have hgb:=tb.gx hb.toGY;have la:=kw a oa;have lb:=kw b ob;have hz:oa.getD 0 0=i:=by
  have h0:=jk ta.has;have hp:0<oa.length:=by have:=h0.1;omega
  have:=h0.2;simp only[ta.zero]at this;simp[List.getD,hp,this]
 have a2:∀ j,j<(xJ a oa).length->oa.getD j 0∈oa/\nd (xJ a oa) j=trN (oa.idxOf ·) (nd a (oa.getD j 0)):=fun j hj=>by
  rw[la]at hj;have e:oa.getD j 0=oa[j]:=by simp[List.getD,hj]
  have hjo:=ap hj;have h1:=Z8 ta hjo;rw[Vq ta.nodup hj]at h1;rw[e];exact⟨hjo,h1⟩
 refine⟨fun j=>ob.idxOf (φ (oa.getD j 0)),?_,fun j hj=>?_,fun j hj=>?_,fun j hj x hx=>?_⟩
 ·show ob.idxOf (φ (oa.getD 0 0))=0
  rw[hz];exact tb.zero
 ·rw[lb];exact(jk (a1 _ (a2 j hj).1)).1
 ·obtain⟨h1,h2⟩:=a2 j hj
  show sub l (nd (xJ b ob) (ob.idxOf (φ (oa.getD j 0)))).ty.toNat _=true;rw[h2,Z8 tb (a1 _ h1)];exact h.ty _ (ta.lt h1)
 ·obtain⟨h1,h2⟩:=a2 j hj
  rw[h2]at hx;obtain⟨y,hy,rfl⟩:=ar.1 hx;have hb1:=jk (a1 _ h1);have hs:=hgb.srt (ob.idxOf (φ (oa.getD j 0))) (by rw[lb];exact hb1.1);have h3:=h.ln _ (ta.lt h1) y hy;have hm:=XZ (xs:=(nd b (φ (oa.getD j 0))).ln) (f:=y.1) oG;rw[h3]at hm;show tgt (nd (xJ b ob) (ob.idxOf (φ (oa.getD j 0)))).ln y.1=((ob.idxOf (φ (oa.getD ((oa.idxOf y.2.toNat:Nat):Int).toNat 0)):Nat):Int);have hyo:=jk (ta.mem h1 hy);have e2:oa.getD (oa.idxOf y.2.toNat) 0=y.2.toNat:=by
   have:=hyo.2;simp[List.getD,hyo.1,this]
  rw[Int.toNat_natCast,e2];rw[Z8 tb (a1 _ h1)]at hs ⊢;have hm2:((y.1,((ob.idxOf (φ y.2.toNat):Nat):Int)):Int×Int)∈(trN (ob.idxOf ·) (nd b (φ (oa.getD j 0)))).ln:=ar.2 ⟨_,hm,by rw[Int.toNat_natCast]⟩;exact Px hs hm2
end order
end
section
structure UF(n:Nat)(P rep ρ:Nat->Nat):Prop where
 ex:∀ i,i<n->P i≠i->ρ (P i)<ρ i
 lt:∀ i,i<n->P i<n
 rl:∀ i,i<n->rep i<n
 rr:∀ i,i<n->P (rep i)=rep i
 rp:∀ i,i<n->rep (P i)=rep i
 fx:∀ i,i<n->P i=i->rep i=i
def VJ(P:Nat->Nat)(t v x:Nat):Nat:=if x=t then v else P x
theorem uQ(P:Nat->Nat)(t v:Nat):VJ P t v t=v:=by simp[VJ]
theorem Z3{P:Nat->Nat}{v:Nat}(h:x≠t):VJ P t v x=P x:=by simp[VJ,h]
namespace UF
variable {n:Nat} {P rep ρ:Nat->Nat}
theorem two(h:UF n P rep ρ)(hi:i<n):rep (rep i)=rep i:=h.fx _ (h.rl i hi) (h.rr i hi)
theorem half(h:UF n P rep ρ)(hi:i<n)(hne:P i≠i):UF n (VJ P i (P (P i))) rep ρ:=by
 have h1:=h.ex i hi hne;have a2:=h.lt i hi;have h2:ρ (P (P i))<ρ i:=by
  by_cases e:P (P i)=P i
  ·rw[e];exact h1
  ·exact Nat.lt_trans (h.ex _ a2 e) h1
 refine⟨fun j hj a1=>?_,fun j hj=>?_,h.rl,fun j hj=>?_,fun j hj=>?_,fun j hj a1=>?_⟩
 ·by_cases e:j=i
  ·subst e;rw[uQ];exact h2
  ·rw[Z3 e]at a1 ⊢;exact h.ex j hj a1
 ·by_cases e:j=i
  ·subst e;rw[uQ];exact h.lt _ a2
  ·rw[Z3 e];exact h.lt j hj
 ·have e:rep j≠i:=fun e=>hne (by rw[<- e];exact h.rr j hj)
  rw[Z3 e];exact h.rr j hj
 ·by_cases e:j=i
  ·subst e;rw[uQ,h.rp _ a2,h.rp j hj]
  ·rw[Z3 e];exact h.rp j hj
 ·by_cases e:j=i
  ·subst e;rw[uQ]at a1;rw[a1]at h2;exact absurd h2 (aA _)
  ·rw[Z3 e]at a1;exact h.fx j hj a1
def un(rep:Nat->Nat)(a b x:Nat):Nat:=if rep x=b then a else rep x
def rk(rep ρ:Nat->Nat)(a b x:Nat):Nat:=if rep x=b then ρ x+ρ a+1 else ρ x
theorem join(h:UF n P rep ρ){a b:Nat}(ha:a<n)(hb:b<n)(ra:rep a=a)(rb:rep b=b)(a2:a≠b):UF n (VJ P b a) (un rep a b) (rk rep ρ a b):=by
 have hab:¬rep a=b:=fun e=>a2 (ra.symm.trans e)
 have pb:P b=b:=by have:=h.rr b hb;rwa[rb]at this
 have pa:P a=a:=by have:=h.rr a ha;rwa[ra]at this
 refine⟨fun j hj a1=>?_,fun j hj=>?_,fun j hj=>?_,fun j hj=>?_,fun j hj=>?_,fun j hj a1=>?_⟩
 ·by_cases e:j=b
  ·subst e
   rw[uQ];simp only[rk,if_neg hab,if_pos rb];omega
  ·rw[Z3 e]at a1 ⊢
   have h1:=h.ex j hj a1;simp only[rk,h.rp j hj];by_cases e2:rep j=b
   ·rw[if_pos e2,if_pos e2];omega
   ·rw[if_neg e2,if_neg e2];exact h1
 ·by_cases e:j=b
  ·subst e;rw[uQ];exact ha
  ·rw[Z3 e];exact h.lt j hj
 ·unfold un;split
  ·exact ha
  ·exact h.rl j hj
 ·unfold un
  by_cases e:rep j=b
  ·rw[if_pos e,Z3 a2];exact pa
  ·rw[if_neg e,Z3 e];exact h.rr j hj
 ·unfold un
  by_cases e:j=b
  ·subst e;rw[uQ,if_neg hab,if_pos rb];exact ra
  ·rw[Z3 e,h.rp j hj]
 ·unfold un
  by_cases e:j=b
  ·subst e;rw[uQ]at a1;exact absurd a1 a2
  ·rw[Z3 e]at a1
   have:=h.fx j hj a1;rw[this,if_neg e]
theorem more(h:UF n P rep ρ){m:Nat}:UF (n+m) (fun x=>if x<n then P x else x) (fun x=>if x<n then rep x else x) ρ:=by
 refine⟨fun j hj a1=>?_,fun j hj=>?_,fun j hj=>?_,fun j hj=>?_,fun j hj=>?_,fun j hj a1=>?_⟩<;>(try dsimp only at a1)<;>(try dsimp only)<;>by_cases e:j<n
 ·rw[if_pos e]at a1 ⊢;exact h.ex j e a1
 ·rw[if_neg e]at a1;exact absurd rfl a1
 ·rw[if_pos e];have:=h.lt j e;omega
 ·rw[if_neg e];exact hj
 ·rw[if_pos e];have:=h.rl j e;omega
 ·rw[if_neg e];exact hj
 ·rw[if_pos e,if_pos (h.rl j e)];exact h.rr j e
 ·rw[if_neg e,if_neg e]
 ·rw[if_pos e,if_pos (h.lt j e),if_pos e];exact h.rp j e
 ·rw[if_neg e,if_neg e]
 ·rw[if_pos e]at a1 ⊢;exact h.fx j e a1
 ·rw[if_neg e]
theorem nil(P rep ρ:Nat->Nat):UF 0 P rep ρ:=⟨fun _ h=>absurd h (aw _),fun _ h=>absurd h (aw _),fun _ h=>absurd h (aw _),fun _ h=>absurd h (aw _),fun _ h=>absurd h (aw _),fun _ h=>absurd h (aw _)⟩
end UF
def roots(n:Nat)(rep:Nat->Nat):Nat:=(List.range n).countP (fun i=>decide (rep i=i))
theorem roots_le(n:Nat)(rep:Nat->Nat):roots n rep<=n:=by
 have:=List.countP_le_length (p:=fun i=>decide (rep i=i)) (l:=List.range n)
 simpa[roots]using this
theorem LV{rep:Nat->Nat}{a b:Nat}(hb:b<n)(rb:rep b=b)(ra:rep a=a)(hne:a≠b):roots n (UF.un rep a b)<roots n rep:=
 Q0 (fun x hx=>by
  have h1:=aS hx
  unfold UF.un at h1
  by_cases e:rep x=b
  ·rw[if_pos e]at h1;rw[<- h1,ra]at e;exact absurd e hne
  ·rw[if_neg e]at h1;exact ah h1) (List.range n) b (av.2 hb) (by simp[rb]) (by simp[UF.un,rb,hne])
def xQ:List (Int×Int)->List (Int×Int)->List (Int×Int)
 | [],ys=>ys
 | x::xs,[]=>x::xs
 | x::xs,y::ys=>if x.1<y.1 then x::xQ xs (y::ys)else if y.1<x.1 then y::xQ (x::xs) ys else x::xQ xs ys
termination_by xs ys=>xs.length+ys.length
def Q5:List (Int×Int)->List (Int×Int)->List (Int×Int)
 | [],_=>[]
 | _::_,[]=>[]
 | x::xs,y::ys=>if x.1<y.1 then Q5 xs (y::ys)else if y.1<x.1 then Q5 (x::xs) ys else (x.2,y.2)::Q5 xs ys
termination_by xs ys=>xs.length+ys.length
theorem ZW{z:Int×Int}:∀ {xs ys:List (Int×Int)},z∈xQ xs ys->z∈xs\/z∈ys
 | [],ys,h=> .inr (by simpa[xQ]using h)
 | x::xs,[],h=> .inl (by simpa[xQ]using h)
 | x::xs,y::ys,h=>by
  unfold xQ at h
  by_cases h1:x.1<y.1
  ·rw[if_pos h1]at h
   rcases aq.1 h with e|h
   ·exact .inl (by simp[e])
   ·rcases ZW h with h|h
    ·exact .inl (am _ h)
    ·exact .inr h
  ·rw[if_neg h1]at h
   by_cases h2:y.1<x.1
   ·rw[if_pos h2]at h
    rcases aq.1 h with e|h
    ·exact .inr (by simp[e])
    ·rcases ZW h with h|h
     ·exact .inl h
     ·exact .inr (am _ h)
   ·rw[if_neg h2]at h
    rcases aq.1 h with e|h
    ·exact .inl (by simp[e])
    ·rcases ZW h with h|h
     ·exact .inl (am _ h)
     ·exact .inr (am _ h)
termination_by xs ys=>xs.length+ys.length
theorem X4{z:Int×Int}:∀ {xs ys:List (Int×Int)},z∈xs->z∈xQ xs ys
 | [],ys,h=>by cases h
 | x::xs,[],h=>by simpa[xQ]using h
 | x::xs,y::ys,h=>by
  unfold xQ
  by_cases h1:x.1<y.1
  ·rw[if_pos h1]
   rcases aq.1 h with e|h
   ·simp[e]
   ·exact am _ (X4 h)
  ·rw[if_neg h1]
   by_cases h2:y.1<x.1
   ·rw[if_pos h2];exact am _ (X4 h)
   ·rw[if_neg h2]
    rcases aq.1 h with e|h
    ·simp[e]
    ·exact am _ (X4 h)
termination_by xs ys=>xs.length+ys.length
theorem Xy{z:Int×Int}:∀ {xs ys:List (Int×Int)},z∈ys->z∈xQ xs ys\/∃ t,(z.1,t)∈xs/\(t,z.2)∈Q5 xs ys
 | [],ys,h=> .inl (by simpa[xQ]using h)
 | x::xs,[],h=>by cases h
 | x::xs,y::ys,h=>by
  unfold xQ Q5
  by_cases h1:x.1<y.1
  ·rw[if_pos h1,if_pos h1]
   rcases Xy (xs:=xs) h with h|⟨t,h3,h4⟩
   ·exact .inl (am _ h)
   ·exact .inr ⟨t,am _ h3,h4⟩
  ·rw[if_neg h1,if_neg h1]
   by_cases h2:y.1<x.1
   ·rw[if_pos h2,if_pos h2]
    rcases aq.1 h with e|h
    ·exact .inl (by simp[e])
    ·rcases Xy (xs:=x::xs) h with h|⟨t,h3,h4⟩
     ·exact .inl (am _ h)
     ·exact .inr ⟨t,h3,h4⟩
   ·rw[if_neg h2,if_neg h2]
    rcases aq.1 h with e|h
    ·refine .inr ⟨x.2,?_,?_⟩
     ·have:z.1=x.1:=by rw[e];omega
      rw[this];exact au ..
     ·rw[e];exact au ..
    ·rcases Xy (xs:=xs) h with h|⟨t,h3,h4⟩
     ·exact .inl (am _ h)
     ·exact .inr ⟨t,am _ h3,am _ h4⟩
termination_by xs ys=>xs.length+ys.length
theorem JY{p:Int×Int}:∀ {xs ys:List (Int×Int)},p∈Q5 xs ys->∃ f,(f,p.1)∈xs/\(f,p.2)∈ys
 | [],ys,h=>by simp[Q5]at h
 | x::xs,[],h=>by simp[Q5]at h
 | x::xs,y::ys,h=>by
  unfold Q5 at h
  by_cases h1:x.1<y.1
  ·rw[if_pos h1]at h
   obtain⟨f,h3,h4⟩:=JY h
   exact⟨f,am _ h3,h4⟩
  ·rw[if_neg h1]at h
   by_cases h2:y.1<x.1
   ·rw[if_pos h2]at h
    obtain⟨f,h3,h4⟩:=JY h
    exact⟨f,h3,am _ h4⟩
   ·rw[if_neg h2]at h
    rcases aq.1 h with e|h
    ·refine⟨x.1,?_,?_⟩
     ·rw[e];exact au ..
     ·rw[e,show x.1=y.1 by omega];exact au ..
    ·obtain⟨f,h3,h4⟩:=JY h
     exact⟨f,am _ h3,am _ h4⟩
termination_by xs ys=>xs.length+ys.length
theorem Kv:∀ {xs ys:List (Int×Int)},Srt xs->Srt ys->Srt (xQ xs ys)
 | [],ys,_,h=>by simpa[xQ]using h
 | x::xs,[],h,_=>by simpa[xQ]using h
 | x::xs,y::ys,hx,hy=>by
  obtain⟨a1,a2⟩:=aP.1 hx
  obtain⟨b1,b2⟩:=aP.1 hy
  unfold xQ
  by_cases h1:x.1<y.1
  ·rw[if_pos h1]
   refine aP.2 ⟨fun z hz=>?_,Kv a2 hy⟩
   rcases ZW hz with h|h
   ·exact a1 z h
   ·rcases aq.1 h with e|h
    ·rw[e];exact h1
    ·have:=b1 z h;omega
  ·rw[if_neg h1]
   by_cases h2:y.1<x.1
   ·rw[if_pos h2]
    refine aP.2 ⟨fun z hz=>?_,Kv hx b2⟩
    rcases ZW hz with h|h
    ·rcases aq.1 h with e|h
     ·rw[e];exact h2
     ·have:=a1 z h;omega
    ·exact b1 z h
   ·rw[if_neg h2]
    refine aP.2 ⟨fun z hz=>?_,Kv a2 b2⟩
    rcases ZW hz with h|h
    ·exact a1 z h
    ·have:=b1 z h;omega
termination_by xs ys=>xs.length+ys.length
structure Adm(l:List Ty)(U c:List Nd)(θ:Nat->Nat):Prop where
 lt:∀ i,i<U.length->θ i<c.length
 ty:∀ i,i<U.length->sub l (nd c (θ i)).ty.toNat (nd U i).ty.toNat=true
 ln:∀ i,i<U.length->∀ x∈(nd U i).ln,tgt (nd c (θ i)).ln x.1=((θ x.2.toNat:Nat):Int)
def C1(n:Nat)(rep:Nat->Nat)(W:List (Int×Int))(κ:Nat->Nat):Prop:=(∀ i,i<n->κ i=κ (rep i))/\∀ w∈W,κ w.1.toNat=κ w.2.toNat
structure US(l:List Ty)(U:List Nd)(J:List (Nat×Nat))(P rep ρ:Nat->Nat)(T:Nat->Int)(L:Nat->List (Int×Int))(W:List (Int×Int)):Prop where
 uf:UF U.length P rep ρ
 ty:∀ i,i<U.length->0<=T i/\T i<l.length
 srt:∀ i,i<U.length->Srt (L i)
 wr:∀ w∈W,(0<=w.1/\w.1.toNat<U.length)/\0<=w.2/\w.2.toNat<U.length
 only:∀ c θ,(∀ i,i<c.length->0<=(nd c i).ty/\(nd c i).ty<l.length)->Adm l U c θ->(∀ p∈J,θ p.1=θ p.2)->C1 U.length rep W θ/\∀ i,i<U.length->rep i=i->sub l (nd c (θ i)).ty.toNat (T i).toNat=true
 tcov:∀ i,i<U.length->sub l (T (rep i)).toNat (nd U i).ty.toNat=true
 lcov:∀ i,i<U.length->∀ x∈(nd U i).ln,∃ t,(x.1,t)∈L (rep i)/\∀ κ,C1 U.length rep W κ->κ x.2.toNat=κ t.toNat
 jcov:∀ p∈J,∀ κ,C1 U.length rep W κ->κ p.1=κ p.2
 val:∀ i,i<U.length->rep i=i->∀ x∈L i,∃ u,u<U.length/\rep u=i/\x∈(nd U u).ln
 ur:∀ i,i<U.length->∀ x∈(nd U i).ln,0<=x.2/\x.2.toNat<U.length
section us
variable {l:List Ty} {U:List Nd} {J:List (Nat×Nat)} {P rep ρ:Nat->Nat} {T:Nat->Int} {L:Nat->List (Int×Int)} {W:List (Int×Int)}
theorem US.half(h:US l U J P rep ρ T L W){i:Nat}(hi:i<U.length)(hne:P i≠i):US l U J (VJ P i (P (P i))) rep ρ T L W:=
 ⟨h.uf.half hi hne,h.ty,h.srt,h.wr,h.only,h.tcov,h.lcov,h.jcov,h.val,h.ur⟩
theorem US.skip{p:Int×Int}(h:US l U J P rep ρ T L (W++[p]))(he:rep p.1.toNat=rep p.2.toNat):US l U J P rep ρ T L W:=by
 have hp:=h.wr p (by simp)
 have hr:∀ κ,C1 U.length rep W κ->C1 U.length rep (W++[p]) κ:=fun κ hκ=>⟨hκ.1,fun w hw=>by
  rcases ay.1 hw with hw|hw
  ·exact hκ.2 w hw
  ·rw[List.mem_singleton.1 hw,hκ.1 _ hp.1.2,he,<- hκ.1 _ hp.2.2]⟩
 refine⟨h.uf,h.ty,h.srt,fun w hw=>h.wr w (by simp[hw]),fun c θ hc hθ hj=>?_,h.tcov,fun i hi x hx=>?_,fun p hp κ hκ=>h.jcov p hp κ (hr κ hκ),h.val,h.ur⟩
 ·obtain⟨h1,h2⟩:=h.only c θ hc hθ hj
  exact⟨⟨h1.1,fun w hw=>h1.2 w (by simp[hw])⟩,h2⟩
 ·obtain⟨t,h1,h2⟩:=h.lcov i hi x hx
  exact⟨t,h1,fun κ hκ=>h2 κ (hr κ hκ)⟩
def K9(l:List Ty)(U:List Nd)(J:List (Nat×Nat)):Prop:=∃ c θ,(∀ i,i<c.length->0<=(nd c i).ty/\(nd c i).ty<l.length)/\Adm l U c θ/\∀ p∈J,θ p.1=θ p.2
theorem US.fail(hs:I6 l){p:Int×Int}(h:US l U J P rep ρ T L (W++[p]))(hm:(jv l (T (rep p.1.toNat)).toNat (T (rep p.2.toNat)).toNat).2.1=false):¬K9 l U J:=by
 rintro⟨c,θ,hc,hθ,hj⟩
 have hp:=h.wr p (by simp);obtain⟨h1,h2⟩:=h.only c θ hc hθ hj;have e:=h1.2 p (by simp);have ha:=h.uf.rl _ hp.1.2;have hb:=h.uf.rl _ hp.2.2;have e1:=h1.1 _ hp.1.2;have e2:=h1.1 _ hp.2.2;have s1:=h2 _ ha (h.uf.two hp.1.2);have s2:=h2 _ hb (h.uf.two hp.2.2);rw[<- e1]at s1;rw[<- e2,<- e]at s2;have hlt:=hθ.lt _ hp.1.2;have hct:=hc _ hlt;have t1:=h.ty _ ha;have t2:=h.ty _ hb;have:=hs.all (T (rep p.1.toNat)).toNat (T (rep p.2.toNat)).toNat (nd c (θ p.1.toNat)).ty.toNat oG oG oG (by simp[gk,s1,s2]);rw[hm]at this;cases this
theorem US.join(hs:I6 l){p:Int×Int}{a b m:Nat}(h:US l U J P rep ρ T L (W++[p]))(ha:rep p.1.toNat=a)(hb:rep p.2.toNat=b)(hne:a≠b)(hm:jv l (T a).toNat (T b).toNat=(m,true,false)):
  US l U J (VJ P b a) (UF.un rep a b) (UF.rk rep ρ a b) (fun x=>if x=a then (m:Int)else T x) (fun x=>if x=a then xQ (L a) (L b)else L x) (W++Q5 (L a) (L b)):=by
 have hp:=h.wr p (by simp);have a6:a<U.length:=by rw[<- ha];exact h.uf.rl _ hp.1.2
 have a5:b<U.length:=by rw[<- hb];exact h.uf.rl _ hp.2.2
 have ra:rep a=a:=by rw[<- ha];exact h.uf.two hp.1.2
 have rb:rep b=b:=by rw[<- hb];exact h.uf.two hp.2.2
 obtain⟨m1,m2,m3⟩:=meet_spec hs.le (a:=(T a).toNat) (b:=(T b).toNat) (by rw[hm]);rw[hm]at m1 m2 m3;simp only at m1 m2 m3;have m2':sub l m (T a).toNat=true/\sub l m (T b).toNat=true:=by simpa[gk]using m2
 have hLr:∀ i,i<U.length->rep i=i->∀ x∈L i,∃ u,u<U.length/\rep u=i/\x∈(nd U u).ln:=h.val;have a1:∀ x,UF.un rep a b x=a↔rep x=a\/rep x=b:=fun x=>by
  unfold UF.un;by_cases e:rep x=b
  ·simp[e]
  ·simp[e]
 have a2:∀ x,¬(rep x=a\/rep x=b)->UF.un rep a b x=rep x:=fun x hx=>by
  unfold UF.un;rw[if_neg (fun e=>hx (.inr e))]
 have hr:∀ κ,C1 U.length (UF.un rep a b) (W++Q5 (L a) (L b)) κ->C1 U.length rep (W++[p]) κ:=fun κ hκ=>by
  have kb:κ b=κ a:=by have:=hκ.1 b a5;rwa[(a1 b).2 (.inr rb)]at this
  have k1:∀ i,i<U.length->κ i=κ (rep i):=fun i hi=>by
   have:=hκ.1 i hi;by_cases e:rep i=b
   ·rw[(a1 i).2 (.inr e)]at this;rw[this,e,kb]
   ·by_cases e2:rep i=a
    ·rw[(a1 i).2 (.inl e2)]at this;rw[this,e2]
    ·rwa[a2 i (fun h=>h.elim e2 e)]at this
  refine⟨k1,fun w hw=>?_⟩;rcases ay.1 hw with hw|hw
  ·exact hκ.2 w (by simp[hw])
  ·rw[List.mem_singleton.1 hw,k1 _ hp.1.2,k1 _ hp.2.2,ha,hb,kb]
 refine⟨h.uf.join a6 a5 ra rb hne,fun i hi=>?_,fun i hi=>?_,fun w hw=>?_,fun c θ hc hθ hj=>?_,fun i hi=>?_,fun i hi x hx=>?_,fun q hq κ hκ=>h.jcov q hq κ (hr κ hκ),fun i hi a4 x hx=>?_,h.ur⟩
 ·(try dsimp only)
  split
  ·omega
  ·exact h.ty i hi
 ·(try dsimp only)
  split
  ·exact Kv (h.srt a a6) (h.srt b a5)
  ·exact h.srt i hi
 ·rcases ay.1 hw with hw|hw
  ·exact h.wr w (by simp[hw])
  ·obtain⟨f,f1,f2⟩:=JY hw
   obtain⟨u,u1,_,u2⟩:=h.val a a6 ra _ f1;obtain⟨v,v1,_,v2⟩:=h.val b a5 rb _ f2;have g1:=h.ur u u1 _ u2;have g2:=h.ur v v1 _ v2;exact⟨g1,g2⟩
 ·obtain⟨h1,h2⟩:=h.only c θ hc hθ hj
  have ep:=h1.2 p (by simp);have a7:θ a=θ b:=by rw[<- ha,<- hb,<- h1.1 _ hp.1.2,<- h1.1 _ hp.2.2];exact ep
  have hlk:∀ r,r<U.length->rep r=r->∀ x∈L r,tgt (nd c (θ r)).ln x.1=((θ x.2.toNat:Nat):Int):=fun r hr hrr x hx=>by
   obtain⟨u,hu,hur,hxu⟩:=h.val r hr hrr x hx;have:=hθ.ln u hu x hxu;rw[h1.1 u hu,hur]at this;exact this
  refine⟨⟨fun i hi=>?_,fun w hw=>?_⟩,fun i hi a4=>?_⟩
  ·have:=h1.1 i hi
   by_cases e:rep i=b
   ·rw[(a1 i).2 (.inr e),a7,this,e]
   ·by_cases e2:rep i=a
    ·rw[(a1 i).2 (.inl e2),this,e2]
    ·rw[a2 i (fun h=>h.elim e2 e)];exact this
  ·rcases ay.1 hw with hw|hw
   ·exact h1.2 w (by simp[hw])
   ·obtain⟨f,f1,f2⟩:=JY hw
    have g1:=hlk a a6 ra _ f1;have g2:=hlk b a5 rb _ f2;rw[<- a7,g1]at g2;exact Int.ofNat.inj g2
  ·(try dsimp only)
   by_cases e:i=a
   ·subst e
    rw[if_pos rfl];have s1:=h2 i a6 ra;have s2:=h2 b a5 rb;rw[<- a7]at s2;have hct:=hc _ (hθ.lt i a6);have:=m3 (nd c (θ i)).ty.toNat oG (by simp[gk,s1,s2]);rw[Int.toNat_natCast];exact this
   ·rw[if_neg e]
    refine h2 i hi ?_;by_cases e2:rep i=a\/rep i=b
    ·rw[(a1 i).2 e2]at a4;exact absurd a4.symm e
    ·rwa[a2 i e2]at a4
 ·have ht:=h.tcov i hi
  (try dsimp only)
  by_cases e:rep i=a\/rep i=b
  ·rw[(a1 i).2 e,if_pos rfl,Int.toNat_natCast]
   rcases e with e|e
   ·rw[e]at ht;exact Qz hs.vt m2'.1 ht
   ·rw[e]at ht;exact Qz hs.vt m2'.2 ht
  ·rw[a2 i e,if_neg (fun e2=>e (.inl e2))];exact ht
 ·obtain⟨t,h1,h2⟩:=h.lcov i hi x hx
  (try dsimp only)
  by_cases e:rep i=a\/rep i=b
  ·rw[(a1 i).2 e,if_pos rfl]
   rcases e with e|e
   ·rw[e]at h1
    exact⟨t,X4 h1,fun κ hκ=>h2 κ (hr κ hκ)⟩
   ·rw[e]at h1
    rcases Xy (xs:=L a) h1 with h3|⟨s,h3,h4⟩
    ·exact⟨t,h3,fun κ hκ=>h2 κ (hr κ hκ)⟩
    ·refine⟨s,X4 h3,fun κ hκ=>?_⟩
     have:=hκ.2 _ (List.mem_append_right _ h4);rw[h2 κ (hr κ hκ)];exact this.symm
  ·rw[a2 i e,if_neg (fun e2=>e (.inl e2))]
   exact⟨t,h1,fun κ hκ=>h2 κ (hr κ hκ)⟩
 ·(try dsimp only at hx)
  by_cases e:i=a
  ·subst e
   rw[if_pos rfl]at hx;rcases ZW hx with hx|hx
   ·obtain⟨u,h1,h2,h3⟩:=h.val i a6 ra x hx
    exact⟨u,h1,(a1 u).2 (.inl h2),h3⟩
   ·obtain⟨u,h1,h2,h3⟩:=h.val b a5 rb x hx
    exact⟨u,h1,(a1 u).2 (.inr h2),h3⟩
  ·rw[if_neg e]at hx
   have e2:¬(rep i=a\/rep i=b):=fun e2=>by rw[(a1 i).2 e2]at a4;exact e a4.symm
   have a3:=a4;rw[a2 i e2]at a3;obtain⟨u,h1,h2,h3⟩:=h.val i hi a3 x hx;refine⟨u,h1,?_,h3⟩;rw[a2 u (by rw[h2,<- a3];exact e2),h2]
theorem US.push(h:US l U J P rep ρ T L []){a b:Nat}(ha:a<U.length)(hb:b<U.length):US l U (J++[(a,b)]) P rep ρ T L [((a:Int),(b:Int))]:=by
 have hr:∀ κ,C1 U.length rep [((a:Int),(b:Int))] κ->C1 U.length rep [] κ:=fun κ hκ=>⟨hκ.1,fun w hw=>by cases hw⟩
 refine⟨h.uf,h.ty,h.srt,fun w hw=>?_,fun c θ hc hθ hj=>?_,h.tcov,fun i hi x hx=>?_,fun q hq κ hκ=>?_,h.val,h.ur⟩
 ·rw[List.mem_singleton.1 hw];simp only[Int.toNat_natCast];omega
 ·obtain⟨h1,h2⟩:=h.only c θ hc hθ (fun q hq=>hj q (by simp[hq]))
  refine⟨⟨h1.1,fun w hw=>?_⟩,h2⟩;rw[List.mem_singleton.1 hw];simp only[Int.toNat_natCast];exact hj (a,b) (by simp)
 ·obtain⟨t,h1,h2⟩:=h.lcov i hi x hx
  exact⟨t,h1,fun κ hκ=>h2 κ (hr κ hκ)⟩
 ·rcases ay.1 hq with hq|hq
  ·exact h.jcov q hq κ (hr κ hκ)
  ·rw[List.mem_singleton.1 hq]
   have:=hκ.2 _ (aj.2 rfl)
   simpa using this
def shN(k:Nat)(x:Nd):Nd:=⟨x.ty,x.ln.map (fun y=>(y.1,y.2+(k:Int)))⟩
theorem oZ{U V:List Nd}(h:i<U.length):nd (U++V) i=nd U i:=by simp[nd,List.getD,List.getElem?_append_left h]
theorem Z6{U:List Nd}(h:i<g.length):nd (U++g.map (shN U.length)) (U.length+i)=shN U.length (nd g i):=by
 simp[nd,List.getD,h]
theorem US.add(h:US l U J P rep ρ T L [])(hg:GY l g)(_hJ:∀ p∈J,p.1<U.length/\p.2<U.length):
  US l (U++g.map (shN U.length)) J (fun x=>if x<U.length then P x else x) (fun x=>if x<U.length then rep x else x) ρ (fun x=>if x<U.length then T x else (nd g (x-U.length)).ty) (fun x=>if x<U.length then L x else (nd g (x-U.length)).ln.map (fun y=>(y.1,y.2+(U.length:Int)))) []:=by
 have a1:(U++g.map (shN U.length)).length=U.length+g.length:=by simp
 have a3:∀ i,i<U.length+g.length->¬i<U.length->nd (U++g.map (shN U.length)) i=shN U.length (nd g (i-U.length))/\i-U.length<g.length:=fun i hi hn=>by
  have e:i=U.length+(i-U.length):=by omega
  have hlt:i-U.length<g.length:=by omega
  refine⟨?_,hlt⟩;have:=Z6 (U:=U) hlt
  rwa[<- e]at this
 have hro:∀ κ,C1 (U++g.map (shN U.length)).length (fun x=>if x<U.length then rep x else x) [] κ->C1 U.length rep [] κ:=fun κ hκ=>⟨fun i hi=>by
  have:=hκ.1 i (by rw[a1];omega)
  simpa[hi]using this,fun w hw=>by cases hw⟩
 refine⟨by rw[a1];exact h.uf.more,fun i hi=>?_,fun i hi=>?_,(fun w hw=>by cases hw),fun c θ hc hθ hj=>?_,fun i hi=>?_,fun i hi x hx=>?_,fun q hq κ hκ=>h.jcov q hq κ (hro κ hκ),fun i hi a2 x hx=>?_,fun i hi x hx=>?_⟩<;>(try rw[a1]at hi)
 ·(try dsimp only)
  by_cases e:i<U.length
  ·rw[if_pos e];exact h.ty i e
  ·rw[if_neg e];exact hg.tr _ (a3 i hi e).2
 ·(try dsimp only)
  by_cases e:i<U.length
  ·rw[if_pos e];exact h.srt i e
  ·rw[if_neg e];exact List.pairwise_map.2 (hg.srt _ (a3 i hi e).2)
 ·have hθU:Adm l U c θ:=⟨fun i hi=>hθ.lt i (by rw[a1];omega),fun i hi=>by
   have:=hθ.ty i (by rw[a1];omega)
   rwa[oZ hi]at this,fun i hi x hx=>hθ.ln i (by rw[a1];omega) x (by rw[oZ hi];exact hx)⟩
  obtain⟨h1,h2⟩:=h.only c θ hc hθU hj;refine⟨⟨fun i hi=>?_,fun w hw=>by cases hw⟩,fun i hi a2=>?_⟩
  ·(try dsimp only)
   by_cases e:i<U.length
   ·rw[if_pos e];exact h1.1 i e
   ·rw[if_neg e]
  ·(try dsimp only at a2 ⊢)
   by_cases e:i<U.length
   ·rw[if_pos e]at a2 ⊢;exact h2 i e a2
   ·rw[if_neg e]
    have:=hθ.ty i hi;rw[a1]at hi
    rwa[(a3 i hi e).1]at this
 ·(try dsimp only)
  by_cases e:i<U.length
  ·rw[if_pos e,if_pos (h.uf.rl i e),oZ e];exact h.tcov i e
  ·rw[if_neg e,if_neg e,(a3 i hi e).1];exact Q3 hg.vt _
 ·(try dsimp only)
  by_cases e:i<U.length
  ·rw[oZ e]at hx
   obtain⟨t,h1,h2⟩:=h.lcov i e x hx;refine⟨t,?_,fun κ hκ=>h2 κ (hro κ hκ)⟩;rw[if_pos e,if_pos (h.uf.rl i e)];exact h1
  ·rw[(a3 i hi e).1]at hx
   refine⟨x.2,?_,fun κ _=>rfl⟩;rw[if_neg e,if_neg e];exact hx
 ·(try dsimp only at a2 hx)
  by_cases e:i<U.length
  ·rw[if_pos e]at a2 hx
   obtain⟨u,h1,h2,h3⟩:=h.val i e a2 x hx;exact⟨u,by rw[a1];omega,by rw[if_pos h1];exact h2,by rw[oZ h1];exact h3⟩
  ·rw[if_neg e]at hx
   exact⟨i,by rw[a1];exact hi,by rw[if_neg e],by rw[(a3 i hi e).1];exact hx⟩
 ·by_cases e:i<U.length
  ·rw[oZ e]at hx
   have:=h.ur i e x hx;rw[a1];omega
  ·obtain⟨h1,h2⟩:=a3 i hi e
   rw[h1]at hx;obtain⟨y,hy,rfl⟩:=ar.1 hx;have:=hg.lr _ h2 y hy;simp only[a1];omega
theorem US.nil{P rep ρ:Nat->Nat}{T:Nat->Int}{L:Nat->List (Int×Int)}:US l [] [] P rep ρ T L []:=
 ⟨UF.nil _ _ _,fun _ h=>absurd h (aw _),fun _ h=>absurd h (aw _),fun _ h=>(by cases h),fun _ _ _ _ _=>⟨⟨fun _ h=>absurd h (aw _),fun _ h=>(by cases h)⟩,fun _ h=>absurd h (aw _)⟩,fun _ h=>absurd h (aw _),fun _ h=>absurd h (aw _),fun _ h=>(by cases h),fun _ h=>absurd h (aw _),fun _ h=>absurd h (aw _)⟩
def y9(n:Nat)(rep:Nat->Nat)(T:Nat->Int)(L:Nat->List (Int×Int)):List Nd:=(List.range n).map (fun i=>⟨T i,if rep i=i then (L i).map (fun x=>(x.1,((rep x.2.toNat:Nat):Int)))else []⟩)
theorem vz(n:Nat)(rep:Nat->Nat)(T:Nat->Int)(L:Nat->List (Int×Int)):(y9 n rep T L).length=n:=by simp[y9]
theorem o7{rep:Nat->Nat}{T:Nat->Int}{L:Nat->List (Int×Int)}(hi:i<n):nd (y9 n rep T L) i=⟨T i,if rep i=i then (L i).map (fun x=>(x.1,((rep x.2.toNat:Nat):Int)))else []⟩:=by
 rw[yv (by rw[vz];exact hi)];simp[y9]
theorem US.gy(hv:VT l)(hp:0<U.length)(h:US l U J P rep ρ T L []):GY l (y9 U.length rep T L):=by
 refine⟨hv,by rw[vz];exact hp,fun i hi=>?_,fun i hi=>?_,fun i hi x hx=>?_⟩<;>rw[vz]at hi
 ·rw[o7 hi];exact h.ty i hi
 ·rw[o7 hi]
  (try dsimp only)
  split
  ·exact List.pairwise_map.2 (h.srt i hi)
  ·exact List.Pairwise.nil
 ·rw[o7 hi]at hx
  (try dsimp only at hx)
  split at hx
  ·rename_i hri
   obtain⟨y,hy,rfl⟩:=ar.1 hx;obtain⟨u,h1,_,h3⟩:=h.val i hi hri y hy;have:=h.ur u h1 y h3;have h4:=h.uf.rl _ this.2;simp only[vz];omega
  ·cases hx
theorem US.roots(h:US l U J P rep ρ T L [])(_hr:r<U.length)(hrr:rep r=r)(t:TrR (y9 U.length rep T L) r o):∀ x∈o,x<U.length/\rep x=x:=by
 have hw:=DL.within (o:=o.filter (fun x=>decide (rep x=x))) (g:=y9 U.length rep T L) (fun x hx z hz=>by
  simp only[List.mem_filter,decide_eq_true_eq]at hx ⊢;refine⟨t.clo x hx.1 z hz,?_⟩;have a1:=t.lt hx.1;rw[vz]at a1;simp only[yJ,o7 a1,if_pos hx.2,List.mem_map]at hz;obtain⟨_,⟨y,hy,rfl⟩,rfl⟩:=hz;obtain⟨u,h1,_,h3⟩:=h.val x a1 hx.2 y hy;have:=h.ur u h1 y h3;simp only[Int.toNat_natCast];exact h.uf.two this.2) t.dl (fun z hz=>by
   rw[List.mem_singleton.1 hz];simp only[List.mem_filter,decide_eq_true_eq]
   exact⟨t.has,hrr⟩) (fun x hx=>by cases hx)
 intro x hx;have:=hw x hx;simp only[List.mem_filter,decide_eq_true_eq]at this;have hl:=t.lt hx;rw[vz]at hl;exact⟨hl,this.2⟩
theorem US.nd_o(h:US l U J P rep ρ T L [])(hr:r<U.length)(hrr:rep r=r)(t:TrR (y9 U.length rep T L) r o)(hx:x∈o):nd (y9 U.length rep T L) x=⟨T x,(L x).map (fun y=>(y.1,((rep y.2.toNat:Nat):Int)))⟩:=by
 obtain⟨h1,h2⟩:=h.roots hr hrr t x hx;rw[o7 h1,if_pos h2]
theorem US.into(hv:VT l)(h:US l U J P rep ρ T L [])(hr:r<U.length)(a3:rep r=r)(t:TrR (y9 U.length rep T L) r o)(hg:GX l g)
  (hs:∀ i,i<g.length->s+i<U.length/\nd U (s+i)=shN s (nd g i)) (h0:rep s∈o):∃ φ:Nat->Nat,φ 0=o.idxOf (rep s)/\(∀ i,i<g.length->rep (s+i)∈o/\φ i=o.idxOf (rep (s+i)))/\(∀ i,i<g.length->φ i<(xJ (y9 U.length rep T L) o).length)/\(∀ i,i<g.length->sub l (nd (xJ (y9 U.length rep T L) o) (φ i)).ty.toNat (nd g i).ty.toNat=true)/\∀ i,i<g.length->∀ x∈(nd g i).ln,tgt (nd (xJ (y9 U.length rep T L) o) (φ i)).ln x.1=((φ x.2.toNat:Nat):Int):=by
 have hgy:=h.gy hv oG;have hgx:=t.gx hgy;have a2:∀ i,i<g.length->rep (s+i)∈o->∀ x∈(nd g i).ln,rep (s+x.2.toNat)∈o/\∃ z,(x.1,z)∈L (rep (s+i))/\rep z.toNat=rep (s+x.2.toNat):=fun i hi hio x hx=>by
  obtain⟨h1,h2⟩:=hs i hi;have hxr:=hg.lr i hi x hx;have hm:(x.1,x.2+(s:Int))∈(nd U (s+i)).ln:=by rw[h2];exact ar.2 ⟨x,hx,rfl⟩
  obtain⟨z,h3,h4⟩:=h.lcov _ h1 _ hm;have h5:=h4 rep ⟨fun j hj=>(h.uf.two hj).symm,fun w hw=>by cases hw⟩;have e:(x.2+(s:Int)).toNat=s+x.2.toNat:=by omega
  simp only[e]at h5;refine⟨?_,z,h3,h5.symm⟩;rw[h5];have:=t.mem hio (y:=(x.1,((rep z.toNat:Nat):Int))) (by rw[h.nd_o hr a3 t hio];exact ar.2 ⟨_,h3,rfl⟩)
  simpa using this
 have a1:∀ i,i<g.length->rep (s+i)∈o:=fun i hi=>by
  have:=hg.rch i hi
  induction this with
  | zero=>exact h0
  | step hr2 hi2 hx2 ih=>
   exact(a2 _ hi2 (ih hi2) _ (by rw[yv hi2];exact hx2)).1
 refine⟨fun i=>o.idxOf (rep (s+i)),rfl,fun i hi=>⟨a1 i hi,rfl⟩,fun i hi=>?_,fun i hi=>?_,fun i hi x hx=>?_⟩
 ·rw[kw];exact(jk (a1 i hi)).1
 ·obtain⟨h1,h2⟩:=hs i hi
  (try dsimp only)
  rw[Z8 t (a1 i hi)];show sub l (nd (y9 U.length rep T L) (rep (s+i))).ty.toNat _=true;rw[h.nd_o hr a3 t (a1 i hi)];have:=h.tcov _ h1;rw[h2]at this;exact this
 ·obtain⟨h1,z,h3,h4⟩:=a2 i hi (a1 i hi) x hx
  (try dsimp only)
  have hb1:=jk (a1 i hi);have hsr:=hgx.srt (o.idxOf (rep (s+i))) (by rw[kw];exact hb1.1);rw[Z8 t (a1 i hi)]at hsr ⊢;have hm2:((x.1,((o.idxOf (rep (s+x.2.toNat)):Nat):Int)):Int×Int)∈(trN (o.idxOf ·) (nd (y9 U.length rep T L) (rep (s+i)))).ln:=by
   refine ar.2 ⟨(x.1,((rep z.toNat:Nat):Int)),?_,?_⟩
   ·rw[h.nd_o hr a3 t (a1 i hi)];exact ar.2 ⟨_,h3,rfl⟩
   ·simp only[Int.toNat_natCast,h4]
  exact Px hsr hm2
theorem US.least(h:US l U J P rep ρ T L [])(hr:r<U.length)(a1:rep r=r)(t:TrR (y9 U.length rep T L) r o){c:List Nd}{θ:Nat->Nat}(hc:∀ i,i<c.length->0<=(nd c i).ty/\(nd c i).ty<l.length)(hθ:Adm l U c θ)(hj:∀ p∈J,θ p.1=θ p.2)(h0:θ r=0):Maps l (xJ (y9 U.length rep T L) o) c:=by
 obtain⟨h1,h2⟩:=h.only c θ hc hθ hj;refine⟨fun j=>θ (o.getD j 0),?_,fun j hj=>?_,fun j hj=>?_,fun j hj x hx=>?_⟩
 ·have hz:=jk t.has
  have hp:0<o.length:=by have:=hz.1;omega
  have:=hz.2;simp only[t.zero]at this;have e:o.getD 0 0=r:=by simp[List.getD,hp,this]
  show θ (o.getD 0 0)=0;rw[e];exact h0
 ·obtain⟨x,hx,_,e,_⟩:=t.at_ hj
  (try dsimp only)
  rw[e];exact hθ.lt x (h.roots hr a1 t x hx).1
 ·obtain⟨x,hx,_,e,e2⟩:=t.at_ hj
  obtain⟨hxl,hxr⟩:=h.roots hr a1 t x hx
  (try dsimp only)
  rw[e,e2];show sub l _ (nd (y9 U.length rep T L) x).ty.toNat=true;rw[h.nd_o hr a1 t hx];exact h2 x hxl hxr
 ·obtain⟨y,hy,_,e,e2⟩:=t.at_ hj
  obtain⟨hyl,hyr⟩:=h.roots hr a1 t y hy;rw[e2]at hx;obtain⟨z,hz,rfl⟩:=ar.1 hx;have hz2:=hz;rw[h.nd_o hr a1 t hy]at hz2;obtain⟨q,hq,rfl⟩:=ar.1 hz2;obtain⟨u,u1,u2,u3⟩:=h.val y hyl hyr q hq;have hqr:=h.ur u u1 q u3;have h3:=hθ.ln u u1 q u3;rw[h1.1 u u1,u2]at h3
  (try dsimp only)
  rw[e,h3,h1.1 _ hqr.2];have hm:=jk (t.mem hy hz);simp only[Int.toNat_natCast]at hm ⊢;have e3:o.getD (o.idxOf (rep q.2.toNat)) 0=rep q.2.toNat:=by
   have:=hm.2;simp[List.getD,hm.1,this]
  rw[e3]
theorem US.fit{fs:List Ft}(hv:VT l)(h:US l U J P rep ρ T L [])(hr:r<U.length)(a1:rep r=r)(t:TrR (y9 U.length rep T L) r o)
  (hU:∀ i,i<U.length->∀ x∈(nd U i).ln,(0<=x.1/\x.1<fs.length)/\sub l (nd U i).ty.toNat (Ey fs x.1).of.toNat=true/\sub l (nd U x.2.toNat).ty.toNat (Ey fs x.1).val.toNat=true):
  (∀ i,i<(xJ (y9 U.length rep T L) o).length->∀ x∈(nd (xJ (y9 U.length rep T L) o) i).ln,0<=x.1/\x.1<fs.length)/\∀ i,i<(xJ (y9 U.length rep T L) o).length->∀ x∈(nd (xJ (y9 U.length rep T L) o) i).ln,sub l (nd (xJ (y9 U.length rep T L) o) i).ty.toNat (Ey fs x.1).of.toNat=true/\sub l (nd (xJ (y9 U.length rep T L) o) x.2.toNat).ty.toNat (Ey fs x.1).val.toNat=true:=by
 have key:∀ i,i<(xJ (y9 U.length rep T L) o).length->∀ x∈(nd (xJ (y9 U.length rep T L) o) i).ln,(0<=x.1/\x.1<fs.length)/\sub l (nd (xJ (y9 U.length rep T L) o) i).ty.toNat (Ey fs x.1).of.toNat=true/\sub l (nd (xJ (y9 U.length rep T L) o) x.2.toNat).ty.toNat (Ey fs x.1).val.toNat=true:=fun i hi x hx=>by
  obtain⟨y,hy,_,e,e2⟩:=t.at_ hi;obtain⟨hyl,hyr⟩:=h.roots hr a1 t y hy;rw[e2]at hx ⊢;obtain⟨z,hz,rfl⟩:=ar.1 hx;have hz2:=hz;have a2:=t.mem hy hz;rw[h.nd_o hr a1 t hy]at hz2;obtain⟨q,hq,rfl⟩:=ar.1 hz2;obtain⟨u,u1,u2,u3⟩:=h.val y hyl hyr q hq;have hqr:=h.ur u u1 q u3;obtain⟨f1,f2,f3⟩:=hU u u1 q u3;have t1:=h.tcov u u1;have t2:=h.tcov _ hqr.2;rw[u2]at t1;refine⟨f1,?_,?_⟩
  ·show sub l (nd (y9 U.length rep T L) y).ty.toNat _=true
   rw[h.nd_o hr a1 t hy];exact Qz hv t1 f2
  ·simp only[Int.toNat_natCast]at a2 ⊢
   rw[Z8 t a2];show sub l (nd (y9 U.length rep T L) (rep q.2.toNat)).ty.toNat _=true;rw[h.nd_o hr a1 t a2];exact Qz hv t2 f3
 exact⟨fun i hi x hx=>(key i hi x hx).1,fun i hi x hx=>(key i hi x hx).2⟩
end us
end
end Go.Proofs.YtmfiholmfieieaaDoor
