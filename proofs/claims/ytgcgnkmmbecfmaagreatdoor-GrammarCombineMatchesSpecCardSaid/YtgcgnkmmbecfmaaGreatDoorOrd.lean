/- What these functions compute, at every world: cmp.isNaN[int], cmp.Compare[int], graph.Target$1, slices.BinarySearchFunc[[]api.Link,api.Link,int], graph.Target, ref3.Target; and plain laws. -/
import Derived.Test.YtgcgnkmmbecfmaaGreatDoorGCan
import Derived.Test.YtgcgnkmmbecfmaaGreatDoorU
import Derived.Test.YtgcgnkmmbecfmaaGreatDoorZst
namespace Go.Proofs.YtgcgnkmmbecfmaaGreatDoor
open Go.RowKit Go.Proofs.Tryz
variable {a b g:List Nd}{ch:Bool}{f:Int}{fs:List Ft}{i j k r t x y:Nat}{l:List Ty}{o o2:List Nat}{out:Nat->Int}{p p0:Nat->Nat->Bool}{st:List Int}{xs:List (Int×Int)}{φ ψ:Nat->Nat}
def tgt(xs:List (Int×Int))(f:Int):Int:=match xs.find? (fun y=>decide (y.1=f))with
 | some y=>y.2
 | none=>-1
theorem tgt_at{f:Int}:∀ {xs:List (Int×Int)} {i:Nat} (hi:i<xs.length),(xs[i]).1=f->(∀ j (hj:j<xs.length),j<i->¬(xs[j]).1=f)->tgt xs f=(xs[i]).2
 | [],_,hi,_,_=>absurd hi (by simp)
 | x::xs,0,_,h,_=>by
  have h1:x.1=f:=h
  unfold tgt
  grind
 | x::xs,i+1,hi,h,hb=>by
  have h0:¬x.1=f:=hb 0 (by simp) oG
  have ih:=tgt_at (xs:=xs) (i:=i) (by simpa using hi) h (fun j hj hji=>hb (j+1) (by simpa using hj) oG)
  unfold tgt at ih ⊢
  grind
theorem tgt_no{f:Int}:∀ {xs:List (Int×Int)},(∀ j (hj:j<xs.length),¬(xs[j]).1=f)->tgt xs f= -1
 | [],_=>rfl
 | x::xs,h=>by
  have h0:¬x.1=f:=h 0 (by simp)
  have ih:=tgt_no (xs:=xs) (f:=f) (fun j hj=>h (j+1) (by simpa using hj))
  unfold tgt at ih ⊢
  grind
theorem M6{nf n:Nat}:∀ {xs:List (Int×Int)} {a1:Int},yY nf n a1 xs=0->(∀ j (hj:j<xs.length),a1<(xs[j]).1)/\∀ i j (hi:i<xs.length) (hj:j<xs.length),i<j->(xs[i]).1<(xs[j]).1
 | [],_,_=>⟨fun j hj=>absurd hj (by simp),fun i j hi=>absurd hi (by simp)⟩
 | y::ys,a1,h=>by
  unfold yY at h
  by_cases h1:oz nf n y
  ·grind
  rw[if_neg h1]at h
  by_cases h2:y.1<=a1
  ·omega
  rw[if_neg h2]at h
  obtain⟨ih1,ih2⟩:=M6 h
  refine⟨fun j hj=>?_,fun i j hi hj hij=>?_⟩
  ·match j,hj with
   | 0,_=>show a1<y.1;omega
   | j+1,hj=>
    have:=ih1 j (by simpa using hj)
    show a1<(ys[j]'(by simpa using hj)).1
    omega
  ·match i,j,hi,hj,hij with
   | 0,j+1,_,hj,_=>exact ih1 j (by simpa using hj)
   | i+1,j+1,hi,hj,hij=>exact ih2 i j (by simpa using hi) (by simpa using hj) oG
theorem tgt_bs{nf n:Nat}{a1:Int}(hs:yY nf n a1 xs=0)(hlo:∀ j (hj:j<xs.length),j<i->(xs[j]).1<f)(hhi:∀ j (hj:j<xs.length),i<=j->f<=(xs[j]).1):
  (∀ h:i<xs.length,(xs[i]).1=f->tgt xs f=(xs[i]).2)/\((¬∃ h:i<xs.length,(xs[i]).1=f)->tgt xs f= -1):=by
 refine⟨fun h e=>tgt_at h e (fun j hj hji=>by have:=hlo j hj hji;omega),fun hn=>tgt_no (fun j hj e=>?_)⟩;by_cases h1:j<i
 ·grind
 ·by_cases h2:j=i
  ·grind
  ·have h3:=(M6 hs).2 i j oG hj oG
   grind
theorem tgt_mem:tgt xs f= -1\/∃ y∈xs,y.1=f/\tgt xs f=y.2:=by
 unfold tgt
 grind
def walkT(g:List Nd):List Int->Int->Int
 | [],a=>a
 | f::p,a=>if a<0 then a else walkT g p (tgt (nd g a.toNat).ln f)
def pF(nf:Nat)(p:List Int)(i:Nat):Int:=match p[i]? with
 | none=>0
 | some x=>if x<0\/(nf:Int)<=x then 3 else 0
noncomputable def atF(l:List Ty)(fs:List Ft)(g:List Nd)(p:List Int):Fl:=if ¬(Q8 l fs g).1=0 then Q8 l fs g else if 300<p.length then (2,-3)else qQ (pF fs.length p) 0 p.length
def AtOk(l:List Ty)(fs:List Ft)(g:List Nd)(p:List Int):Prop:=(atF l fs g p).1=0/\0<=walkT g p 0
noncomputable instance(l:List Ty)(fs:List Ft)(g:List Nd)(p:List Int):Decidable (AtOk l fs g p):=Classical.propDecidable _
theorem r_cvU{P:Program}{n:Nw}{f:Fr}{w:World}{dst:Option Tmp}{gd:Option (Nat×Bool)}{ty:TypeId}{pos:String}{af:Array Edge}{x:Operand}{k':IntKind}{a:Int}{t t':TypeId}{dd:TypeDesc}(hs:P.underlying t=some dd)(hd:P.underlying t'=some (.int .u64))(hx:ev n f x= .int k' a)(ha:0<=a/\a<=18446744073709551615):
  RV P n f w ⟨dst,.convert t t' x,ty,pos,af,gd⟩ (.int .u64 a) w:=by
 have:=IntWalk.u64_in a ha;simp[RV,execOp,hx,convert,run_underlying hs,run_underlying hd,Conv.intToInt,this]
def EZ(a b:Int):Int:=if a<b then -1 else if b<a then 1 else 0
theorem cmpI_lt{a b:Int}:EZ a b<0↔a<b:=by unfold EZ;split<;>(try split)<;>omega
theorem cmpI_eq{a b:Int}:EZ a b=0↔a=b:=by unfold EZ;split<;>(try split)<;>omega
theorem xX:(prog.info? 3).map (·.size)=some 1:=by kernel_rfl
theorem qv:(prog.info? 83).map (·.size)=some 2:=by kernel_rfl
theorem nan_any(a:Int)(w:World):Calls prog 98 #[.int .i64 a] w fun e w'=>e= .returned (.bool false)/\Bel w w':=by
 refine enT func98 ntmps98 rfl rfl fun hB=>?_;refine Yv ?_;exact⟨jJ (ap (fun h=>h rfl)).symm,hB⟩
theorem Py(a b:Int)(w:World):Calls prog 84 #[.int .i64 a,.int .i64 b] w fun e w'=>e= .returned (.int .i64 (EZ a b))/\Bel w w':=by
 refine enT func84 ntmps84 rfl rfl fun hB=>?_;refine zn8 ?_;refine ba kR (nan_any _ _) rfl (fun w1 s1=>?_);refine zn6 ?_;refine ba kR (nan_any _ _) rfl (fun w2 s2=>?_);refine zn9 ?_;refine jQ rfl (fun c11=>?_) (fun c11=>?_)
 ·exact absurd c11 dE
 refine zn8 ?_;refine jQ rfl (fun c13=>?_) (fun c13=>?_)
 ·exact absurd c13 dE
 refine yW ?_;refine zQ rfl (fun a1=>?_) (fun a1=>?_)
 ·refine zn8 ?_;replace hB:=hB.tr0 (s1.t s2);exact⟨Z9 (by unfold EZ;rw[if_pos a1]),hB⟩
 refine yW ?_;refine zQ rfl (fun a2=>?_) (fun a2=>?_)
 ·refine zn8 ?_;replace hB:=hB.tr0 (s1.t s2);exact⟨Z9 (by unfold EZ;rw[if_neg a1];exact if_pos a2),hB⟩
 refine zn9 ?_;replace hB:=hB.tr0 (s1.t s2);exact⟨Z9 (by unfold EZ;rw[if_neg a1];exact if_neg a2),hB⟩
theorem tcl_any(a b f:Int)(w:World):Calls prog 83 #[.agg #[.int .i64 a,.int .i64 b],.int .i64 f] w fun e w'=>e= .returned (.int .i64 (EZ a f))/\Bel w w':=by
 refine enT func83 ntmps83 rfl rfl fun hB=>?_;refine zn2 ?_;refine xy (v:= .agg #[_,_]) (cs:=#[_,_]) rfl rfl (fun b2 w1 hb2 s1 hr=>?_);refine zn8 ?_;refine ba kR (Py _ _ _) rfl (fun w2 s2=>?_);refine zn5 ?_;exact⟨rfl,hB.u⟩
theorem bsf_any(A:Option Addr)(c:Nat)(xs:List (Int×Int))(f:Int)(w:World)(hX:LinksIn w A xs)(hl:xs.length<=1000)(a1:∀ i j (hi:i<xs.length) (hj:j<xs.length),i<=j->(xs[i]).1<=(xs[j]).1):Calls prog 82 #[.slice A xs.length c,.int .i64 f,.func (.func 83) #[] #[]] w fun e w'=>(∃(i:Nat) (b:Bool),i<=xs.length/\e= .returned (.tuple #[.int .i64 i,.bool b])/\(∀ j (hj:j<xs.length),j<i->(xs[j]).1<f)/\(∀ j (hj:j<xs.length),i<=j->f<=(xs[j]).1)/\(b=true↔∃ h:i<xs.length,(xs[i]).1=f))/\Bel w w':=by
 refine enT func82 ntmps82 rfl rfl fun hB=>?_;refine zn22 ?_;refine qx (rg [9,10,11] 15 20) (fun m g w'=>∃ i j:Nat,i<=j/\j<=xs.length/\m=j-i/\g 9= .int .i64 i/\g 10= .int .i64 j/\Bel w w'/\(∀ x (hx:x<xs.length),x<i->(xs[x]).1<f)/\(∀ x (hx:x<xs.length),j<=x->f<=(xs[x]).1)) (xs.length) ?_ (fun m g3 w1 hI=>?_)
 ·exact⟨0,xs.length,ag _,ah _,rfl,rfl,rfl,hB,fun x _ h=>by omega,fun x h1 h2=>by omega⟩
 obtain⟨i,j,hij,hj,hm,h9,h10,hB,a4,a9⟩:=hI;refine zX 9 _ h9 nu (zX 10 _ h10 nu (zn8 ?_));refine zQ rfl (fun c17=>?_) (fun c17=>?_)
 ·obtain⟨h,hh⟩:∃ h,h=(i+j)/2:=⟨_,rfl⟩
  have b1:h<xs.length:=by omega
  obtain⟨lb,lof,rfl,hlb,ab⟩:=hX.at_ hB b1;refine zn7 ?_;refine wl (Z4 (c:=((i+j:Nat):Int)) rfl rfl oG oG) (wl (r_cvU U3 underlying145 rfl oG) (wl (r_shr (b:=1) (c:=h) rfl rfl oG (by rw[hh,Nat.shiftRight_eq_div_pow])) (wl (CJ underlying145 U3 rfl oG) (zn9 ?_))));refine wl (qw U83 rfl rfl ab qv) (wmI rfl ?_);refine yy rfl kR (tcl_any _ _ f _) rfl rfl (fun e' w2 hr=>?_);obtain⟨rfl,hs⟩:=hr;replace hB:=hB.tr0 (sB hs);refine⟨_,rfl,?_⟩;refine zn3 ?_;refine zQ rfl (fun b2=>?_) (fun b2=>?_)
  ·have hlt:=cmpI_lt.1 b2;obtain⟨i2,ao⟩:∃ i2,i2=h+1:=⟨_,rfl⟩
   obtain⟨j2,ac⟩:∃ j2,j2=j:=⟨_,rfl⟩
   have a2:∀ x (hx:x<xs.length),x<i2->(xs[x]).1<f:=fun x hx hxi=>by
     by_cases e:x=h
     ·subst e;exact hlt
     ·have hsx:(xs[x]).1<=(xs[h]).1:=a1 x h hx b1 oG
      omega
   have a3:∀ x (hx:x<xs.length),j2<=x->f<=(xs[x]).1:=fun x hx hxj=>a9 x hx oG
   refine zn6 ?_;refine x8 (j2-i2) oG agA ?_;exact⟨i2,j2,by omega,by omega,rfl,by subst ao;rfl,by subst ac;rfl,hB,a2,a3⟩
  have hge:¬(xs[h]).1<f:=fun h=>b2 (cmpI_lt.2 h)
  obtain⟨i2,ao⟩:∃ i2,i2=i:=⟨_,rfl⟩
  obtain⟨j2,ac⟩:∃ j2,j2=h:=⟨_,rfl⟩
  have a2:∀ x (hx:x<xs.length),x<i2->(xs[x]).1<f:=fun x hx hxi=>a4 x hx oG
  have a3:∀ x (hx:x<xs.length),j2<=x->f<=(xs[x]).1:=fun x hx hxj=>by
    have hsx:(xs[h]).1<=(xs[x]).1:=a1 h x b1 hx oG;omega
  refine zn5 ?_;refine x8 (j2-i2) oG agA ?_;exact⟨i2,j2,by omega,by omega,rfl,by subst ao;rfl,by subst ac;rfl,hB,a2,a3⟩
 have an:i=j:=by omega
 subst an;refine vj ?_;refine zw 39 rfl (fun g39=>?_) (fun g39=>?_)
 ·refine zn6 ?_;have a5:i<xs.length:=by omega
  obtain⟨lb,lof,rfl,hlb,ab⟩:=hX.at_ hB a5;refine zn3 ?_;refine wl (qw U83 rfl rfl ab qv) (zn3 ?_);refine yy rfl kR (tcl_any _ _ f _) rfl rfl (fun e' w3 hr=>?_);obtain⟨rfl,hs⟩:=hr;replace hB:=hB.tr0 (sB hs);refine⟨_,rfl,?_⟩;refine zn8 ?_;refine QK (.inl rfl) rfl rfl rfl ?_
  first
    | exact⟨⟨i,false,by omega,rfl,a4,a9,⟨fun h=>(Bool.noConfusion h),fun hh=>absurd hh.1 oG⟩⟩,hB⟩
    | exact⟨⟨i,decide (EZ (xs[i]'a5).1 f=0),by omega,rfl,a4,a9,by rw[decide_eq_true_iff,cmpI_eq];exact⟨fun h=>⟨a5,h⟩,fun⟨_,h⟩=>h⟩⟩,hB⟩
 refine ZV ?_;refine QK (.inl rfl) rfl rfl rfl ?_
 first
   | exact⟨⟨i,false,by omega,rfl,a4,a9,⟨fun h=>(Bool.noConfusion h),fun hh=>absurd hh.1 oG⟩⟩,hB⟩
   | exact⟨⟨i,decide (EZ (xs[i]'a5).1 f=0),by omega,rfl,a4,a9,by rw[decide_eq_true_iff,cmpI_eq];exact⟨fun h=>⟨a5,h⟩,fun⟨_,h⟩=>h⟩⟩,hB⟩
theorem O4:(prog.info? 28).map (·.size)=some 1:=by kernel_rfl
theorem gk:(prog.info? 78).map (·.size)=some 1:=by kernel_rfl
theorem gj:(prog.info? 80).map (·.size)=some 2:=by kernel_rfl
theorem Qj:(prog.info? 83).map (·.zero)=some (some (.agg #[.int .i64 0,.int .i64 0])):=by kernel_rfl
theorem Mw(G:Option Addr)(cg nf:Nat)(gr:List Nd)(i:Nat)(f:Int)(w:World)(hG:NodesIn w G gr)(hi:i<gr.length)(hl:yY nf gr.length (-1) (gr[i]'hi).ln=0)(hw:(gr[i]'hi).ln.length<=1000):Calls prog 61 #[.agg #[.slice G gr.length cg],.int .i64 i,.int .i64 f] w fun e w'=>e= .returned (.int .i64 (tgt (gr[i]'hi).ln f))/\Bel w w':=by
 obtain⟨nb,no,LA,lc,rfl,hnb,hnr,hln⟩:=hG.at_ (Below.refl _ _:Bel w w) hi;have hso:=(M6 hl).2;refine enT func61 ntmps61 rfl rfl fun hB=>?_;refine zn2 ?_;refine xy (v:= .agg #[_]) (cs:=#[_]) rfl rfl (fun b3 w1 hb3 s1 hr=>?_);refine zn8 ?_;refine wl (x9 (i:=i) U28 gj rfl rfl hi rfl) (zn1 ?_);refine wl (qy (v:= .slice _ _ _) U78 rfl rfl (hB.u.cell hnb (hnr 1 _ rfl))) (wmI rfl ?_);replace hB:=hB.tr0 s1
 refine qq kR (bsf_any LA lc (gr[i]'hi).ln f _ (hln.mono hB) hw (fun x y hx hy hxy=>by
   by_cases e:x=y
   ·subst e;exact aM _
   ·exact Int.le_of_lt (hso x y hx hy oG))) rfl (fun e' w2 hr=>?_)
 obtain⟨⟨ix,b,hix,rfl,hlo,hhi,hbt⟩,s2⟩:=hr;replace s2:=sB s2;obtain⟨hy,hn⟩:=tgt_bs hl hlo hhi;refine⟨_,rfl,?_⟩;refine wmT rfl (wl (vY (v:= .int _ _) rfl rfl) (wl (vY (v:= .bool _) rfl rfl) (jq ?_)));refine jQ rfl (fun a3=>?_) (fun a3=>?_)
 ·have hbf:¬b=true:=by simpa using a3
  have hno:=hn (fun h=>hbf (hbt.2 h));refine zn8 ?_;exact⟨Z9 hno,hB.u⟩
 have a2:b=true:=by simpa using a3
 obtain⟨hxl,hxe⟩:=hbt.1 a2;have a1:=hy hxl hxe;replace hB:=hB.tr0 s2;obtain⟨lb,lof,rfl,hlb,hlr⟩:=hln.at_ hB hxl;refine zn7 ?_;refine wl (x9 (i:=i) U28 gj rfl rfl hi rfl) (zn1 ?_);refine wl (qy (v:= .slice _ _ _) U78 rfl rfl (hB.cell hnb (hnr 1 _ rfl))) (zn3 ?_);refine wl (qy (v:= .int _ _) U3 rfl rfl (hlr 1 _ rfl)) (zn5 ?_);exact⟨Z9 a1,hB⟩
theorem Yy(G:Option Addr)(cg:Nat)(gr:List Nd)(i:Nat)(f:Int)(w:World)(hG:NodesIn w G gr)(hi:i<gr.length):Calls prog 36 #[.agg #[.slice G gr.length cg],.int .i64 i,.int .i64 f] w fun e w'=>e= .returned (.int .i64 (tgt (gr[i]'hi).ln f))/\Bel w w':=by
 obtain⟨nb,no,LA,lc,rfl,hnb,hnr,hln⟩:=hG.at_ (Below.refl _ _:Bel w w) hi;have hmx:=hln.1;unfold vJ at hmx;refine enT func36 ntmps36 rfl rfl fun hB=>?_;refine zn2 ?_;refine xy (v:= .agg #[_]) (cs:=#[_]) rfl rfl (fun b3 w1 hb3 s1 hr=>?_);refine zn9 ?_;refine wl (x9 (i:=i) U28 gj rfl rfl hi rfl) (zn1 ?_);refine wl (qy (v:= .slice _ _ _) U78 rfl rfl (hB.u.cell hnb (hnr 1 _ rfl))) (zn5 ?_);refine qx (rg [6,8] 16 11) (fun m g w'=>∃ k:Nat,k<=(gr[i]'hi).ln.length/\m=(gr[i]'hi).ln.length-k/\g 16= .int .i64 k/\Bel w w'/\(∀ j (hj:j<(gr[i]'hi).ln.length),j<k->¬((gr[i]'hi).ln[j]).1=f)) ((gr[i]'hi).ln.length) ?_ (fun m g2 w2 hI=>?_)
 ·exact⟨0,ag _,rfl,rfl,hB.u,fun j _ h=>by omega⟩
 obtain⟨k,hk,hm,h16,hB,a1⟩:=hI;refine zX 16 _ h16 nu (zn6 ?_);refine zQ rfl (fun c17=>?_) (fun c17=>?_)
 ·have hkl:k<(gr[i]'hi).ln.length:=by omega
  obtain⟨lb,lof,rfl,hlb,hlr⟩:=hln.at_ hB hkl;refine zn7 ?_;refine wl (qw U83 rfl rfl hlr qv) ?_;refine yx (cs:=#[.int .i64 0,.int .i64 0]) Qj rfl (fun _=>rfl) (fun _=>rfl) qv rfl qz (fun b8 w4 hb8 s2 hr=>?_);refine yW ?_;refine zQ rfl (fun a3=>?_) (fun a3=>?_)
  ·refine ZV ?_;exact⟨Z9 (tgt_at hkl a3 (fun j hj h=>a1 j hj h)),hB.u⟩
  refine zn7 ?_;refine x8 ((gr[i]'hi).ln.length-(k+1)) oG agA ?_;replace hB:=hB.tr0 s2
  exact⟨k+1,by omega,rfl,rfl,hB,fun j hj h=>by
    by_cases e:j=k
    ·subst e;exact a3
    ·exact a1 j hj oG⟩
 have a2:tgt (gr[i]'hi).ln f= -1:=tgt_no (fun j hj=>a1 j hj oG);refine vj ?_;exact⟨Z9 a2,hB⟩
section
def trN(σ:Nat->Nat)(x:Nd):Nd:=⟨x.ty,x.ln.map (fun y=>(y.1,(σ y.2.toNat:Int)))⟩
theorem Pq{nf n m:Nat}{σ:Nat->Nat}:∀ {xs:List (Int×Int)} {a1:Int},yY nf n a1 xs=0->(∀ x∈xs,σ x.2.toNat<m)->yY nf m a1 (xs.map (fun y=>(y.1,(σ y.2.toNat:Int))))=0
 | [],_,_,_=>rfl
 | y::ys,a1,h,hm=>by
  unfold yY at h
  by_cases h1:oz nf n y
  ·rw[if_pos h1]at h;cases h
  rw[if_neg h1]at h
  by_cases h2:y.1<=a1
  ·rw[if_pos h2]at h;cases h
  rw[if_neg h2]at h
  have h3:=hm y (by simp)
  have h4:¬oz nf m (y.1,(σ y.2.toNat:Int)):=by
   unfold oz at h1 ⊢;omega
  rw[List.map_cons];unfold yY;rw[if_neg h4,if_neg h2];exact Pq h (fun x hx=>hm x (ar _ hx))
theorem gv_img{gt:List Nd}{σ τ:Nat->Nat}(h:GV l fs g)(hp:0<gt.length)(hle:gt.length<=60)
  (hτ:∀ j,j<gt.length->τ j<g.length/\nd gt j=trN σ (nd g (τ j))/\∀ x∈(nd g (τ j)).ln,σ x.2.toNat<gt.length/\(nd gt (σ x.2.toNat)).ty=(nd g x.2.toNat).ty)
  (hR:∀ j,j<gt.length->Rch gt j):(Q8 l fs gt).1=0:=by
 have hl:j9 l.length fs.length gt=(0,0):=by
  unfold j9;rw[if_neg oG];refine Zw (fun k _ hk=>?_);have a3:k<gt.length:=by omega
  obtain⟨a1,a2,a4⟩:=hτ k a3;rw[vx a3,vx a1]at a2;rw[vx a1]at a4;have hty:=h.gok.ty _ a1;have hln:=Ix h.lo _ a1;have e:¬((gt[k]).ty<0\/(l.length:Int)<=(gt[k]).ty):=by rw[a2];simp only[trN];omega
  rw[XQ a3 e,List.drop_zero,a2];exact Pq hln (fun x hx=>(a4 x hx).1)
 have ht:tyF l fs gt=(0,0):=by
  refine Zw (fun k _ hk=>?_);have a3:k<gt.length:=by omega
  obtain⟨a1,a2,a4⟩:=hτ k a3;refine Rx a3 (fun j hj=>?_);have h0:tyN l fs g (τ k)=0:=uX (by rw[show qQ (tyN l fs g) 0 g.length=tyF l fs g from rfl,h.t]) _ (ag _) oG;rw[vx a3,vx a1]at a2;rw[vx a1]at a4;have hex:∃ y∈(g[τ k]).ln,(gt[k]).ln[j]=(y.1,(σ y.2.toNat:Int)):=by
   have hm:(gt[k]).ln[j]∈(trN σ (g[τ k])).ln:=by rw[<- a2];exact am hj
   simp only[trN,List.mem_map]at hm;obtain⟨y,hy,e⟩:=hm;exact⟨y,hy,e.symm⟩
  obtain⟨y,hy,ey⟩:=hex;have h1:Ez l fs g (g[τ k]).ty y=false:=by
   simp only[tyN,List.getElem?_eq_getElem a1]at h0;cases hb:Ez l fs g (g[τ k]).ty y with
   | false=>rfl
   | true=>rw[if_pos (List.any_eq_true.2 ⟨y,hy,hb⟩)]at h0;cases h0
  have e3:=(a4 y hy).2;have e2:(gt[k]).ty=(g[τ k]).ty:=by rw[a2];rfl
  rw[ey,e2];unfold Ez at h1 ⊢;have e4:(Ow gt ((σ y.2.toNat:Nat):Int)).ty=(Ow g y.2).ty:=by
   unfold nd at e3;unfold Ow;rw[Int.toNat_natCast];exact e3
  rw[e4];exact h1
 have hu:(-1:Int)=Kq gt:=O1 (.inl ⟨rfl,hR⟩);rw[gf_in h.h,IQ (by rw[hl]) ht oG]
theorem unr_ex(g:List Nd):∃ r,UnrIs g r:=by
 have h:∀ n:Nat,(∀ i,i<n->Rch g i)\/∃ k,k<n/\¬Rch g k/\∀ i,i<k->Rch g i:=by
  intro n
  induction n with
  | zero=>exact .inl (fun i hi=>absurd hi oG)
  | succ n ih=>
   rcases ih with h|⟨k,h1,h2,h3⟩
   ·by_cases hn:Rch g n
    ·refine .inl (fun i hi=>?_)
     by_cases e:i=n
     ·rw[e];exact hn
     ·exact h i oG
    ·exact .inr ⟨n,by omega,hn,h⟩
   ·exact .inr ⟨k,by omega,h2,h3⟩
 rcases h g.length with h|⟨k,h1,h2,h3⟩
 ·exact⟨-1,.inl ⟨rfl,h⟩⟩
 ·exact⟨k,.inr ⟨k,rfl,h1,h2,h3⟩⟩
theorem GV.rch(h:GV l fs g):∀ i,i<g.length->Rch g i:=by
 obtain⟨r,hr⟩:=unr_ex g;have hu:=h.u;rw[<- O1 hr]at hu;rcases hr with ⟨_,h3⟩|⟨k,h3,_⟩
 ·exact h3
 ·exact absurd (show 0<=r by omega) hu
structure Turn(g gt:List Nd)(σ ρ:Nat->Nat):Prop where
 len:gt.length=g.length
 z:σ 0=0
 lt:∀ i,i<g.length->σ i<g.length
 rl:∀ j,j<g.length->ρ j<g.length/\σ (ρ j)=j
 lr:∀ i,i<g.length->ρ (σ i)=i
 nd:∀ i,i<g.length->nd gt (σ i)=trN σ (nd g i)
section turn
variable {g gt:List Nd} {σ ρ:Nat->Nat}
theorem Turn.inj(t:Turn g gt σ ρ)(hx:x<g.length)(hy:y<g.length)(h:σ x=σ y):x=y:=by rw[<- t.lr x hx,<- t.lr y hy,h]
theorem Turn.succ(t:Turn g gt σ ρ)(hi:i<g.length):vy gt (σ i)=(vy g i).map σ:=by
 unfold vy;rw[t.nd i hi];simp[trN]
theorem Turn.dl(t:Turn g gt σ ρ)(hr:∀ i,i<g.length->∀ y∈vy g i,y<g.length){is a b:List Nat}(h:DL g is a b):(∀ i∈is,i<g.length)->(∀ x∈b,x<g.length)->DL gt (is.map σ) (a.map σ) (b.map σ):=by
 induction h with
 | nil=>exact fun _ _=> .nil
 | old h _ ih=>exact fun hi hb=> .old (List.mem_map_of_mem h) (ih (fun i h=>hi i (ar _ h)) hb)
 | new h s u ihs iht=>
  intro hi hb
  rename_i i is o o1 o'
  have a1:=hi i (aB ..);have ho1:∀ x∈o1,x<g.length:=fun x hx=>hb x (u.sub _ hx)
  refine .new (fun hm=>?_) ?_ (iht (fun i h=>hi i (ar _ h)) hb)
  ·obtain⟨y,hy,e⟩:=av.1 hm
   have hyl:=ho1 y (s.sub _ (List.mem_append_left _ hy));exact h (t.inj hyl a1 e ▸ hy)
  ·have:=ihs (hr i a1) ho1
   rw[List.map_append]at this;rw[t.succ a1];exact this
theorem Turn.rch(t:Turn g gt σ ρ)(hr:∀ i,i<g.length->∀ y∈vy g i,y<g.length)(hp:0<g.length)(h:Rch g i):i<g.length/\Rch gt (σ i):=by
 induction h with
 | zero=>exact⟨hp,by rw[t.z];exact .zero⟩
 | step h hi hx ih=>
  rename_i i x
  refine⟨hr i hi _ (by simp only[vy,vx hi,List.mem_map];exact⟨x,hx,rfl⟩),?_⟩;have hlt:σ i<gt.length:=by rw[t.len];exact t.lt i hi
  have e:=t.nd i hi;rw[vx hlt,vx hi]at e;have:=Rch.step (x:=(x.1,((σ x.2.toNat:Nat):Int))) ih.2 hlt (by rw[e];exact av.2 ⟨x,hx,rfl⟩)
  simpa using this
theorem idx_map{g:List Nd}{σ:Nat->Nat}{x:Nat}(hx:x<g.length)(inj:∀ y,y<g.length->σ y=σ x->y=x):∀ {o:List Nat},(∀ y∈o,y<g.length)->(o.map σ).idxOf (σ x)=o.idxOf x
 | [],_=>rfl
 | y::o,h=>by
  rw[List.map_cons,List.idxOf_cons,List.idxOf_cons,idx_map hx inj (fun z hz=>h z (List.mem_cons_of_mem _ hz))]
  by_cases e:y=x
  ·subst e;simp
  ·have e2:¬σ y=σ x:=fun h2=>e (inj y (h y (aB ..)) h2)
   have b1:(y==x)=false:=by simp[e]
   have b2:(σ y==σ x)=false:=by simp[e2]
   rw[b1,b2]
theorem Turn.num(t:Turn g gt σ ρ)(hx:x<g.length)(ho:∀ y∈o,y<g.length):kV (o.map σ) (σ x)=kV o x:=by
 unfold kV
 have e:σ x∈o.map σ↔x∈o:=⟨fun h=>by
  obtain⟨y,hy,e⟩:=av.1 h
  exact t.inj (ho y hy) hx e ▸ hy,fun h=>List.mem_map_of_mem h⟩
 by_cases h:x∈o
 ·rw[if_pos (e.2 h),if_pos h,idx_map hx (fun y hy h=>t.inj hy hx h) ho]
 ·rw[if_neg (fun k=>h (e.1 k)),if_neg h]
theorem Turn.can(t:Turn g gt σ ρ)(hr:∀ i,i<g.length->∀ y∈vy g i,y<g.length)(ho:∀ y∈o,y<g.length):yK gt (o.map σ)=yK g o:=by
 unfold yK;rw[List.map_map];refine aP (fun x hx=>?_);have hxl:=ho x hx;simp only[Function.comp];unfold SZ;rw[t.nd x hxl];refine V8 rfl ?_;simp only[trN,List.map_map];refine aP (fun y hy=>?_);have hyl:=hr x hxl y.2.toNat (by simp only[vy,List.mem_map];exact⟨y,hy,rfl⟩);simp only[Function.comp,Yx,Int.toNat_natCast];rw[t.num hyl ho]
end turn
theorem L8{m:Nat}{f h:Nat->Value}{a b:Value}:Cz (kz m f h) (0+i*2) [a,b]=kz m (fun j=>if j=i then a else f j) (fun j=>if j=i then b else h j):=by
 show ((kz m f h).setIfInBounds (0+i*2+0) a).setIfInBounds (0+i*2+1) b=_;rw[VZ,M1]
end
section
structure TrR(g:List Nd)(r:Nat)(o:List Nat):Prop where
 dl:DL g [r] [] o
 ok:OOk g.length o
 nodup:o.Nodup
 has:r∈o
 zero:o.idxOf r=0
 clo:∀ x∈o,∀ t∈vy g x,t∈o
theorem DL.within(hc:∀ x∈o,∀ t∈vy g x,t∈o){is a b:List Nat}(h:DL g is a b):(∀ i∈is,i∈o)->(∀ x∈a,x∈o)->∀ x∈b,x∈o:=by
 induction h with
 | nil=>exact fun _ h=>h
 | old h t ih=>exact fun hi ha=>ih (fun i h=>hi i (ar _ h)) ha
 | new h s t ihs iht=>
  grind
theorem idx_inj(hx:x∈o)(hy:y∈o)(e:o.idxOf x=o.idxOf y):x=y:=by
 obtain⟨h1,h2⟩:=oq hx
 grind
theorem Gw{o:List Nat}{x:Nat}(hx:x∈o):∀ {o2:List Nat},(∀ y∈o2,y∈o)->(o2.map (o.idxOf ·)).idxOf (o.idxOf x)=o2.idxOf x
 | [],_=>rfl
 | y::o2,h=>by
  rw[List.map_cons,List.idxOf_cons,List.idxOf_cons,Gw hx (fun z hz=>h z (List.mem_cons_of_mem _ hz))]
  grind[idx_inj,List.mem_cons_self]
theorem num_map2(hx:x∈o)(h:∀ y∈o2,y∈o):kV (o2.map (o.idxOf ·)) (o.idxOf x)=kV o2 x:=by
 grind[kV,idx_inj,List.mem_map_of_mem,Gw]
section sub
variable {g:List Nd} {r:Nat} {o:List Nat}
theorem TrR.mem(t:TrR g r o)(hx:x∈o){y:Int×Int}(hy:y∈(nd g x).ln):y.2.toNat∈o:=t.clo x hx _ (by simp only[vy,List.mem_map];exact⟨y,hy,rfl⟩)
theorem TrR.lt(t:TrR g r o){x:Nat}(hx:x∈o):x<g.length:=t.ok.lt x hx
theorem TrR.can2(t:TrR g r o){c:Nat}(hc:c∈o)(h2:DL g [c] [] o2):yK (yK g o) (o2.map (o.idxOf ·))=yK g o2:=by
 have hw:=h2.within t.clo (fun i hi=>by rw[List.mem_singleton.1 hi];exact hc) (fun x hx=>by cases hx);have hcl:=h2.clo;unfold yK;rw[List.map_map];refine aP (fun x hx=>?_);have hxo:=hw x hx;have e:=EJ (g:=g) hxo;unfold yK at e;show SZ _ _ (o.idxOf x)=SZ g o2 x;unfold SZ at e ⊢;rw[e];refine V8 rfl ?_;simp only[List.map_map];refine aP (fun y hy=>?_);have hyo:=t.mem hxo hy
 grind[Yx,D8,Int.toNat_natCast,num_map2]
theorem TrR.dl2(t:TrR g r o){c:Nat}(hc:c∈o)(h2:DL g [c] [] o2):DL (yK g o) [o.idxOf c] [] (o2.map (o.idxOf ·)):=
 h2.map t.clo (h2.within t.clo (fun i hi=>by rw[List.mem_singleton.1 hi];exact hc) (fun x hx=>by cases hx))
theorem TrR.valid(t:TrR g r o)(h:GV l fs g):(Q8 l fs (yK g o)).1=0:=by
 have a1:=uY g o;have hole:o.length<=g.length:=by have:=t.ok.cnt;omega
 have hpos:0<o.length:=List.length_pos_of_mem t.has;have hle:=h.gok.le;have a2:∀ j (hj:j<o.length),o.idxOf o[j]=j:=fun j hj=>Dv t.nodup hj
 have hrg:∀ i,i<(yK g o).length->∀ y∈vy (yK g o) i,y<(yK g o).length:=fun i hi y hy=>by
  rw[a1]at hi ⊢;rw[<- a2 i hi,R7 t.clo (List.getElem_mem hi)]at hy;obtain⟨z,hz,rfl⟩:=av.1 hy;exact(oq (t.clo _ (am hi) z hz)).1
 refine gv_img (σ:=(o.idxOf ·)) (τ:=fun j=>o.getD j 0) h oG oG (fun j hj=>?_) (fun j hj=>?_)
 ·have a3:j<o.length:=by omega
  have eg:o.getD j 0=o[j]:=by simp[List.getD,a3]
  have hm:o[j]∈o:=am a3;have en:=EJ (g:=g) hm;rw[a2 j a3]at en;simp only[eg];refine⟨t.lt hm,?_,fun x hx=>?_⟩
  ·rw[en]
   refine V8 rfl ?_;simp only[SZ,trN];refine aP (fun y hy=>?_);simp only[Yx,D8 (t.mem hm hy)]
  ·have hxo:=t.mem hm hx
   rw[EJ hxo,a1];exact⟨(oq hxo).1,rfl⟩
 ·have hd:=t.dl2 t.has t.dl
  rw[t.zero,FJ t.nodup]at hd;have hR:=hd.rch hrg (fun i hi=>by rw[List.mem_singleton.1 hi];omega) (fun i hi=>by rw[List.mem_singleton.1 hi];exact .zero) (fun x hx=>by cases hx)
  grind
end sub
section comp
variable {l:List Ty} {fs:List Ft} {g:List Nd} {p q:List Int}
end comp
end
structure Hom(l:List Ty)(a b:List Nd)(φ:Nat->Nat):Prop where
 zero:φ 0=0
 lt:∀ i,i<a.length->φ i<b.length
 ty:∀ i,i<a.length->sub l (nd b (φ i)).ty.toNat (nd a i).ty.toNat=true
 ln:∀ i,i<a.length->∀ x∈(nd a i).ln,tgt (nd b (φ i)).ln x.1=((φ x.2.toNat:Nat):Int)
theorem Hom.uniq(h:Hom l a b φ)(k:Hom l a b ψ)(hr:Rch a i):φ i=ψ i:=by
 induction hr with
 | zero=>rw[h.zero,k.zero]
 | step hr hi hx ih=>
  rename_i i x
  have e:=vx hi;have h1:=h.ln i hi x (by rw[e];exact hx);have h2:=k.ln i hi x (by rw[e];exact hx)
  grind
def Maps(l:List Ty)(a b:List Nd):Prop:=∃ φ,Hom l a b φ
noncomputable instance(l:List Ty)(a b:List Nd):Decidable (Maps l a b):=Classical.propDecidable _
def BY(out:Nat->Int)(t:Nat)(v:Int)(x:Nat):Int:=if x=t then v else out x
theorem Vw(out:Nat->Int)(t:Nat)(v:Int):BY out t v t=v:=by simp[BY]
theorem gw{v:Int}(h:x≠t):BY out t v x=out x:=by simp[BY,h]
def LinksDone(a b:List Nd)(out:Nat->Int)(j k:Nat):Prop:=∀ x∈(nd a j).ln.take k,0<=out x.2.toNat/\tgt (nd b (out j).toNat).ln x.1=out x.2.toNat
def NodeDone(l:List Ty)(a b:List Nd)(out:Nat->Int)(j:Nat):Prop:=sub l (nd b (out j).toNat).ty.toNat (nd a j).ty.toNat=true/\LinksDone a b out j (nd a j).ln.length
structure FS(l:List Ty)(a b:List Nd)(out:Nat->Int)(st:List Int)(i k:Nat):Prop where
 zero:out 0=0
 rng:∀ j,-1<=out j/\out j<b.length
 only:∀ j,0<=out j->∀ φ,Hom l a b φ->out j=(φ j:Nat)
 stk:∀ s∈st,∃ n:Nat,s=(n:Int)/\n<a.length/\0<=out n
 cl:∀ j,j<a.length->0<=out j->j≠i->(j:Int)∈st\/NodeDone l a b out j
 me:i<a.length->0<=out i/\LinksDone a b out i k
 ty:i<a.length->0<k->sub l (nd b (out i).toNat).ty.toNat (nd a i).ty.toNat=true
theorem FS.start(ha:0<a.length)(hb:0<b.length):FS l a b (BY (fun _=>-1) 0 0) [0] a.length 0:=by
 refine⟨by simp[BY],fun j=>?_,fun j hj φ h=>?_,fun s hs=>?_,fun j _ hj _=>?_,fun hi=>absurd hi (aH _),fun hi=>absurd hi (aH _)⟩
 ·grind[Vw,gw]
 ·by_cases e:j=0
  ·subst e;rw[h.zero];simp[BY]
  ·grind[gw]
 ·grind[BY]
 ·grind[gw]
theorem FS.pop{z:Int}(h:FS l a b out (st++[z]) a.length 0):∃ n m:Nat,z=(n:Int)/\n<a.length/\out n=(m:Int)/\m<b.length/\FS l a b out st n 0:=by
 obtain⟨n,rfl,hn,hm⟩:=h.stk z (by simp);have hr:=h.rng n;refine⟨n,(out n).toNat,rfl,hn,by omega,by omega,h.zero,h.rng,h.only,fun s hs=>h.stk s (by simp[hs]),fun j hj hmj hne=>?_,fun _=>⟨hm,fun x hx=>by simp at hx⟩,fun _ hk=>absurd hk (aH _)⟩;rcases h.cl j hj hmj oG with h1|h1
 ·rcases aE.1 h1 with h2|h2
  ·exact .inl h2
  ·have:=aq.1 h2
   omega
 ·exact .inr h1
theorem take_nd(hi:i<a.length)(hk:k<(a[i]).ln.length):(nd a i).ln.take (k+1)=(nd a i).ln.take k++[(a[i]).ln[k]]:=by
 rw[vx hi,List.take_succ_eq_append_getElem hk]
theorem LinksDone.snoc{a b:List Nd}{out:Nat->Int}{i k:Nat}(h:LinksDone a b out i k)(hi:i<a.length)(hk:k<(a[i]).ln.length)(hx:0<=out ((a[i]).ln[k]).2.toNat/\tgt (nd b (out i).toNat).ln ((a[i]).ln[k]).1=out ((a[i]).ln[k]).2.toNat):LinksDone a b out i (k+1):=fun x hxm=>by
 rw[take_nd hi hk]at hxm
 rcases aE.1 hxm with h1|h1
 ·exact h x h1
 ·grind
theorem FS.old(h:FS l a b out st i k)(hi:i<a.length)(hk:k<(a[i]).ln.length)(hty:sub l (nd b (out i).toNat).ty.toNat (nd a i).ty.toNat=true)
  (hm:0<=out ((a[i]).ln[k]).2.toNat) (he:out ((a[i]).ln[k]).2.toNat=tgt (nd b (out i).toNat).ln ((a[i]).ln[k]).1):FS l a b out st i (k+1):=
 ⟨h.zero,h.rng,h.only,h.stk,h.cl,fun _=>⟨(h.me hi).1,(h.me hi).2.snoc hi hk ⟨hm,he.symm⟩⟩,fun _ _=>hty⟩
theorem LinksDone.set{v:Int}(h:LinksDone a b out j k)(hj:0<=out j)(ht:out t<0):LinksDone a b (BY out t v) j k:=fun x hx=>by
 have h1:=h x hx
 grind[gw,h1]
theorem FS.new(h:FS l a b out st i k)(hi:i<a.length)(hk:k<(a[i]).ln.length)(hty:sub l (nd b (out i).toNat).ty.toNat (nd a i).ty.toNat=true)
  (htt:((a[i]).ln[k]).2=(t:Int)) (htl:t<a.length) (hn:out t<0) (h0:0<=tgt (nd b (out i).toNat).ln ((a[i]).ln[k]).1) (hb:tgt (nd b (out i).toNat).ln ((a[i]).ln[k]).1<b.length):FS l a b (BY out t (tgt (nd b (out i).toNat).ln ((a[i]).ln[k]).1)) (st++[(t:Int)]) i (k+1):=by
 have a1:=(h.me hi).1;have hit:i≠t:=fun e=>by rw[e]at a1;omega
 have h0t:0≠t:=fun e=>by have:=h.zero;rw[e]at this;omega
 have hxm:(a[i]).ln[k]∈(nd a i).ln:=by rw[vx hi];exact am hk
 refine⟨by rw[gw h0t];exact h.zero,fun j=>?_,fun j hj φ hφ=>?_,fun s hs=>?_,fun j hj hm hne=>?_,fun _=>?_,fun _ _=>by rw[gw hit];exact hty⟩
 ·by_cases e:j=t
  ·grind[Vw]
  ·rw[gw e];exact h.rng j
 ·by_cases e:j=t
  ·subst e
   rw[Vw,h.only i a1 φ hφ,Int.toNat_natCast,hφ.ln i hi _ hxm,htt,Int.toNat_natCast]
  ·rw[gw e]at hj ⊢;exact h.only j hj φ hφ
 ·rcases aE.1 hs with hs|hs
  ·obtain⟨n,h1,h2,h3⟩:=h.stk s hs
   grind[h1,gw]
  ·grind[Vw]
 ·by_cases e:j=t
  ·grind
  ·rw[gw e]at hm
   rcases h.cl j hj hm hne with h1|h1
   ·grind
   ·refine .inr ⟨by rw[gw e];exact h1.1,h1.2.set hm hn⟩
 ·refine⟨by rw[gw hit];exact a1,?_⟩
  refine LinksDone.snoc ((h.me hi).2.set a1 hn) hi hk ?_
  grind[Int.toNat_natCast,Vw,gw]
theorem FS.done(h:FS l a b out st i k)(hi:i<a.length)(hk:k=(a[i]).ln.length)(hty:sub l (nd b (out i).toNat).ty.toNat (nd a i).ty.toNat=true):FS l a b out st a.length 0:=
 ⟨h.zero,h.rng,h.only,h.stk,fun j hj hm _=>by
  by_cases e:j=i
  ·subst e
   refine .inr ⟨hty,?_⟩
   have h1:=(h.me hj).2
   grind[vx,h1]
  ·exact h.cl j hj hm e,fun hi=>absurd hi (aH _),fun hi=>absurd hi (aH _)⟩
theorem FS.end_(hr:∀ i,i<a.length->Rch a i)(h:FS l a b out [] a.length 0):Hom l a b (fun i=>(out i).toNat)/\∀ i,i<a.length->0<=out i:=by
 have hd:∀ i,i<a.length->0<=out i->NodeDone l a b out i:=fun i hi hm=>by
  rcases h.cl i hi hm oG with h1|h1
  ·cases h1
  ·exact h1
 have a2:∀ i,Rch a i->i<a.length->0<=out i:=fun i hri=>by
  induction hri with
  | zero=>intro _;rw[h.zero];exact aM _
  | step hr hi hx ih=>
   rename_i i x
   intro _;have h1:=(hd i hi (ih hi)).2 x (by rw[List.take_length,vx hi];exact hx);exact h1.1
 have a1:∀ i,i<a.length->0<=out i:=fun i hi=>a2 i (hr i hi) hi
 refine⟨⟨by show (out 0).toNat=0;rw[h.zero];rfl,fun i hi=>?_,fun i hi=>(hd i hi (a1 i hi)).1,fun i hi x hx=>?_⟩,a1⟩
 ·have h1:=h.rng i;have h2:=a1 i hi;show (out i).toNat<b.length;omega
 ·have h1:=(hd i hi (a1 i hi)).2 x (by rw[List.take_length];exact hx)
  omega
def F5(p:Nat->Nat->Bool)(i j:Nat)(x y:Nat):Bool:=if x=i/\y=j then true else p x y
theorem O7(p:Nat->Nat->Bool)(i j:Nat):F5 p i j i j=true:=by simp[F5]
theorem setP_mono(h:p x y=true):F5 p i j x y=true:=by
 unfold F5;split
 ·rfl
 ·exact h
theorem Jq(h:F5 p i j x y=true):(x=i/\y=j)\/p x y=true:=by
 grind[F5]
def B7(na nb:Nat)(p:Nat->Nat->Bool):Nat:=(List.range (na*nb)).countP (fun z=>!p (z/nb) (z%nb))
theorem lackP_lt{na nb:Nat}{q:Nat->Nat->Bool}(hpq:∀ x y,p x y=true->q x y=true)(hi:i<na)(hj:j<nb)(h1:p i j=false)(h2:q i j=true):B7 na nb q<B7 na nb p:=by
 have hd:(i*nb+j)/nb=i:=by
  rw[Nat.mul_comm,Nat.mul_add_div oG,Nat.div_eq_of_lt hj,Nat.add_zero]
 have hm:(i*nb+j)%nb=j:=by
  rw[Nat.mul_comm,Nat.mul_add_mod,Nat.mod_eq_of_lt hj]
 have hl:i*nb+j<na*nb:=by
  have:=aV nb (show i+1<=na from hi)
  grind
 refine gK (fun z hz=>?_) (List.range (na*nb)) (i*nb+j) (aw.2 hl) ?_ ?_
 ·grind
 ·grind
 ·grind
def PairLn(a b:List Nd)(p:Nat->Nat->Bool)(i j k:Nat):Prop:=∀ x∈(nd a i).ln.take k,∃ t:Nat,tgt (nd b j).ln x.1=(t:Int)/\p x.2.toNat t=true
def PairOk(l:List Ty)(a b:List Nd)(p:Nat->Nat->Bool)(i j:Nat):Prop:=sub l (nd b j).ty.toNat (nd a i).ty.toNat=true/\PairLn a b p i j (nd a i).ln.length
structure PB(l:List Ty)(a b:List Nd)(p:Nat->Nat->Bool):Prop where
 zero:p 0 0=true
 rng:∀ i j,p i j=true->i<a.length/\j<b.length
 only:∀ i j,p i j=true->∀ φ,Hom l a b φ->φ i=j
structure MPS(l:List Ty)(a b:List Nd)(p:Nat->Nat->Bool)(ch:Bool):Prop where
 pb:PB l a b p
 cl:ch=false->∀ i j,p i j=true->PairOk l a b p i j
structure MPP(l:List Ty)(a b:List Nd)(p0 p:Nat->Nat->Bool)(ch:Bool)(i j k:Nat):Prop where
 pb:PB l a b p
 sup:∀ x y,p0 x y=true->p x y=true
 same:ch=false->∀ x y,p x y=true->p0 x y=true
 more:ch=true->B7 a.length b.length p<B7 a.length b.length p0
 done:∀ x y,p0 x y=true->x<i\/x=i/\y<j->PairOk l a b p x y
 me:0<k->i<a.length/\j<b.length/\p i j=true/\sub l (nd b j).ty.toNat (nd a i).ty.toNat=true/\PairLn a b p i j k
theorem MPS.start(ha:0<a.length)(hb:0<b.length):MPS l a b (F5 (fun _ _=>false) 0 0) true:=
 ⟨⟨O7 _ _ _,(fun i j h=>by
  rcases Jq h with ⟨rfl,rfl⟩|h
  ·exact⟨ha,hb⟩
  ·cases h),(fun i j h φ hφ=>by
  rcases Jq h with ⟨rfl,rfl⟩|h
  ·exact hφ.zero
  ·cases h)⟩,fun h=>nomatch h⟩
theorem MPP.start(h:MPS l a b p ch):MPP l a b p p false 0 0 0:=
 ⟨h.pb,fun _ _ h=>h,fun _ _ _ h=>h,(fun h=>nomatch h),(fun x y _ hx=>by omega),fun hk=>absurd hk (aH _)⟩
theorem MPP.row(h:MPP l a b p0 p ch i b.length 0):MPP l a b p0 p ch (i+1) 0 0:=
 ⟨h.pb,h.sup,h.same,h.more,fun x y hp hx=>h.done x y hp (by
  have:=(h.pb.rng x y (h.sup x y hp)).2
  omega),fun hk=>absurd hk (aH _)⟩
theorem MPP.skip(h:MPP l a b p0 p ch i j 0)(hp:p i j=false):MPP l a b p0 p ch i (j+1) 0:=
 ⟨h.pb,h.sup,h.same,h.more,fun x y h0 hx=>by
  by_cases e:x=i/\y=j
  ·obtain⟨rfl,rfl⟩:=e
   rw[h.sup _ _ h0]at hp;cases hp
  ·exact h.done x y h0 oG,fun hk=>absurd hk (aH _)⟩
theorem PairLn.snoc{a b:List Nd}{p:Nat->Nat->Bool}{i j k:Nat}(h:PairLn a b p i j k)(hi:i<a.length)(hk:k<(a[i]).ln.length)(hx:∃ t:Nat,tgt (nd b j).ln ((a[i]).ln[k]).1=(t:Int)/\p ((a[i]).ln[k]).2.toNat t=true):PairLn a b p i j (k+1):=fun x hxm=>by
 rw[take_nd hi hk]at hxm
 rcases aE.1 hxm with h1|h1
 ·exact h x h1
 ·grind
theorem PairLn.mono{q:Nat->Nat->Bool}(h:PairLn a b p i j k)(hpq:∀ x y,p x y=true->q x y=true):PairLn a b q i j k:=fun x hx=>by
 obtain⟨t,h1,h2⟩:=h x hx
 grind
structure MPK(l:List Ty)(a b:List Nd)(p0 p:Nat->Nat->Bool)(ch:Bool)(i j k:Nat):Prop where
 pp:MPP l a b p0 p ch i j 0
 at_:p i j=true
 ty:sub l (nd b j).ty.toNat (nd a i).ty.toNat=true
 ln:PairLn a b p i j k
theorem MPK.start(h:MPP l a b p0 p ch i j 0)(hp:p i j=true)(ht:sub l (nd b j).ty.toNat (nd a i).ty.toNat=true):MPK l a b p0 p ch i j 0:=⟨h,hp,ht,fun x hx=>by simp at hx⟩
theorem MPK.old{s:Nat}(h:MPK l a b p0 p ch i j k)(hi:i<a.length)(hk:k<(a[i]).ln.length)(hs:((a[i]).ln[k]).2=(s:Int))(ht:tgt (nd b j).ln ((a[i]).ln[k]).1=(t:Int))(hp:p s t=true):MPK l a b p0 p ch i j (k+1):=
 ⟨h.pp,h.at_,h.ty,h.ln.snoc hi hk ⟨t,ht,by rw[hs,Int.toNat_natCast];exact hp⟩⟩
theorem MPK.new{s:Nat}(h:MPK l a b p0 p ch i j k)(hi:i<a.length)(hk:k<(a[i]).ln.length)(hs:((a[i]).ln[k]).2=(s:Int))(hsl:s<a.length)(ht:tgt (nd b j).ln ((a[i]).ln[k]).1=(t:Int))(htl:t<b.length)(hp:p s t=false):MPK l a b p0 (F5 p s t) true i j (k+1):=by
 have hxm:(a[i]).ln[k]∈(nd a i).ln:=by rw[vx hi];exact am hk
 have hm:∀ x y,p x y=true->F5 p s t x y=true:=fun x y h=>setP_mono h
 refine⟨⟨⟨hm _ _ h.pp.pb.zero,fun x y hx=>?_,fun x y hx φ hφ=>?_⟩,fun x y hx=>hm _ _ (h.pp.sup x y hx),(fun h=>nomatch h),fun _=>?_,fun x y h0 hx=>?_,fun hk=>absurd hk (aH _)⟩,hm _ _ h.at_,h.ty,(h.ln.mono hm).snoc hi hk ⟨t,ht,by rw[hs,Int.toNat_natCast];exact O7 _ _ _⟩⟩
 ·rcases Jq hx with ⟨rfl,rfl⟩|hx
  ·omega
  ·exact h.pp.pb.rng _ _ hx
 ·rcases Jq hx with ⟨rfl,rfl⟩|hx
  ·have e:=h.pp.pb.only i j h.at_ φ hφ
   have h1:=hφ.ln i hi _ hxm
   grind
  ·exact h.pp.pb.only x y hx φ hφ
 ·have h1:=lackP_lt (na:=a.length) (nb:=b.length) hm hsl htl hp (O7 p s t)
  cases ch with
  | true=>exact aF h1 (h.pp.more rfl)
  | false=>
   have e:B7 a.length b.length p0=B7 a.length b.length p:=by
    unfold B7;refine List.countP_congr (fun z _=>?_);cases hz:p0 (z/b.length) (z%b.length)with
    | true=>rw[h.pp.sup _ _ hz]
    | false=>
     cases hz2:p (z/b.length) (z%b.length)with
     | false=>rfl
     | true=>rw[h.pp.same rfl _ _ hz2]at hz;cases hz
   rw[e];exact h1
 ·obtain⟨h1,h2⟩:=h.pp.done x y h0 hx
  exact⟨h1,h2.mono hm⟩
theorem MPK.done{l:List Ty}{a b:List Nd}{p0 p:Nat->Nat->Bool}{ch:Bool}{i j k:Nat}(h:MPK l a b p0 p ch i j k)(hi:i<a.length)(hk:k=(a[i]).ln.length):MPP l a b p0 p ch i (j+1) 0:=
 ⟨h.pp.pb,h.pp.sup,h.pp.same,h.pp.more,fun x y h0 hx=>by
  by_cases e:x=i/\y=j
  ·obtain⟨rfl,rfl⟩:=e
   have h1:=h.ln
   rw[hk,<- vx hi]at h1
   exact⟨h.ty,h1⟩
  ·exact h.pp.done x y h0 oG,fun hk=>absurd hk (aH _)⟩
theorem MPP.end_(h:MPP l a b p0 p ch a.length 0 0):MPS l a b p ch:=
 ⟨h.pb,fun hc i j hp=>h.done i j (h.same hc i j hp) (.inl (h.pb.rng i j hp).1)⟩
theorem MPS.two(h:MPS l a b p ch)(h1:p i j=true)(h2:p i k=true)(hne:j≠k):¬Maps l a b:=by
 rintro⟨φ,hφ⟩
 exact hne ((h.pb.only i j h1 φ hφ).symm.trans (h.pb.only i k h2 φ hφ))
section
section order
variable {l:List Ty} {fs:List Ft} {a b c:List Nd}
def Srt(xs:List (Int×Int)):Prop:=xs.Pairwise (fun x y=>x.1<y.1)
theorem srt_of{nf n:Nat}{a1:Int}(h:yY nf n a1 xs=0):Srt xs:=by
 have hs:=(M6 h).2;refine List.pairwise_iff_getElem.2 (fun i j hi hj hij=>hs i j hi hj hij)
theorem C4(hs:Srt xs){x:Int×Int}(hx:x∈xs):tgt xs x.1=x.2:=by
 induction xs with
 | nil=>cases hx
 | cons y ys ih=>
  obtain⟨h1,h2⟩:=aO.1 hs;rcases ax.1 hx with e|e
  ·subst e;simp[tgt]
  ·have hne:¬y.1=x.1:=by have:=h1 x e;omega
   have:=ih h2 e;simp only[tgt,List.find?_cons,hne,decide_false]at this ⊢;exact this
theorem M4(h:0<=tgt xs f):(f,tgt xs f)∈xs:=by
 induction xs with
 | nil=>simp[tgt]at h
 | cons y ys ih=>
  by_cases e:y.1=f
  ·have:tgt (y::ys) f=y.2:=by simp[tgt,e]
   rw[this];have:(f,y.2)=y:=by rw[<- e]
   rw[this];exact aB ..
  ·have:tgt (y::ys) f=tgt ys f:=by simp[tgt,e]
   rw[this]at h ⊢;exact ar _ (ih h)
theorem srt_ext:∀ {xs ys:List (Int×Int)},Srt xs->Srt ys->(∀ z,z∈xs↔z∈ys)->xs=ys
 | [],[],_,_,_=>rfl
 | [],y::ys,_,_,h=>by have:=(h y).2 (aB ..);cases this
 | x::xs,[],_,_,h=>by have:=(h x).1 (aB ..);cases this
 | x::xs,y::ys,hx,hy,h=>by
  obtain⟨h1,h2⟩:=aO.1 hx
  obtain⟨h3,h4⟩:=aO.1 hy
  have e:x=y:=by
   rcases ax.1 ((h x).1 (aB ..))with e|e
   ·exact e
   ·rcases ax.1 ((h y).2 (aB ..))with e2|e2
    ·exact e2.symm
    ·have:=h1 y e2;have:=h3 x e;omega
  subst e;refine congrArg _ (srt_ext h2 h4 (fun z=>⟨fun hz=>?_,fun hz=>?_⟩))
  ·rcases ax.1 ((h z).1 (ar _ hz))with e|e
   ·have:=h1 z hz;rw[e]at this;omega
   ·exact e
  ·rcases ax.1 ((h z).2 (ar _ hz))with e|e
   ·have:=h3 z hz;rw[e]at this;omega
   ·exact e
theorem CW:∀ {xs ys:List Nat},xs.Nodup->(∀ x∈xs,x∈ys)->xs.length<=ys.length
 | [],_,_,_=>ag _
 | x::xs,ys,hn,h=>by
  obtain⟨h1,h2⟩:=List.nodup_cons.1 hn
  have hx:=h x (aB ..)
  have hl:=List.length_erase_of_mem hx
  have hp:=List.length_pos_of_mem hx
  have:=CW (xs:=xs) (ys:=ys.erase x) h2 (fun y hy=>(List.mem_erase_of_ne (fun e:y=x=>h1 (by rw[<- e];exact hy))).2 (h y (ar _ hy)))
  rw[List.length_cons];omega
structure GY(l:List Ty)(a:List Nd):Prop where
 vt:VT l
 pos:0<a.length
 tr:∀ i,i<a.length->0<=(nd a i).ty/\(nd a i).ty<l.length
 srt:∀ i,i<a.length->Srt (nd a i).ln
 lr:∀ i,i<a.length->∀ x∈(nd a i).ln,0<=x.2/\x.2.toNat<a.length
structure GX(l:List Ty)(a:List Nd):Prop extends GY l a where
 rch:∀ i,i<a.length->Rch a i
theorem GV.gx(h:GV l fs a):GX l a:=
 ⟨⟨h.s.vt,h.gok.pos,fun i hi=>by rw[vx hi];exact h.gok.ty i hi,fun i hi=>by rw[vx hi];exact srt_of (Ix h.lo i hi),fun i hi x hx=>by
  rw[vx hi]at hx
  have:=h.gok.ln i hi x hx
  omega⟩,h.rch⟩
theorem B6{nf n:Nat}:∀ {xs:List (Int×Int)} {a1:Int},Srt xs->(∀ x∈xs,a1<x.1/\0<=x.1/\x.1<nf/\0<=x.2/\x.2<n)->yY nf n a1 xs=0
 | [],_,_,_=>rfl
 | x::xs,a1,hs,h=>by
  obtain⟨h1,h2⟩:=aO.1 hs
  have h3:=h x (aB ..)
  have h4:¬oz nf n x:=by unfold oz;omega
  unfold yY
  rw[if_neg h4,if_neg (show ¬x.1<=a1 by omega)]
  exact B6 h2 (fun y hy=>by
   have:=h y (ar _ hy)
   have:=h1 y hy
   omega)
theorem gf_mk(h:(qK l fs).1=0)(hx:GX l a)(hle:a.length<=60)(hf:∀ i,i<a.length->∀ x∈(nd a i).ln,0<=x.1/\x.1<fs.length)
  (ht:∀ i,i<a.length->∀ x∈(nd a i).ln,sub l (nd a i).ty.toNat (OK fs x.1).of.toNat=true/\sub l (nd a x.2.toNat).ty.toNat (OK fs x.1).val.toNat=true):Q8 l fs a=(0,0):=by
 have hl:j9 l.length fs.length a=(0,0):=by
  unfold j9;have:=hx.pos;rw[if_neg oG];refine Zw (fun k _ hk=>?_);have a1:k<a.length:=by omega
  have hty:=hx.tr k a1;rw[vx a1]at hty;rw[XQ a1 oG,List.drop_zero];refine B6 (by rw[<- vx a1];exact hx.srt k a1) (fun x a2=>?_);rw[<- vx a1]at a2;have h1:=hx.lr k a1 x a2;have h2:=hf k a1 x a2;omega
 have ht2:tyF l fs a=(0,0):=by
  refine Zw (fun k _ hk=>?_);have a1:k<a.length:=by omega
  refine Rx a1 (fun j hj=>?_);have hm:(a[k]).ln[j]∈(nd a k).ln:=by rw[vx a1];exact am hj
  obtain⟨h1,h2⟩:=ht k a1 _ hm;rw[vx a1]at h1;unfold Ez;rw[h1,show (Ow a (a[k]).ln[j].2).ty.toNat=(nd a ((a[k]).ln[j]).2.toNat).ty.toNat from rfl,h2];rfl
 have hu:(-1:Int)=Kq a:=O1 (.inl ⟨rfl,hx.rch⟩);rw[gf_in h,IQ (by rw[hl]) ht2 oG]
theorem GV.lt(h:GV l fs a)(hi:i<a.length){x:Int×Int}(hx:x∈(nd a i).ln):0<=x.1/\x.1<fs.length/\sub l (nd a i).ty.toNat (OK fs x.1).of.toNat=true/\sub l (nd a x.2.toNat).ty.toNat (OK fs x.1).val.toNat=true:=by
 rw[vx hi]at hx;have h1:=h.gok.ln i hi x hx;have h0:tyN l fs a i=0:=uX (by rw[show qQ (tyN l fs a) 0 a.length=tyF l fs a from rfl,h.t]) _ (ag _) oG;have h2:Ez l fs a (a[i]).ty x=false:=by
  simp only[tyN,List.getElem?_eq_getElem hi]at h0;cases hb:Ez l fs a (a[i]).ty x with
  | false=>rfl
  | true=>rw[if_pos (List.any_eq_true.2 ⟨x,hx,hb⟩)]at h0;cases h0
 unfold Ez at h2;rw[show (Ow a x.2).ty.toNat=(nd a x.2.toNat).ty.toNat from rfl,Bool.or_eq_false_iff]at h2;rw[vx hi];simp only[Bool.not_eq_false']at h2;exact⟨h1.1,h1.2.1,h2.1,h2.2⟩
theorem GY.rng(h:GY l a):∀ i,i<a.length->∀ t∈vy a i,t<a.length:=fun i hi t ht=>by
 simp only[vy,List.mem_map]at ht
 obtain⟨x,hx,rfl⟩:=ht
 exact(h.lr i hi x hx).2
theorem GY.trr(h:GY l a)(a1:r<a.length)(hd:DL a [r] [] o):TrR a r o:=by
 have hr:=h.rng;obtain⟨hok,_,_⟩:=hd.ok hr (fun i hi=>by rw[List.mem_singleton.1 hi];exact a1) (OOk.nil _);have h0:=hd.has r (by simp);refine⟨hd,hok,hd.nodup List.nodup_nil,h0,?_,fun x hx=>hd.clo x hx (by simp)⟩;cases hd with
 | old h' t=>cases h'
 | new h' s t=>
  cases t;obtain⟨_,s1,e1⟩:=s.ok hr (hr r a1) ((OOk.nil _).snoc a1 (by simp));rw[e1];simp
theorem Hom.refl(h:GX l a):Hom l a a (fun i=>i):=
 ⟨rfl,fun _ hi=>hi,fun _ _=>Y0 h.vt _,fun i hi x hx=>by
  have:=h.lr i hi x hx
  rw[C4 (h.srt i hi) hx];omega⟩
theorem Hom.comp(hl:VT l)(hφ:Hom l a b φ)(hψ:Hom l b c ψ):Hom l a c (fun i=>ψ (φ i)):=
 ⟨by show ψ (φ 0)=0;rw[hφ.zero,hψ.zero],fun i hi=>hψ.lt _ (hφ.lt i hi),fun i hi=>XY hl (hψ.ty _ (hφ.lt i hi)) (hφ.ty i hi),fun i hi x hx=>by
  have h1:=hφ.ln i hi x hx
  have hm:=M4 (xs:=(nd b (φ i)).ln) (f:=x.1) oG
  rw[h1]at hm
  have:=hψ.ln _ (hφ.lt i hi) _ hm
  rw[Int.toNat_natCast]at this
  exact this⟩
theorem Maps.comp(hl:VT l)(h:Maps l a b)(k:Maps l b c):Maps l a c:=by
 obtain⟨φ,hφ⟩:=h;obtain⟨ψ,hψ⟩:=k;exact⟨_,hφ.comp hl hψ⟩
theorem turn_hom(ha:GX l a)(hb:GX l b)(hφ:Hom l a b φ)(hψ:Hom l b a ψ):Turn a b φ ψ:=by
 have a3:=ha.vt;have h1:∀ i,i<a.length->ψ (φ i)=i:=fun i hi=>(hφ.comp a3 hψ).uniq (Hom.refl ha) (ha.rch i hi)
 have h2:∀ i,i<b.length->φ (ψ i)=i:=fun i hi=>(hψ.comp a3 hφ).uniq (Hom.refl hb) (hb.rch i hi)
 have a1:b.length=a.length:=by
  have n1:((List.range a.length).map φ).Nodup:=by
   refine List.nodup_iff_pairwise_ne.2 (List.pairwise_map.2 ?_);refine List.Pairwise.imp_of_mem (fun {x y} hx hy a4 e=>a4 ?_) List.nodup_range;rw[<- h1 x (List.mem_range.1 hx),<- h1 y (List.mem_range.1 hy),e]
  have n2:((List.range b.length).map ψ).Nodup:=by
   refine List.nodup_iff_pairwise_ne.2 (List.pairwise_map.2 ?_);refine List.Pairwise.imp_of_mem (fun {x y} hx hy a4 e=>a4 ?_) List.nodup_range;rw[<- h2 x (List.mem_range.1 hx),<- h2 y (List.mem_range.1 hy),e]
  have l1:=(CW n1 (ys:=List.range b.length) (fun z hz=>by
   obtain⟨x,hx,rfl⟩:=av.1 hz
   exact aw.2 (hφ.lt x (aw.1 hx))))
  have l2:=(CW n2 (ys:=List.range a.length) (fun z hz=>by
   obtain⟨x,hx,rfl⟩:=av.1 hz
   exact aw.2 (hψ.lt x (aw.1 hx))))
  simp at l1 l2;omega
 refine⟨a1,hφ.zero,fun i hi=>by rw[<- a1];exact hφ.lt i hi,fun j hj=>?_,h1,fun i hi=>?_⟩
 ·rw[<- a1]at hj
  exact⟨hψ.lt j hj,h2 j hj⟩
 ·have a2:=hφ.lt i hi
  have t1:=hφ.ty i hi;have t2:=hψ.ty _ a2;rw[h1 i hi]at t2;have r1:=ha.tr i hi;have r2:=hb.tr _ a2;have e:=HK a3 t1 t2;refine V8 (by show (nd b (φ i)).ty=(nd a i).ty;omega) ?_;show (nd b (φ i)).ln=(nd a i).ln.map (fun y=>(y.1,((φ y.2.toNat:Nat):Int)));refine srt_ext (hb.srt _ a2) ?_ (fun z=>⟨fun hz=>?_,fun hz=>?_⟩)
  ·exact List.pairwise_map.2 (ha.srt _ hi)
  ·have g1:=hψ.ln _ a2 z hz
   rw[h1 i hi]at g1;have g2:=hb.lr _ a2 z hz;have hm:=M4 (xs:=(nd a i).ln) (f:=z.1) oG;rw[g1]at hm;refine av.2 ⟨_,hm,?_⟩;have e2:=h2 _ g2.2;show (z.1,((φ ((ψ z.2.toNat:Nat):Int).toNat:Nat):Int))=z;rw[Int.toNat_natCast,e2,Int.toNat_of_nonneg g2.1]
  ·obtain⟨y,hy,rfl⟩:=av.1 hz
   have g1:=hφ.ln i hi y hy;have hm:=M4 (xs:=(nd b (φ i)).ln) (f:=y.1) oG;rw[g1]at hm;exact hm
theorem can_eq(ha:GX l a)(hb:GX l b)(h:Maps l a b)(k:Maps l b a){oa ob:List Nat}(ta:DL a [0] [] oa)(tb:DL b [0] [] ob):yK b ob=yK a oa:=by
 obtain⟨φ,hφ⟩:=h;obtain⟨ψ,hψ⟩:=k;have t:=turn_hom ha hb hφ hψ;have ho:=(ha.trr ha.pos ta).ok.lt;have hd2:=t.dl ha.rng ta (fun i hi=>by rw[List.mem_singleton.1 hi];exact ha.pos) ho;simp only[List.map_cons,List.map_nil,t.z]at hd2;rw[<- hd2.det tb];exact t.can ha.rng ho
theorem JZ(t:TrR a r o)(hx:x∈o):nd (yK a o) (o.idxOf x)=trN (o.idxOf ·) (nd a x):=by
 rw[EJ hx];refine V8 rfl ?_;simp only[SZ,trN];refine aP (fun y hy=>?_);simp only[Yx,D8 (t.mem hx hy)]
theorem dl_ex{g:List Nd}(hr:∀ i,i<g.length->∀ t∈vy g i,t<g.length):∀(n:Nat) (is o:List Nat),uk g.length (Xx o)<=n->(∀ i∈is,i<g.length)->∃ o',DL g is o o'
 | n,[],o,_,_=>⟨o,.nil⟩
 | n,i::is,o,hn,hi=>by
  have hil:=hi i (aB ..)
  have his:∀ j∈is,j<g.length:=fun j hj=>hi j (ar _ hj)
  by_cases h:i∈o
  ·obtain⟨o',h1⟩:=dl_ex hr n is o hn his
   exact⟨o',.old h h1⟩
  ·have hl:=M7 hil h
   cases n with
   | zero=>omega
   | succ n=>
    obtain⟨o1,h1⟩:=dl_ex hr n (vy g i) (o++[i]) oG (hr i hil)
    have hm:uk g.length (Xx o1)<=uk g.length (Xx (o++[i])):=by
     unfold uk;refine List.countP_mono_left (fun x _ hx=>?_);simp only[Xx,Bool.not_eq_true',decide_eq_false_iff_not]at hx ⊢;exact fun k=>hx (h1.sub x k)
    obtain⟨o',h2⟩:=dl_ex hr n is o1 oG his;exact⟨o',.new h h1 h2⟩
theorem GY.dl(h:GY l a)(hr:r<a.length):∃ o,DL a [r] [] o:=dl_ex h.rng _ [r] [] (ah _) (fun i hi=>by rw[List.mem_singleton.1 hi];exact hr)
theorem TrR.at_(t:TrR a r o)(hj:j<(yK a o).length):∃ x,x∈o/\o.idxOf x=j/\o.getD j 0=x/\nd (yK a o) j=trN (o.idxOf ·) (nd a x):=by
 rw[uY]at hj;have hjo:=am hj;have h1:=JZ t hjo;rw[Dv t.nodup hj]at h1;exact⟨o[j],hjo,Dv t.nodup hj,by simp[List.getD,hj],h1⟩
theorem TrR.gx(t:TrR a r o)(ha:GY l a):GX l (yK a o):=by
 have a1:=uY a o;have hrg:∀ i,i<(yK a o).length->∀ x∈(nd (yK a o) i).ln,0<=x.2/\x.2.toNat<(yK a o).length:=fun j hj x hx=>by
  obtain⟨y,hy,_,_,e⟩:=t.at_ hj;rw[e]at hx;obtain⟨z,hz,rfl⟩:=av.1 hx;have:=(oq (t.mem hy hz)).1;simp only[a1];omega
 refine⟨⟨ha.vt,by rw[a1];exact List.length_pos_of_mem t.has,fun j hj=>?_,fun j hj=>?_,hrg⟩,fun j hj=>?_⟩
 ·obtain⟨y,hy,_,_,e⟩:=t.at_ hj
  rw[e];exact ha.tr _ (t.lt hy)
 ·obtain⟨y,hy,_,_,e⟩:=t.at_ hj
  rw[e];exact List.pairwise_map.2 (ha.srt _ (t.lt hy))
 ·have hd:=t.dl2 t.has t.dl
  rw[t.zero,FJ t.nodup]at hd
  have hR:=hd.rch (fun i hi y hy=>by
   simp only[vy,List.mem_map]at hy;obtain⟨x,hx,rfl⟩:=hy
   exact(hrg i hi x hx).2) (fun i hi=>by rw[List.mem_singleton.1 hi,a1];exact List.length_pos_of_mem t.has) (fun i hi=>by rw[List.mem_singleton.1 hi];exact .zero) (fun x hx=>by cases hx)
  exact hR j (aw.2 (by rw[<- a1];exact hj))
theorem Hom.part(h:Hom l a b φ)(hb:GX l b){oa ob:List Nat}(ta:TrR a i oa)(tb:TrR b (φ i) ob):Maps l (yK a oa) (yK b ob):=by
 have a1:∀ x,x∈oa->φ x∈ob:=by
  have hR:∀ x,x∈oa->x∈oa/\φ x∈ob:=by
   have hw:=DL.within (o:=oa.filter (fun x=>decide (φ x∈ob))) (g:=a) (fun x hx t ht=>by
    simp only[List.mem_filter,decide_eq_true_eq]at hx ⊢;refine⟨ta.clo x hx.1 t ht,?_⟩;simp only[vy,List.mem_map]at ht;obtain⟨y,hy,rfl⟩:=ht;have h2:=h.ln x (ta.lt hx.1) y hy;have hm:=M4 (xs:=(nd b (φ x)).ln) (f:=y.1) oG;rw[h2]at hm;have:=tb.mem hx.2 hm
    rwa[Int.toNat_natCast]at this) ta.dl (fun z hz=>by
     rw[List.mem_singleton.1 hz];simp only[List.mem_filter,decide_eq_true_eq]
     exact⟨ta.has,tb.has⟩) (fun x hx=>by cases hx)
   intro x hx;have:=hw x hx;simp only[List.mem_filter,decide_eq_true_eq]at this;exact this
  exact fun x hx=>(hR x hx).2
 have hgb:=tb.gx hb.toGY;have la:=uY a oa;have lb:=uY b ob;have hz:oa.getD 0 0=i:=by
  have h0:=oq ta.has;have hp:0<oa.length:=by have:=h0.1;omega
  have:=h0.2;simp only[ta.zero]at this;simp[List.getD,hp,this]
 have a2:∀ j,j<(yK a oa).length->oa.getD j 0∈oa/\nd (yK a oa) j=trN (oa.idxOf ·) (nd a (oa.getD j 0)):=fun j hj=>by
  rw[la]at hj;have e:oa.getD j 0=oa[j]:=by simp[List.getD,hj]
  have hjo:=am hj;have h1:=JZ ta hjo;rw[Dv ta.nodup hj]at h1;rw[e];exact⟨hjo,h1⟩
 refine⟨fun j=>ob.idxOf (φ (oa.getD j 0)),?_,fun j hj=>?_,fun j hj=>?_,fun j hj x hx=>?_⟩
 ·show ob.idxOf (φ (oa.getD 0 0))=0
  rw[hz];exact tb.zero
 ·rw[lb];exact(oq (a1 _ (a2 j hj).1)).1
 ·obtain⟨h1,h2⟩:=a2 j hj
  show sub l (nd (yK b ob) (ob.idxOf (φ (oa.getD j 0)))).ty.toNat _=true;rw[h2,JZ tb (a1 _ h1)];exact h.ty _ (ta.lt h1)
 ·obtain⟨h1,h2⟩:=a2 j hj
  rw[h2]at hx;obtain⟨y,hy,rfl⟩:=av.1 hx;have hb1:=oq (a1 _ h1);have hs:=hgb.srt (ob.idxOf (φ (oa.getD j 0))) (by rw[lb];exact hb1.1);have h3:=h.ln _ (ta.lt h1) y hy;have hm:=M4 (xs:=(nd b (φ (oa.getD j 0))).ln) (f:=y.1) oG;rw[h3]at hm;show tgt (nd (yK b ob) (ob.idxOf (φ (oa.getD j 0)))).ln y.1=((ob.idxOf (φ (oa.getD ((oa.idxOf y.2.toNat:Nat):Int).toNat 0)):Nat):Int);have hyo:=oq (ta.mem h1 hy);have e2:oa.getD (oa.idxOf y.2.toNat) 0=y.2.toNat:=by
   have:=hyo.2;simp[List.getD,hyo.1,this]
  rw[Int.toNat_natCast,e2];rw[JZ tb (a1 _ h1)]at hs ⊢;have hm2:((y.1,((ob.idxOf (φ y.2.toNat):Nat):Int)):Int×Int)∈(trN (ob.idxOf ·) (nd b (φ (oa.getD j 0)))).ln:=av.2 ⟨_,hm,by rw[Int.toNat_natCast]⟩;exact C4 hs hm2
end order
end
end Go.Proofs.YtgcgnkmmbecfmaaGreatDoor
