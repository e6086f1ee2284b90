/- What these functions compute, at every world: graph.Target, ref3.Target; and plain laws. -/
import Derived.Test.YtndbjnkilegebaaGreatDoorU
import Derived.Test.YtndbjnkilegebaaGreatDoorZst
import Derived.Test.YtndbjnkilegebaaGreatDoorGSearch
import Derived.Test.YtndbjnkilegebaaGreatDoorGCan
namespace Go.Proofs.YtndbjnkilegebaaGreatDoor
open Go.RowKit Go.Proofs.Tryz
variable {a b g:List Nd}{ch:Bool}{fs:List Ft}{i j k r t x y:Nat}{l:List Ty}{o o2:List Nat}{out:Nat->Int}{p p0:Nat->Nat->Bool}{st:List Int}{xs:List (Int×Int)}{φ ψ:Nat->Nat}
theorem OY:(prog.info? 26).map (·.size)=some 1:=by kernel_rfl
theorem gZ:(prog.info? 85).map (·.size)=some 1:=by kernel_rfl
theorem Qw:(prog.info? 87).map (·.size)=some 2:=by kernel_rfl
theorem Qv:(prog.info? 84).map (·.zero)=some (some (.agg #[.int .i64 0,.int .i64 0])):=by kernel_rfl
theorem MY(G:Option Addr)(cg nf:Nat)(gr:List Nd)(i:Nat)(f:Int)(w:World)(hG:NodesIn w G gr)(hi:i<gr.length)(hl:yJ nf gr.length (-1) (gr[i]'hi).ln=0)(hw:(gr[i]'hi).ln.length<=1000):Calls prog 82 #[.agg #[.slice G gr.length cg],.int .i64 i,.int .i64 f] w fun e w'=>e= .returned (.int .i64 (tgt (gr[i]'hi).ln f))/\Bel w w':=by
 obtain⟨nb,no,LA,lc,rfl,hnb,hnr,hln⟩:=hG.at_ (Below.refl _ _:Bel w w) hi;have hso:=(Mj hl).2;refine enT func82 ntmps82 rfl rfl fun hB=>?_;refine zn2 ?_;refine qv (cs:=#[_]) rfl (fun b3 w1 hb3 s1 hr=>?_);refine zn8 ?_;refine wl (x7 (i:=i) U26 Qw rfl rfl hi rfl) (zn1 ?_);refine wl (qj (v:= .slice _ _ _) U85 rfl rfl (hB.u.cell hnb (hnr 1 _ rfl))) (wmI rfl ?_);replace hB:=hB.tr0 s1
 refine zW kR (bsf_any LA lc (gr[i]'hi).ln f _ (hln.mono hB) hw (fun x y hx hy hxy=>by
   by_cases e:x=y
   ·subst e;exact aP _
   ·exact Int.le_of_lt (hso x y hx hy oG))) rfl (fun e' w2 hr=>?_)
 obtain⟨⟨ix,b,hix,rfl,hlo,hhi,hbt⟩,s2⟩:=hr;replace s2:=sB s2;obtain⟨hy,hn⟩:=tgt_bs hl hlo hhi;refine⟨_,rfl,?_⟩;refine wmT rfl (wl (yW (v:= .int _ _) rfl rfl) (wl (yW (v:= .bool _) rfl rfl) (vJ ?_)));refine jv rfl (fun a3=>?_) (fun a3=>?_)
 ·have hbf:¬b=true:=by simpa using a3
  have hno:=hn (fun h=>hbf (hbt.2 h));refine zn8 ?_;exact⟨Zq hno,hB.u⟩
 have a2:b=true:=by simpa using a3
 obtain⟨hxl,hxe⟩:=hbt.1 a2;have a1:=hy hxl hxe;replace hB:=hB.tr0 s2;obtain⟨lb,lof,rfl,hlb,hlr⟩:=hln.at_ hB hxl;refine zn7 ?_;refine wl (x7 (i:=i) U26 Qw rfl rfl hi rfl) (zn1 ?_);refine wl (qj (v:= .slice _ _ _) U85 rfl rfl (hB.cell hnb (hnr 1 _ rfl))) (zn3 ?_);refine wl (qj (v:= .int _ _) U3 rfl rfl (hlr 1 _ rfl)) (zn5 ?_);exact⟨Zq a1,hB⟩
theorem V0(G:Option Addr)(cg:Nat)(gr:List Nd)(i:Nat)(f:Int)(w:World)(hG:NodesIn w G gr)(hi:i<gr.length):Calls prog 36 #[.agg #[.slice G gr.length cg],.int .i64 i,.int .i64 f] w fun e w'=>e= .returned (.int .i64 (tgt (gr[i]'hi).ln f))/\Bel w w':=by
 obtain⟨nb,no,LA,lc,rfl,hnb,hnr,hln⟩:=hG.at_ (Below.refl _ _:Bel w w) hi;have hmx:=hln.1;unfold vX at hmx;refine enT func36 ntmps36 rfl rfl fun hB=>?_;refine zn2 ?_;refine qv (cs:=#[_]) rfl (fun b3 w1 hb3 s1 hr=>?_);refine zn9 ?_;refine wl (x7 (i:=i) U26 Qw rfl rfl hi rfl) (zn1 ?_);refine wl (qj (v:= .slice _ _ _) U85 rfl rfl (hB.u.cell hnb (hnr 1 _ rfl))) (zn5 ?_);refine qz (rg [6,8] 16 11) (fun m g w'=>∃ k:Nat,k<=(gr[i]'hi).ln.length/\m=(gr[i]'hi).ln.length-k/\g 16= .int .i64 k/\Bel w w'/\(∀ j (hj:j<(gr[i]'hi).ln.length),j<k->¬((gr[i]'hi).ln[j]).1=f)) ((gr[i]'hi).ln.length) ?_ (fun m g2 w2 hI=>?_)
 ·exact⟨0,ah _,rfl,rfl,hB.u,fun j _ h=>by omega⟩
 obtain⟨k,hk,hm,h16,hB,a1⟩:=hI;refine zQ 16 _ h16 nu (zn6 ?_);refine zZ rfl (fun c17=>?_) (fun c17=>?_)
 ·have hkl:k<(gr[i]'hi).ln.length:=by omega
  obtain⟨lb,lof,rfl,hlb,hlr⟩:=hln.at_ hB hkl;refine zn7 ?_;refine wl (qw U84 rfl rfl hlr qx) ?_;refine y8 (cs:=#[.int .i64 0,.int .i64 0]) Qv rfl (fun _=>rfl) (fun _=>rfl) qx rfl xW (fun b8 w4 hb8 s2 hr=>?_);refine yj ?_;refine zZ rfl (fun a3=>?_) (fun a3=>?_)
  ·refine QY ?_;exact⟨Zq (tgt_at hkl a3 (fun j hj h=>a1 j hj h)),hB.u⟩
  refine zn7 ?_;refine x9 ((gr[i]'hi).ln.length-(k+1)) oG agA ?_;replace hB:=hB.tr0 s2
  exact⟨k+1,by omega,rfl,rfl,hB,fun j hj h=>by
    by_cases e:j=k
    ·subst e;exact a3
    ·exact a1 j hj oG⟩
 have a2:tgt (gr[i]'hi).ln f= -1:=tgt_no (fun j hj=>a1 j hj oG);refine yZ ?_;exact⟨Zq a2,hB⟩
section
def trN(σ:Nat->Nat)(x:Nd):Nd:=⟨x.ty,x.ln.map (fun y=>(y.1,(σ y.2.toNat:Int)))⟩
theorem D6{nf n m:Nat}{σ:Nat->Nat}:∀ {xs:List (Int×Int)} {a1:Int},yJ nf n a1 xs=0->(∀ x∈xs,σ x.2.toNat<m)->yJ nf m a1 (xs.map (fun y=>(y.1,(σ y.2.toNat:Int))))=0
 | [],_,_,_=>rfl
 | y::ys,a1,h,hm=>by
  unfold yJ at h
  by_cases h1:oZ nf n y
  ·rw[if_pos h1]at h;cases h
  rw[if_neg h1]at h
  by_cases h2:y.1<=a1
  ·rw[if_pos h2]at h;cases h
  rw[if_neg h2]at h
  have h3:=hm y (by simp)
  have h4:¬oZ nf m (y.1,(σ y.2.toNat:Int)):=by
   unfold oZ at h1 ⊢;omega
  rw[List.map_cons];unfold yJ;rw[if_neg h4,if_neg h2];exact D6 h (fun x hx=>hm x (aw _ hx))
theorem gv_img{gt:List Nd}{σ τ:Nat->Nat}(h:GV l fs g)(hp:0<gt.length)(hle:gt.length<=60)
  (hτ:∀ j,j<gt.length->τ j<g.length/\nd gt j=trN σ (nd g (τ j))/\∀ x∈(nd g (τ j)).ln,σ x.2.toNat<gt.length/\(nd gt (σ x.2.toNat)).ty=(nd g x.2.toNat).ty)
  (hR:∀ j,j<gt.length->Rch gt j):(gj l fs gt).1=0:=by
 have hl:j9 l.length fs.length gt=(0,0):=by
  unfold j9;rw[if_neg oG];refine YJ (fun k _ hk=>?_);have a3:k<gt.length:=by omega
  obtain⟨a1,a2,a4⟩:=hτ k a3;rw[yK a3,yK a1]at a2;rw[yK a1]at a4;have hty:=h.gok.ty _ a1;have hln:=Iw h.lo _ a1;have e:¬((gt[k]).ty<0\/(l.length:Int)<=(gt[k]).ty):=by rw[a2];simp only[trN];omega
  rw[XY a3 e,List.drop_zero,a2];exact D6 hln (fun x hx=>(a4 x hx).1)
 have ht:tyF l fs gt=(0,0):=by
  refine YJ (fun k _ hk=>?_);have a3:k<gt.length:=by omega
  obtain⟨a1,a2,a4⟩:=hτ k a3;refine FV a3 (fun j hj=>?_);have h0:tyN l fs g (τ k)=0:=uY (by rw[show yX (tyN l fs g) 0 g.length=tyF l fs g from rfl,h.t]) _ (ah _) oG;rw[yK a3,yK a1]at a2;rw[yK a1]at a4;have hex:∃ y∈(g[τ k]).ln,(gt[k]).ln[j]=(y.1,(σ y.2.toNat:Int)):=by
   have hm:(gt[k]).ln[j]∈(trN σ (g[τ k])).ln:=by rw[<- a2];exact aq hj
   simp only[trN,List.mem_map]at hm;obtain⟨y,hy,e⟩:=hm;exact⟨y,hy,e.symm⟩
  obtain⟨y,hy,ey⟩:=hex;have h1:Py l fs g (g[τ k]).ty y=false:=by
   simp only[tyN,List.getElem?_eq_getElem a1]at h0;cases hb:Py l fs g (g[τ k]).ty y with
   | false=>rfl
   | true=>rw[if_pos (List.any_eq_true.2 ⟨y,hy,hb⟩)]at h0;cases h0
  have e3:=(a4 y hy).2;have e2:(gt[k]).ty=(g[τ k]).ty:=by rw[a2];rfl
  rw[ey,e2];unfold Py at h1 ⊢;have e4:(Pk gt ((σ y.2.toNat:Nat):Int)).ty=(Pk g y.2).ty:=by
   unfold nd at e3;unfold Pk;rw[Int.toNat_natCast];exact e3
  rw[e4];exact h1
 have hu:(-1:Int)=KV gt:=OX (.inl ⟨rfl,hR⟩);rw[gf_in h.h,IY (by rw[hl]) ht oG]
theorem unr_ex(g:List Nd):∃ r,UnrIs g r:=by
 have h:∀ n:Nat,(∀ i,i<n->Rch g i)\/∃ k,k<n/\¬Rch g k/\∀ i,i<k->Rch g i:=by
  intro n
  induction n with
  | zero=>exact .inl (fun i hi=>absurd hi oG)
  | succ n ih=>
   rcases ih with h|⟨k,h1,h2,h3⟩
   ·by_cases hn:Rch g n
    ·refine .inl (fun i hi=>?_)
     by_cases e:i=n
     ·rw[e];exact hn
     ·exact h i oG
    ·exact .inr ⟨n,by omega,hn,h⟩
   ·exact .inr ⟨k,by omega,h2,h3⟩
 rcases h g.length with h|⟨k,h1,h2,h3⟩
 ·exact⟨-1,.inl ⟨rfl,h⟩⟩
 ·exact⟨k,.inr ⟨k,rfl,h1,h2,h3⟩⟩
theorem GV.rch(h:GV l fs g):∀ i,i<g.length->Rch g i:=by
 obtain⟨r,hr⟩:=unr_ex g;have hu:=h.u;rw[<- OX hr]at hu;rcases hr with ⟨_,h3⟩|⟨k,h3,_⟩
 ·exact h3
 ·exact absurd (show 0<=r by omega) hu
structure Turn(g gt:List Nd)(σ ρ:Nat->Nat):Prop where
 len:gt.length=g.length
 z:σ 0=0
 lt:∀ i,i<g.length->σ i<g.length
 rl:∀ j,j<g.length->ρ j<g.length/\σ (ρ j)=j
 lr:∀ i,i<g.length->ρ (σ i)=i
 nd:∀ i,i<g.length->nd gt (σ i)=trN σ (nd g i)
section turn
variable {g gt:List Nd} {σ ρ:Nat->Nat}
theorem Turn.inj(t:Turn g gt σ ρ)(hx:x<g.length)(hy:y<g.length)(h:σ x=σ y):x=y:=by rw[<- t.lr x hx,<- t.lr y hy,h]
theorem Turn.succ(t:Turn g gt σ ρ)(hi:i<g.length):vQ gt (σ i)=(vQ g i).map σ:=by
 unfold vQ;rw[t.nd i hi];simp[trN]
theorem Turn.dl(t:Turn g gt σ ρ)(hr:∀ i,i<g.length->∀ y∈vQ g i,y<g.length){is a b:List Nat}(h:DL g is a b):(∀ i∈is,i<g.length)->(∀ x∈b,x<g.length)->DL gt (is.map σ) (a.map σ) (b.map σ):=by
 induction h with
 | nil=>exact fun _ _=> .nil
 | old h _ ih=>exact fun hi hb=> .old (List.mem_map_of_mem h) (ih (fun i h=>hi i (aw _ h)) hb)
 | new h s u ihs iht=>
  intro hi hb
  rename_i i is o o1 o'
  have a1:=hi i (aE ..);have ho1:∀ x∈o1,x<g.length:=fun x hx=>hb x (u.sub _ hx)
  refine .new (fun hm=>?_) ?_ (iht (fun i h=>hi i (aw _ h)) hb)
  ·obtain⟨y,hy,e⟩:=ax.1 hm
   have hyl:=ho1 y (s.sub _ (List.mem_append_left _ hy));exact h (t.inj hyl a1 e ▸ hy)
  ·have:=ihs (hr i a1) ho1
   rw[List.map_append]at this;rw[t.succ a1];exact this
theorem Turn.rch(t:Turn g gt σ ρ)(hr:∀ i,i<g.length->∀ y∈vQ g i,y<g.length)(hp:0<g.length)(h:Rch g i):i<g.length/\Rch gt (σ i):=by
 induction h with
 | zero=>exact⟨hp,by rw[t.z];exact .zero⟩
 | step h hi hx ih=>
  rename_i i x
  refine⟨hr i hi _ (by simp only[vQ,yK hi,List.mem_map];exact⟨x,hx,rfl⟩),?_⟩;have hlt:σ i<gt.length:=by rw[t.len];exact t.lt i hi
  have e:=t.nd i hi;rw[yK hlt,yK hi]at e;have:=Rch.step (x:=(x.1,((σ x.2.toNat:Nat):Int))) ih.2 hlt (by rw[e];exact ax.2 ⟨x,hx,rfl⟩)
  simpa using this
theorem idx_map{g:List Nd}{σ:Nat->Nat}{x:Nat}(hx:x<g.length)(inj:∀ y,y<g.length->σ y=σ x->y=x):∀ {o:List Nat},(∀ y∈o,y<g.length)->(o.map σ).idxOf (σ x)=o.idxOf x
 | [],_=>rfl
 | y::o,h=>by
  rw[List.map_cons,List.idxOf_cons,List.idxOf_cons,idx_map hx inj (fun z hz=>h z (List.mem_cons_of_mem _ hz))]
  by_cases e:y=x
  ·subst e;simp
  ·have e2:¬σ y=σ x:=fun h2=>e (inj y (h y (aE ..)) h2)
   have b1:(y==x)=false:=by simp[e]
   have b2:(σ y==σ x)=false:=by simp[e2]
   rw[b1,b2]
theorem Turn.num(t:Turn g gt σ ρ)(hx:x<g.length)(ho:∀ y∈o,y<g.length):kJ (o.map σ) (σ x)=kJ o x:=by
 unfold kJ
 have e:σ x∈o.map σ↔x∈o:=⟨fun h=>by
  obtain⟨y,hy,e⟩:=ax.1 h
  exact t.inj (ho y hy) hx e ▸ hy,fun h=>List.mem_map_of_mem h⟩
 by_cases h:x∈o
 ·rw[if_pos (e.2 h),if_pos h,idx_map hx (fun y hy h=>t.inj hy hx h) ho]
 ·rw[if_neg (fun k=>h (e.1 k)),if_neg h]
theorem Turn.can(t:Turn g gt σ ρ)(hr:∀ i,i<g.length->∀ y∈vQ g i,y<g.length)(ho:∀ y∈o,y<g.length):yq gt (o.map σ)=yq g o:=by
 unfold yq;rw[List.map_map];refine aS (fun x hx=>?_);have hxl:=ho x hx;simp only[Function.comp];unfold TY;rw[t.nd x hxl];refine Vv rfl ?_;simp only[trN,List.map_map];refine aS (fun y hy=>?_);have hyl:=hr x hxl y.2.toNat (by simp only[vQ,List.mem_map];exact⟨y,hy,rfl⟩);simp only[Function.comp,YV,Int.toNat_natCast];rw[t.num hyl ho]
end turn
theorem row2_splice{m:Nat}{f h:Nat->Value}{a b:Value}:B7 (kz m f h) (0+i*2) [a,b]=kz m (fun j=>if j=i then a else f j) (fun j=>if j=i then b else h j):=by
 show ((kz m f h).setIfInBounds (0+i*2+0) a).setIfInBounds (0+i*2+1) b=_;rw[J0,M8]
end
section
structure TrR(g:List Nd)(r:Nat)(o:List Nat):Prop where
 dl:DL g [r] [] o
 ok:OOk g.length o
 nodup:o.Nodup
 has:r∈o
 zero:o.idxOf r=0
 clo:∀ x∈o,∀ t∈vQ g x,t∈o
theorem DL.within(hc:∀ x∈o,∀ t∈vQ g x,t∈o){is a b:List Nat}(h:DL g is a b):(∀ i∈is,i∈o)->(∀ x∈a,x∈o)->∀ x∈b,x∈o:=by
 induction h with
 | nil=>exact fun _ h=>h
 | old h t ih=>exact fun hi ha=>ih (fun i h=>hi i (aw _ h)) ha
 | new h s t ihs iht=>
  grind
theorem idx_inj(hx:x∈o)(_hy:y∈o)(e:o.idxOf x=o.idxOf y):x=y:=by
 obtain⟨h1,h2⟩:=oQ hx
 grind
theorem idx_map2{o:List Nat}{x:Nat}(hx:x∈o):∀ {o2:List Nat},(∀ y∈o2,y∈o)->(o2.map (o.idxOf ·)).idxOf (o.idxOf x)=o2.idxOf x
 | [],_=>rfl
 | y::o2,h=>by
  rw[List.map_cons,List.idxOf_cons,List.idxOf_cons,idx_map2 hx (fun z hz=>h z (List.mem_cons_of_mem _ hz))]
  grind[idx_inj,List.mem_cons_self]
theorem num_map2(hx:x∈o)(h:∀ y∈o2,y∈o):kJ (o2.map (o.idxOf ·)) (o.idxOf x)=kJ o2 x:=by
 grind[kJ,idx_inj,List.mem_map_of_mem,idx_map2]
section sub
variable {g:List Nd} {r:Nat} {o:List Nat}
theorem TrR.mem(t:TrR g r o)(hx:x∈o){y:Int×Int}(hy:y∈(nd g x).ln):y.2.toNat∈o:=t.clo x hx _ (by simp only[vQ,List.mem_map];exact⟨y,hy,rfl⟩)
theorem TrR.lt(t:TrR g r o){x:Nat}(hx:x∈o):x<g.length:=t.ok.lt x hx
theorem TrR.can2(t:TrR g r o){c:Nat}(hc:c∈o)(h2:DL g [c] [] o2):yq (yq g o) (o2.map (o.idxOf ·))=yq g o2:=by
 have hw:=h2.within t.clo (fun i hi=>by rw[List.mem_singleton.1 hi];exact hc) (fun x hx=>by cases hx);have hcl:=h2.clo;unfold yq;rw[List.map_map];refine aS (fun x hx=>?_);have hxo:=hw x hx;have e:=Ox (g:=g) hxo;unfold yq at e;show TY _ _ (o.idxOf x)=TY g o2 x;unfold TY at e ⊢;rw[e];refine Vv rfl ?_;simp only[List.map_map];refine aS (fun y hy=>?_);have hyo:=t.mem hxo hy
 grind[YV,C0,Int.toNat_natCast,num_map2]
theorem TrR.dl2(t:TrR g r o){c:Nat}(hc:c∈o)(h2:DL g [c] [] o2):DL (yq g o) [o.idxOf c] [] (o2.map (o.idxOf ·)):=
 h2.map t.clo (h2.within t.clo (fun i hi=>by rw[List.mem_singleton.1 hi];exact hc) (fun x hx=>by cases hx))
theorem TrR.valid(t:TrR g r o)(h:GV l fs g):(gj l fs (yq g o)).1=0:=by
 have a1:=uQ g o;have hole:o.length<=g.length:=by have:=t.ok.cnt;omega
 have hpos:0<o.length:=List.length_pos_of_mem t.has;have hle:=h.gok.le;have a2:∀ j (hj:j<o.length),o.idxOf o[j]=j:=fun j hj=>C8 t.nodup hj
 have hrg:∀ i,i<(yq g o).length->∀ y∈vQ (yq g o) i,y<(yq g o).length:=fun i hi y hy=>by
  rw[a1]at hi ⊢;rw[<- a2 i hi,Fw t.clo (List.getElem_mem hi)]at hy;obtain⟨z,hz,rfl⟩:=ax.1 hy;exact(oQ (t.clo _ (aq hi) z hz)).1
 refine gv_img (σ:=(o.idxOf ·)) (τ:=fun j=>o.getD j 0) h oG oG (fun j hj=>?_) (fun j hj=>?_)
 ·have a3:j<o.length:=by omega
  have eg:o.getD j 0=o[j]:=by simp[List.getD,a3]
  have hm:o[j]∈o:=aq a3;have en:=Ox (g:=g) hm;rw[a2 j a3]at en;simp only[eg];refine⟨t.lt hm,?_,fun x hx=>?_⟩
  ·rw[en]
   refine Vv rfl ?_;simp only[TY,trN];refine aS (fun y hy=>?_);simp only[YV,C0 (t.mem hm hy)]
  ·have hxo:=t.mem hm hx
   rw[Ox hxo,a1];exact⟨(oQ hxo).1,rfl⟩
 ·have hd:=t.dl2 t.has t.dl
  rw[t.zero,H7 t.nodup]at hd;have hR:=hd.rch hrg (fun i hi=>by rw[List.mem_singleton.1 hi];omega) (fun i hi=>by rw[List.mem_singleton.1 hi];exact .zero) (fun x hx=>by cases hx)
  grind
end sub
section comp
variable {l:List Ty} {fs:List Ft} {g:List Nd} {p q:List Int}
end comp
end
structure Hom(l:List Ty)(a b:List Nd)(φ:Nat->Nat):Prop where
 zero:φ 0=0
 lt:∀ i,i<a.length->φ i<b.length
 ty:∀ i,i<a.length->sub l (nd b (φ i)).ty.toNat (nd a i).ty.toNat=true
 ln:∀ i,i<a.length->∀ x∈(nd a i).ln,tgt (nd b (φ i)).ln x.1=((φ x.2.toNat:Nat):Int)
theorem Hom.uniq(h:Hom l a b φ)(k:Hom l a b ψ)(hr:Rch a i):φ i=ψ i:=by
 induction hr with
 | zero=>rw[h.zero,k.zero]
 | step hr hi hx ih=>
  rename_i i x
  have e:=yK hi;have h1:=h.ln i hi x (by rw[e];exact hx);have h2:=k.ln i hi x (by rw[e];exact hx)
  grind
def Maps(l:List Ty)(a b:List Nd):Prop:=∃ φ,Hom l a b φ
noncomputable instance(l:List Ty)(a b:List Nd):Decidable (Maps l a b):=Classical.propDecidable _
def Tq(out:Nat->Int)(t:Nat)(v:Int)(x:Nat):Int:=if x=t then v else out x
theorem VW(out:Nat->Int)(t:Nat)(v:Int):Tq out t v t=v:=by simp[Tq]
theorem gJ{v:Int}(h:x≠t):Tq out t v x=out x:=by simp[Tq,h]
def LinksDone(a b:List Nd)(out:Nat->Int)(j k:Nat):Prop:=∀ x∈(nd a j).ln.take k,0<=out x.2.toNat/\tgt (nd b (out j).toNat).ln x.1=out x.2.toNat
def NodeDone(l:List Ty)(a b:List Nd)(out:Nat->Int)(j:Nat):Prop:=sub l (nd b (out j).toNat).ty.toNat (nd a j).ty.toNat=true/\LinksDone a b out j (nd a j).ln.length
structure FS(l:List Ty)(a b:List Nd)(out:Nat->Int)(st:List Int)(i k:Nat):Prop where
 zero:out 0=0
 rng:∀ j,-1<=out j/\out j<b.length
 only:∀ j,0<=out j->∀ φ,Hom l a b φ->out j=(φ j:Nat)
 stk:∀ s∈st,∃ n:Nat,s=(n:Int)/\n<a.length/\0<=out n
 cl:∀ j,j<a.length->0<=out j->j≠i->(j:Int)∈st\/NodeDone l a b out j
 me:i<a.length->0<=out i/\LinksDone a b out i k
 ty:i<a.length->0<k->sub l (nd b (out i).toNat).ty.toNat (nd a i).ty.toNat=true
theorem FS.start(ha:0<a.length)(hb:0<b.length):FS l a b (Tq (fun _=>-1) 0 0) [0] a.length 0:=by
 refine⟨by simp[Tq],fun j=>?_,fun j hj φ h=>?_,fun s hs=>?_,fun j _ hj _=>?_,fun hi=>absurd hi (aG _),fun hi=>absurd hi (aG _)⟩
 ·grind[VW,gJ]
 ·by_cases e:j=0
  ·subst e;rw[h.zero];simp[Tq]
  ·grind[gJ]
 ·grind[Tq]
 ·grind[gJ]
theorem FS.pop{z:Int}(h:FS l a b out (st++[z]) a.length 0):∃ n m:Nat,z=(n:Int)/\n<a.length/\out n=(m:Int)/\m<b.length/\FS l a b out st n 0:=by
 obtain⟨n,rfl,hn,hm⟩:=h.stk z (by simp);have hr:=h.rng n;refine⟨n,(out n).toNat,rfl,hn,by omega,by omega,h.zero,h.rng,h.only,fun s hs=>h.stk s (by simp[hs]),fun j hj hmj hne=>?_,fun _=>⟨hm,fun x hx=>by simp at hx⟩,fun _ hk=>absurd hk (aG _)⟩;rcases h.cl j hj hmj oG with h1|h1
 ·rcases aD.1 h1 with h2|h2
  ·exact .inl h2
  ·have:=ar.1 h2
   omega
 ·exact .inr h1
theorem take_nd(hi:i<a.length)(hk:k<(a[i]).ln.length):(nd a i).ln.take (k+1)=(nd a i).ln.take k++[(a[i]).ln[k]]:=by
 rw[yK hi,List.take_succ_eq_append_getElem hk]
theorem LinksDone.snoc{a b:List Nd}{out:Nat->Int}{i k:Nat}(h:LinksDone a b out i k)(hi:i<a.length)(hk:k<(a[i]).ln.length)(hx:0<=out ((a[i]).ln[k]).2.toNat/\tgt (nd b (out i).toNat).ln ((a[i]).ln[k]).1=out ((a[i]).ln[k]).2.toNat):LinksDone a b out i (k+1):=fun x hxm=>by
 rw[take_nd hi hk]at hxm
 rcases aD.1 hxm with h1|h1
 ·exact h x h1
 ·grind
theorem FS.old(h:FS l a b out st i k)(hi:i<a.length)(hk:k<(a[i]).ln.length)(hty:sub l (nd b (out i).toNat).ty.toNat (nd a i).ty.toNat=true)
  (hm:0<=out ((a[i]).ln[k]).2.toNat) (he:out ((a[i]).ln[k]).2.toNat=tgt (nd b (out i).toNat).ln ((a[i]).ln[k]).1):FS l a b out st i (k+1):=
 ⟨h.zero,h.rng,h.only,h.stk,h.cl,fun _=>⟨(h.me hi).1,(h.me hi).2.snoc hi hk ⟨hm,he.symm⟩⟩,fun _ _=>hty⟩
theorem LinksDone.set{v:Int}(h:LinksDone a b out j k)(hj:0<=out j)(ht:out t<0):LinksDone a b (Tq out t v) j k:=fun x hx=>by
 have h1:=h x hx
 grind[gJ,h1]
theorem FS.new(h:FS l a b out st i k)(hi:i<a.length)(hk:k<(a[i]).ln.length)(hty:sub l (nd b (out i).toNat).ty.toNat (nd a i).ty.toNat=true)
  (htt:((a[i]).ln[k]).2=(t:Int)) (htl:t<a.length) (hn:out t<0) (h0:0<=tgt (nd b (out i).toNat).ln ((a[i]).ln[k]).1) (hb:tgt (nd b (out i).toNat).ln ((a[i]).ln[k]).1<b.length):FS l a b (Tq out t (tgt (nd b (out i).toNat).ln ((a[i]).ln[k]).1)) (st++[(t:Int)]) i (k+1):=by
 have a1:=(h.me hi).1;have hit:i≠t:=fun e=>by rw[e]at a1;omega
 have h0t:0≠t:=fun e=>by have:=h.zero;rw[e]at this;omega
 have hxm:(a[i]).ln[k]∈(nd a i).ln:=by rw[yK hi];exact aq hk
 refine⟨by rw[gJ h0t];exact h.zero,fun j=>?_,fun j hj φ hφ=>?_,fun s hs=>?_,fun j hj hm hne=>?_,fun _=>?_,fun _ _=>by rw[gJ hit];exact hty⟩
 ·by_cases e:j=t
  ·grind[VW]
  ·rw[gJ e];exact h.rng j
 ·by_cases e:j=t
  ·subst e
   rw[VW,h.only i a1 φ hφ,Int.toNat_natCast,hφ.ln i hi _ hxm,htt,Int.toNat_natCast]
  ·rw[gJ e]at hj ⊢;exact h.only j hj φ hφ
 ·rcases aD.1 hs with hs|hs
  ·obtain⟨n,h1,h2,h3⟩:=h.stk s hs
   grind[h1,gJ]
  ·grind[VW]
 ·by_cases e:j=t
  ·grind
  ·rw[gJ e]at hm
   rcases h.cl j hj hm hne with h1|h1
   ·grind
   ·refine .inr ⟨by rw[gJ e];exact h1.1,h1.2.set hm hn⟩
 ·refine⟨by rw[gJ hit];exact a1,?_⟩
  refine LinksDone.snoc ((h.me hi).2.set a1 hn) hi hk ?_
  grind[Int.toNat_natCast,VW,gJ]
theorem FS.done(h:FS l a b out st i k)(hi:i<a.length)(hk:k=(a[i]).ln.length)(hty:sub l (nd b (out i).toNat).ty.toNat (nd a i).ty.toNat=true):FS l a b out st a.length 0:=
 ⟨h.zero,h.rng,h.only,h.stk,fun j hj hm _=>by
  by_cases e:j=i
  ·subst e
   refine .inr ⟨hty,?_⟩
   have h1:=(h.me hj).2
   grind[yK,h1]
  ·exact h.cl j hj hm e,fun hi=>absurd hi (aG _),fun hi=>absurd hi (aG _)⟩
theorem FS.end_(hr:∀ i,i<a.length->Rch a i)(h:FS l a b out [] a.length 0):Hom l a b (fun i=>(out i).toNat)/\∀ i,i<a.length->0<=out i:=by
 have hd:∀ i,i<a.length->0<=out i->NodeDone l a b out i:=fun i hi hm=>by
  rcases h.cl i hi hm oG with h1|h1
  ·cases h1
  ·exact h1
 have a2:∀ i,Rch a i->i<a.length->0<=out i:=fun i hri=>by
  induction hri with
  | zero=>intro _;rw[h.zero];exact aP _
  | step hr hi hx ih=>
   rename_i i x
   intro _;have h1:=(hd i hi (ih hi)).2 x (by rw[List.take_length,yK hi];exact hx);exact h1.1
 have a1:∀ i,i<a.length->0<=out i:=fun i hi=>a2 i (hr i hi) hi
 refine⟨⟨by show (out 0).toNat=0;rw[h.zero];rfl,fun i hi=>?_,fun i hi=>(hd i hi (a1 i hi)).1,fun i hi x hx=>?_⟩,a1⟩
 ·have h1:=h.rng i;have h2:=a1 i hi;show (out i).toNat<b.length;omega
 ·have h1:=(hd i hi (a1 i hi)).2 x (by rw[List.take_length];exact hx)
  omega
def WQ(p:Nat->Nat->Bool)(i j:Nat)(x y:Nat):Bool:=if x=i/\y=j then true else p x y
theorem P5(p:Nat->Nat->Bool)(i j:Nat):WQ p i j i j=true:=by simp[WQ]
theorem setP_mono(h:p x y=true):WQ p i j x y=true:=by
 unfold WQ;split
 ·rfl
 ·exact h
theorem JX(h:WQ p i j x y=true):(x=i/\y=j)\/p x y=true:=by
 grind[WQ]
def Sw(na nb:Nat)(p:Nat->Nat->Bool):Nat:=(List.range (na*nb)).countP (fun z=>!p (z/nb) (z%nb))
theorem lackP_lt{na nb:Nat}{q:Nat->Nat->Bool}(hpq:∀ x y,p x y=true->q x y=true)(hi:i<na)(hj:j<nb)(h1:p i j=false)(h2:q i j=true):Sw na nb q<Sw na nb p:=by
 have hd:(i*nb+j)/nb=i:=by
  rw[Nat.mul_comm,Nat.mul_add_div oG,Nat.div_eq_of_lt hj,Nat.add_zero]
 have hm:(i*nb+j)%nb=j:=by
  rw[Nat.mul_comm,Nat.mul_add_mod,Nat.mod_eq_of_lt hj]
 have hl:i*nb+j<na*nb:=by
  have:=aV nb (show i+1<=na from hi)
  grind
 refine QJ (fun z hz=>?_) (List.range (na*nb)) (i*nb+j) (az.2 hl) ?_ ?_
 ·grind
 ·grind
 ·grind
def PairLn(a b:List Nd)(p:Nat->Nat->Bool)(i j k:Nat):Prop:=∀ x∈(nd a i).ln.take k,∃ t:Nat,tgt (nd b j).ln x.1=(t:Int)/\p x.2.toNat t=true
def PairOk(l:List Ty)(a b:List Nd)(p:Nat->Nat->Bool)(i j:Nat):Prop:=sub l (nd b j).ty.toNat (nd a i).ty.toNat=true/\PairLn a b p i j (nd a i).ln.length
structure PB(l:List Ty)(a b:List Nd)(p:Nat->Nat->Bool):Prop where
 zero:p 0 0=true
 rng:∀ i j,p i j=true->i<a.length/\j<b.length
 only:∀ i j,p i j=true->∀ φ,Hom l a b φ->φ i=j
structure MPS(l:List Ty)(a b:List Nd)(p:Nat->Nat->Bool)(ch:Bool):Prop where
 pb:PB l a b p
 cl:ch=false->∀ i j,p i j=true->PairOk l a b p i j
structure MPP(l:List Ty)(a b:List Nd)(p0 p:Nat->Nat->Bool)(ch:Bool)(i j k:Nat):Prop where
 pb:PB l a b p
 sup:∀ x y,p0 x y=true->p x y=true
 same:ch=false->∀ x y,p x y=true->p0 x y=true
 more:ch=true->Sw a.length b.length p<Sw a.length b.length p0
 done:∀ x y,p0 x y=true->x<i\/x=i/\y<j->PairOk l a b p x y
 me:0<k->i<a.length/\j<b.length/\p i j=true/\sub l (nd b j).ty.toNat (nd a i).ty.toNat=true/\PairLn a b p i j k
theorem MPS.start(ha:0<a.length)(hb:0<b.length):MPS l a b (WQ (fun _ _=>false) 0 0) true:=
 ⟨⟨P5 _ _ _,(fun i j h=>by
  rcases JX h with ⟨rfl,rfl⟩|h
  ·exact⟨ha,hb⟩
  ·cases h),(fun i j h φ hφ=>by
  rcases JX h with ⟨rfl,rfl⟩|h
  ·exact hφ.zero
  ·cases h)⟩,fun h=>nomatch h⟩
theorem MPP.start(h:MPS l a b p ch):MPP l a b p p false 0 0 0:=
 ⟨h.pb,fun _ _ h=>h,fun _ _ _ h=>h,(fun h=>nomatch h),(fun x y _ hx=>by omega),fun hk=>absurd hk (aG _)⟩
theorem MPP.row(h:MPP l a b p0 p ch i b.length 0):MPP l a b p0 p ch (i+1) 0 0:=
 ⟨h.pb,h.sup,h.same,h.more,fun x y hp hx=>h.done x y hp (by
  have:=(h.pb.rng x y (h.sup x y hp)).2
  omega),fun hk=>absurd hk (aG _)⟩
theorem MPP.skip(h:MPP l a b p0 p ch i j 0)(hp:p i j=false):MPP l a b p0 p ch i (j+1) 0:=
 ⟨h.pb,h.sup,h.same,h.more,fun x y h0 hx=>by
  by_cases e:x=i/\y=j
  ·obtain⟨rfl,rfl⟩:=e
   rw[h.sup _ _ h0]at hp;cases hp
  ·exact h.done x y h0 oG,fun hk=>absurd hk (aG _)⟩
theorem PairLn.snoc{a b:List Nd}{p:Nat->Nat->Bool}{i j k:Nat}(h:PairLn a b p i j k)(hi:i<a.length)(hk:k<(a[i]).ln.length)(hx:∃ t:Nat,tgt (nd b j).ln ((a[i]).ln[k]).1=(t:Int)/\p ((a[i]).ln[k]).2.toNat t=true):PairLn a b p i j (k+1):=fun x hxm=>by
 rw[take_nd hi hk]at hxm
 rcases aD.1 hxm with h1|h1
 ·exact h x h1
 ·grind
theorem PairLn.mono{q:Nat->Nat->Bool}(h:PairLn a b p i j k)(hpq:∀ x y,p x y=true->q x y=true):PairLn a b q i j k:=fun x hx=>by
 obtain⟨t,h1,h2⟩:=h x hx
 grind
structure MPK(l:List Ty)(a b:List Nd)(p0 p:Nat->Nat->Bool)(ch:Bool)(i j k:Nat):Prop where
 pp:MPP l a b p0 p ch i j 0
 at_:p i j=true
 ty:sub l (nd b j).ty.toNat (nd a i).ty.toNat=true
 ln:PairLn a b p i j k
theorem MPK.start(h:MPP l a b p0 p ch i j 0)(hp:p i j=true)(ht:sub l (nd b j).ty.toNat (nd a i).ty.toNat=true):MPK l a b p0 p ch i j 0:=⟨h,hp,ht,fun x hx=>by simp at hx⟩
theorem MPK.old{s:Nat}(h:MPK l a b p0 p ch i j k)(hi:i<a.length)(hk:k<(a[i]).ln.length)(hs:((a[i]).ln[k]).2=(s:Int))(ht:tgt (nd b j).ln ((a[i]).ln[k]).1=(t:Int))(hp:p s t=true):MPK l a b p0 p ch i j (k+1):=
 ⟨h.pp,h.at_,h.ty,h.ln.snoc hi hk ⟨t,ht,by rw[hs,Int.toNat_natCast];exact hp⟩⟩
theorem MPK.new{s:Nat}(h:MPK l a b p0 p ch i j k)(hi:i<a.length)(hk:k<(a[i]).ln.length)(hs:((a[i]).ln[k]).2=(s:Int))(hsl:s<a.length)(ht:tgt (nd b j).ln ((a[i]).ln[k]).1=(t:Int))(htl:t<b.length)(hp:p s t=false):MPK l a b p0 (WQ p s t) true i j (k+1):=by
 have hxm:(a[i]).ln[k]∈(nd a i).ln:=by rw[yK hi];exact aq hk
 have hm:∀ x y,p x y=true->WQ p s t x y=true:=fun x y h=>setP_mono h
 refine⟨⟨⟨hm _ _ h.pp.pb.zero,fun x y hx=>?_,fun x y hx φ hφ=>?_⟩,fun x y hx=>hm _ _ (h.pp.sup x y hx),(fun h=>nomatch h),fun _=>?_,fun x y h0 hx=>?_,fun hk=>absurd hk (aG _)⟩,hm _ _ h.at_,h.ty,(h.ln.mono hm).snoc hi hk ⟨t,ht,by rw[hs,Int.toNat_natCast];exact P5 _ _ _⟩⟩
 ·rcases JX hx with ⟨rfl,rfl⟩|hx
  ·omega
  ·exact h.pp.pb.rng _ _ hx
 ·rcases JX hx with ⟨rfl,rfl⟩|hx
  ·have e:=h.pp.pb.only i j h.at_ φ hφ
   have h1:=hφ.ln i hi _ hxm
   grind
  ·exact h.pp.pb.only x y hx φ hφ
 ·have h1:=lackP_lt (na:=a.length) (nb:=b.length) hm hsl htl hp (P5 p s t)
  cases ch with
  | true=>exact Nat.lt_trans h1 (h.pp.more rfl)
  | false=>
   have e:Sw a.length b.length p0=Sw a.length b.length p:=by
    unfold Sw;refine List.countP_congr (fun z _=>?_);cases hz:p0 (z/b.length) (z%b.length)with
    | true=>rw[h.pp.sup _ _ hz]
    | false=>
     cases hz2:p (z/b.length) (z%b.length)with
     | false=>rfl
     | true=>rw[h.pp.same rfl _ _ hz2]at hz;cases hz
   rw[e];exact h1
 ·obtain⟨h1,h2⟩:=h.pp.done x y h0 hx
  exact⟨h1,h2.mono hm⟩
theorem MPK.done{l:List Ty}{a b:List Nd}{p0 p:Nat->Nat->Bool}{ch:Bool}{i j k:Nat}(h:MPK l a b p0 p ch i j k)(hi:i<a.length)(hk:k=(a[i]).ln.length):MPP l a b p0 p ch i (j+1) 0:=
 ⟨h.pp.pb,h.pp.sup,h.pp.same,h.pp.more,fun x y h0 hx=>by
  by_cases e:x=i/\y=j
  ·obtain⟨rfl,rfl⟩:=e
   have h1:=h.ln
   rw[hk,<- yK hi]at h1
   exact⟨h.ty,h1⟩
  ·exact h.pp.done x y h0 oG,fun hk=>absurd hk (aG _)⟩
theorem MPP.end_(h:MPP l a b p0 p ch a.length 0 0):MPS l a b p ch:=
 ⟨h.pb,fun hc i j hp=>h.done i j (h.same hc i j hp) (.inl (h.pb.rng i j hp).1)⟩
theorem MPS.two(h:MPS l a b p ch)(h1:p i j=true)(h2:p i k=true)(hne:j≠k):¬Maps l a b:=by
 rintro⟨φ,hφ⟩
 exact hne ((h.pb.only i j h1 φ hφ).symm.trans (h.pb.only i k h2 φ hφ))
section
section order
variable {l:List Ty} {fs:List Ft} {a b c:List Nd}
def Srt(xs:List (Int×Int)):Prop:=xs.Pairwise (fun x y=>x.1<y.1)
theorem srt_of{nf n:Nat}{a1:Int}(h:yJ nf n a1 xs=0):Srt xs:=by
 have hs:=(Mj h).2;refine List.pairwise_iff_getElem.2 (fun i j hi hj hij=>hs i j hi hj hij)
theorem CK(hs:Srt xs){x:Int×Int}(hx:x∈xs):tgt xs x.1=x.2:=by
 induction xs with
 | nil=>cases hx
 | cons y ys ih=>
  obtain⟨h1,h2⟩:=aR.1 hs;rcases av.1 hx with e|e
  ·grind[tgt]
  ·have hne:¬y.1=x.1:=by have:=h1 x e;omega
   have:=ih h2 e;simp only[tgt,List.find?_cons,hne,decide_false]at this ⊢;exact this
theorem Mq{f:Int}(h:0<=tgt xs f):(f,tgt xs f)∈xs:=by
 induction xs with
 | nil=>simp[tgt]at h
 | cons y ys ih=>
  grind[tgt,List.mem_cons_self,List.mem_cons_of_mem]
theorem srt_ext:∀ {xs ys:List (Int×Int)},Srt xs->Srt ys->(∀ z,z∈xs↔z∈ys)->xs=ys
 | [],[],_,_,_=>rfl
 | [],y::ys,_,_,h=>by have:=(h y).2 (aE ..);cases this
 | x::xs,[],_,_,h=>by have:=(h x).1 (aE ..);cases this
 | x::xs,y::ys,hx,hy,h=>by
  obtain⟨h1,h2⟩:=aR.1 hx
  obtain⟨h3,h4⟩:=aR.1 hy
  have e:x=y:=by
   grind
  subst e;refine congrArg _ (srt_ext h2 h4 (fun z=>⟨fun hz=>?_,fun hz=>?_⟩))
  ·grind
  ·grind
theorem Sz:∀ {xs ys:List Nat},xs.Nodup->(∀ x∈xs,x∈ys)->xs.length<=ys.length
 | [],_,_,_=>ah _
 | x::xs,ys,hn,h=>by
  obtain⟨h1,h2⟩:=List.nodup_cons.1 hn
  have hx:=h x (aE ..)
  have hl:=List.length_erase_of_mem hx
  have hp:=List.length_pos_of_mem hx
  have:=Sz (xs:=xs) (ys:=ys.erase x) h2 (fun y hy=>(List.mem_erase_of_ne (fun e:y=x=>h1 (by rw[<- e];exact hy))).2 (h y (aw _ hy)))
  grind
structure GY(l:List Ty)(a:List Nd):Prop where
 vt:VT l
 pos:0<a.length
 tr:∀ i,i<a.length->0<=(nd a i).ty/\(nd a i).ty<l.length
 srt:∀ i,i<a.length->Srt (nd a i).ln
 lr:∀ i,i<a.length->∀ x∈(nd a i).ln,0<=x.2/\x.2.toNat<a.length
structure GX(l:List Ty)(a:List Nd):Prop extends GY l a where
 rch:∀ i,i<a.length->Rch a i
theorem GV.gx(h:GV l fs a):GX l a:=
 ⟨⟨h.s.vt,h.gok.pos,fun i hi=>by rw[yK hi];exact h.gok.ty i hi,fun i hi=>by rw[yK hi];exact srt_of (Iw h.lo i hi),fun i hi x hx=>by
  rw[yK hi]at hx
  have:=h.gok.ln i hi x hx
  omega⟩,h.rch⟩
theorem Sv{nf n:Nat}:∀ {xs:List (Int×Int)} {a1:Int},Srt xs->(∀ x∈xs,a1<x.1/\0<=x.1/\x.1<nf/\0<=x.2/\x.2<n)->yJ nf n a1 xs=0
 | [],_,_,_=>rfl
 | x::xs,a1,hs,h=>by
  obtain⟨h1,h2⟩:=aR.1 hs
  have h3:=h x (aE ..)
  have h4:¬oZ nf n x:=by unfold oZ;omega
  unfold yJ
  rw[if_neg h4,if_neg (show ¬x.1<=a1 by omega)]
  exact Sv h2 (fun y hy=>by
   have:=h y (aw _ hy)
   have:=h1 y hy
   omega)
theorem gf_mk(h:(qW l fs).1=0)(hx:GX l a)(hle:a.length<=60)(hf:∀ i,i<a.length->∀ x∈(nd a i).ln,0<=x.1/\x.1<fs.length)
  (ht:∀ i,i<a.length->∀ x∈(nd a i).ln,sub l (nd a i).ty.toNat (PV fs x.1).of.toNat=true/\sub l (nd a x.2.toNat).ty.toNat (PV fs x.1).val.toNat=true):gj l fs a=(0,0):=by
 have hl:j9 l.length fs.length a=(0,0):=by
  unfold j9;have:=hx.pos;rw[if_neg oG];refine YJ (fun k _ hk=>?_);have a1:k<a.length:=by omega
  have hty:=hx.tr k a1;rw[yK a1]at hty;rw[XY a1 oG,List.drop_zero];refine Sv (by rw[<- yK a1];exact hx.srt k a1) (fun x hxm=>?_);rw[<- yK a1]at hxm;have h1:=hx.lr k a1 x hxm
  grind
 have ht2:tyF l fs a=(0,0):=by
  refine YJ (fun k _ hk=>?_);have a1:k<a.length:=by omega
  refine FV a1 (fun j hj=>?_);have hm:(a[k]).ln[j]∈(nd a k).ln:=by rw[yK a1];exact aq hj
  obtain⟨h1,h2⟩:=ht k a1 _ hm;rw[yK a1]at h1;unfold Py;rw[h1,show (Pk a (a[k]).ln[j].2).ty.toNat=(nd a ((a[k]).ln[j]).2.toNat).ty.toNat from rfl,h2];rfl
 have hu:(-1:Int)=KV a:=OX (.inl ⟨rfl,hx.rch⟩);rw[gf_in h,IY (by rw[hl]) ht2 oG]
theorem GV.lt(h:GV l fs a)(hi:i<a.length){x:Int×Int}(hx:x∈(nd a i).ln):0<=x.1/\x.1<fs.length/\sub l (nd a i).ty.toNat (PV fs x.1).of.toNat=true/\sub l (nd a x.2.toNat).ty.toNat (PV fs x.1).val.toNat=true:=by
 rw[yK hi]at hx;have h1:=h.gok.ln i hi x hx;have h0:tyN l fs a i=0:=uY (by rw[show yX (tyN l fs a) 0 a.length=tyF l fs a from rfl,h.t]) _ (ah _) oG;have h2:Py l fs a (a[i]).ty x=false:=by
  simp only[tyN,List.getElem?_eq_getElem hi]at h0
  grind
 grind[Py,Pk,nd,Bool.or_eq_false_iff,yK]
theorem GY.rng(h:GY l a):∀ i,i<a.length->∀ t∈vQ a i,t<a.length:=fun i hi t ht=>by
 simp only[vQ,List.mem_map]at ht
 obtain⟨x,hx,rfl⟩:=ht
 exact(h.lr i hi x hx).2
theorem GY.trr(h:GY l a)(a1:r<a.length)(hd:DL a [r] [] o):TrR a r o:=by
 have hr:=h.rng;obtain⟨hok,_,_⟩:=hd.ok hr (fun i hi=>by rw[List.mem_singleton.1 hi];exact a1) (OOk.nil _);have h0:=hd.has r (by simp);refine⟨hd,hok,hd.nodup List.nodup_nil,h0,?_,fun x hx=>hd.clo x hx (by simp)⟩;cases hd with
 | old h' t=>cases h'
 | new h' s t=>
  cases t;obtain⟨_,s1,e1⟩:=s.ok hr (hr r a1) ((OOk.nil _).snoc a1 (by simp));rw[e1];simp
theorem Hom.refl(h:GX l a):Hom l a a (fun i=>i):=
 ⟨rfl,fun _ hi=>hi,fun _ _=>Y8 h.vt _,fun i hi x hx=>by
  have:=h.lr i hi x hx
  rw[CK (h.srt i hi) hx];omega⟩
theorem Hom.comp(hl:VT l)(hφ:Hom l a b φ)(hψ:Hom l b c ψ):Hom l a c (fun i=>ψ (φ i)):=
 ⟨by show ψ (φ 0)=0;rw[hφ.zero,hψ.zero],fun i hi=>hψ.lt _ (hφ.lt i hi),fun i hi=>Y7 hl (hψ.ty _ (hφ.lt i hi)) (hφ.ty i hi),fun i hi x hx=>by
  have h1:=hφ.ln i hi x hx
  have hm:=Mq (xs:=(nd b (φ i)).ln) (f:=x.1) oG
  rw[h1]at hm
  have:=hψ.ln _ (hφ.lt i hi) _ hm
  rw[Int.toNat_natCast]at this
  exact this⟩
theorem Maps.comp(hl:VT l)(h:Maps l a b)(k:Maps l b c):Maps l a c:=by
 obtain⟨φ,hφ⟩:=h;obtain⟨ψ,hψ⟩:=k;exact⟨_,hφ.comp hl hψ⟩
theorem turn_hom(ha:GX l a)(hb:GX l b)(hφ:Hom l a b φ)(hψ:Hom l b a ψ):Turn a b φ ψ:=by
 have a3:=ha.vt;have h1:∀ i,i<a.length->ψ (φ i)=i:=fun i hi=>(hφ.comp a3 hψ).uniq (Hom.refl ha) (ha.rch i hi)
 have h2:∀ i,i<b.length->φ (ψ i)=i:=fun i hi=>(hψ.comp a3 hφ).uniq (Hom.refl hb) (hb.rch i hi)
 have a1:b.length=a.length:=by
  have n1:((List.range a.length).map φ).Nodup:=by
   refine List.nodup_iff_pairwise_ne.2 (List.pairwise_map.2 ?_);refine List.Pairwise.imp_of_mem (fun {x y} hx hy a4 e=>a4 ?_) List.nodup_range
   grind
  have n2:((List.range b.length).map ψ).Nodup:=by
   refine List.nodup_iff_pairwise_ne.2 (List.pairwise_map.2 ?_);refine List.Pairwise.imp_of_mem (fun {x y} hx hy a4 e=>a4 ?_) List.nodup_range
   grind
  have l1:=(Sz n1 (ys:=List.range b.length) (fun z hz=>by
   obtain⟨x,hx,rfl⟩:=ax.1 hz
   exact az.2 (hφ.lt x (az.1 hx))))
  have l2:=(Sz n2 (ys:=List.range a.length) (fun z hz=>by
   obtain⟨x,hx,rfl⟩:=ax.1 hz
   exact az.2 (hψ.lt x (az.1 hx))))
  simp at l1 l2;omega
 refine⟨a1,hφ.zero,fun i hi=>by rw[<- a1];exact hφ.lt i hi,fun j hj=>?_,h1,fun i hi=>?_⟩
 ·rw[<- a1]at hj
  exact⟨hψ.lt j hj,h2 j hj⟩
 ·have a2:=hφ.lt i hi
  have t1:=hφ.ty i hi;have t2:=hψ.ty _ a2;rw[h1 i hi]at t2;have r1:=ha.tr i hi;have r2:=hb.tr _ a2;have e:=GQ a3 t1 t2;refine Vv (by show (nd b (φ i)).ty=(nd a i).ty;omega) ?_;show (nd b (φ i)).ln=(nd a i).ln.map (fun y=>(y.1,((φ y.2.toNat:Nat):Int)));refine srt_ext (hb.srt _ a2) ?_ (fun z=>⟨fun hz=>?_,fun hz=>?_⟩)
  ·exact List.pairwise_map.2 (ha.srt _ hi)
  ·have g1:=hψ.ln _ a2 z hz
   rw[h1 i hi]at g1;have g2:=hb.lr _ a2 z hz
   grind[Mq,nd,Int.toNat_natCast,Int.toNat_of_nonneg]
  ·obtain⟨y,hy,rfl⟩:=ax.1 hz
   have g1:=hφ.ln i hi y hy
   grind[Mq,nd]
theorem can_eq(ha:GX l a)(hb:GX l b)(h:Maps l a b)(k:Maps l b a){oa ob:List Nat}(ta:DL a [0] [] oa)(tb:DL b [0] [] ob):yq b ob=yq a oa:=by
 obtain⟨φ,hφ⟩:=h;obtain⟨ψ,hψ⟩:=k;have t:=turn_hom ha hb hφ hψ;have ho:=(ha.trr ha.pos ta).ok.lt;have hd2:=t.dl ha.rng ta (fun i hi=>by rw[List.mem_singleton.1 hi];exact ha.pos) ho;simp only[List.map_cons,List.map_nil,t.z]at hd2;rw[<- hd2.det tb];exact t.can ha.rng ho
theorem K4(t:TrR a r o)(hx:x∈o):nd (yq a o) (o.idxOf x)=trN (o.idxOf ·) (nd a x):=by
 rw[Ox hx];refine Vv rfl ?_;simp only[TY,trN];refine aS (fun y hy=>?_);simp only[YV,C0 (t.mem hx hy)]
theorem dl_ex{g:List Nd}(hr:∀ i,i<g.length->∀ t∈vQ g i,t<g.length):∀(n:Nat) (is o:List Nat),ux g.length (Xy o)<=n->(∀ i∈is,i<g.length)->∃ o',DL g is o o'
 | n,[],o,_,_=>⟨o,.nil⟩
 | n,i::is,o,hn,hi=>by
  have hil:=hi i (aE ..)
  have his:∀ j∈is,j<g.length:=fun j hj=>hi j (aw _ hj)
  by_cases h:i∈o
  ·obtain⟨o',h1⟩:=dl_ex hr n is o hn his
   exact⟨o',.old h h1⟩
  ·have hl:=Mk hil h
   cases n with
   | zero=>omega
   | succ n=>
    obtain⟨o1,h1⟩:=dl_ex hr n (vQ g i) (o++[i]) oG (hr i hil)
    have hm:ux g.length (Xy o1)<=ux g.length (Xy (o++[i])):=by
     unfold ux;refine List.countP_mono_left (fun x _ hx=>?_);simp only[Xy,Bool.not_eq_true',decide_eq_false_iff_not]at hx ⊢;exact fun k=>hx (h1.sub x k)
    obtain⟨o',h2⟩:=dl_ex hr n is o1 oG his;exact⟨o',.new h h1 h2⟩
theorem GY.dl(h:GY l a)(hr:r<a.length):∃ o,DL a [r] [] o:=dl_ex h.rng _ [r] [] (ai _) (fun i hi=>by rw[List.mem_singleton.1 hi];exact hr)
theorem TrR.at_(t:TrR a r o)(hj:j<(yq a o).length):∃ x,x∈o/\o.idxOf x=j/\o.getD j 0=x/\nd (yq a o) j=trN (o.idxOf ·) (nd a x):=by
 rw[uQ]at hj;have hjo:=aq hj;have h1:=K4 t hjo;rw[C8 t.nodup hj]at h1;exact⟨o[j],hjo,C8 t.nodup hj,by simp[List.getD,hj],h1⟩
theorem TrR.gx(t:TrR a r o)(ha:GY l a):GX l (yq a o):=by
 have a1:=uQ a o;have hrg:∀ i,i<(yq a o).length->∀ x∈(nd (yq a o) i).ln,0<=x.2/\x.2.toNat<(yq a o).length:=fun j hj x hx=>by
  obtain⟨y,hy,_,_,e⟩:=t.at_ hj;rw[e]at hx;obtain⟨z,hz,rfl⟩:=ax.1 hx;have:=(oQ (t.mem hy hz)).1
  grind
 refine⟨⟨ha.vt,by rw[a1];exact List.length_pos_of_mem t.has,fun j hj=>?_,fun j hj=>?_,hrg⟩,fun j hj=>?_⟩
 ·obtain⟨y,hy,_,_,e⟩:=t.at_ hj
  rw[e];exact ha.tr _ (t.lt hy)
 ·obtain⟨y,hy,_,_,e⟩:=t.at_ hj
  rw[e];exact List.pairwise_map.2 (ha.srt _ (t.lt hy))
 ·have hd:=t.dl2 t.has t.dl
  rw[t.zero,H7 t.nodup]at hd
  have hR:=hd.rch (fun i hi y hy=>by
   simp only[vQ,List.mem_map]at hy;obtain⟨x,hx,rfl⟩:=hy
   exact(hrg i hi x hx).2) (fun i hi=>by rw[List.mem_singleton.1 hi,a1];exact List.length_pos_of_mem t.has) (fun i hi=>by rw[List.mem_singleton.1 hi];exact .zero) (fun x hx=>by cases hx)
  exact hR j (az.2 (by rw[<- a1];exact hj))
theorem Hom.part(h:Hom l a b φ)(hb:GX l b){oa ob:List Nat}(ta:TrR a i oa)(tb:TrR b (φ i) ob):Maps l (yq a oa) (yq b ob):=by
 have a1:∀ x,x∈oa->φ x∈ob:=by
  have hR:∀ x,x∈oa->x∈oa/\φ x∈ob:=by
   have hw:=DL.within (o:=oa.filter (fun x=>decide (φ x∈ob))) (g:=a) (fun x hx t ht=>by
    simp only[List.mem_filter,decide_eq_true_eq]at hx ⊢;refine⟨ta.clo x hx.1 t ht,?_⟩;simp only[vQ,List.mem_map]at ht;obtain⟨y,hy,rfl⟩:=ht;have h2:=h.ln x (ta.lt hx.1) y hy;have hm:=Mq (xs:=(nd b (φ x)).ln) (f:=y.1) oG;rw[h2]at hm;have:=tb.mem hx.2 hm
    rwa[Int.toNat_natCast]at this) ta.dl (fun z hz=>by
     rw[List.mem_singleton.1 hz];simp only[List.mem_filter,decide_eq_true_eq]
     exact⟨ta.has,tb.has⟩) (fun x hx=>by cases hx)
   intro x hx;have:=hw x hx;simp only[List.mem_filter,decide_eq_true_eq]at this;exact this
  exact fun x hx=>(hR x hx).2
 have hgb:=tb.gx hb.toGY;have la:=uQ a oa;have lb:=uQ b ob;have hz:oa.getD 0 0=i:=by
  have h0:=oQ ta.has;have hp:0<oa.length:=by have:=h0.1;omega
  have:=h0.2;simp only[ta.zero]at this;simp[List.getD,hp,this]
 have a2:∀ j,j<(yq a oa).length->oa.getD j 0∈oa/\nd (yq a oa) j=trN (oa.idxOf ·) (nd a (oa.getD j 0)):=fun j hj=>by
  rw[la]at hj;have e:oa.getD j 0=oa[j]:=by simp[List.getD,hj]
  have hjo:=aq hj;have h1:=K4 ta hjo;rw[C8 ta.nodup hj]at h1;rw[e];exact⟨hjo,h1⟩
 refine⟨fun j=>ob.idxOf (φ (oa.getD j 0)),?_,fun j hj=>?_,fun j hj=>?_,fun j hj x hx=>?_⟩
 ·show ob.idxOf (φ (oa.getD 0 0))=0
  rw[hz];exact tb.zero
 ·rw[lb];exact(oQ (a1 _ (a2 j hj).1)).1
 ·obtain⟨h1,h2⟩:=a2 j hj
  show sub l (nd (yq b ob) (ob.idxOf (φ (oa.getD j 0)))).ty.toNat _=true;rw[h2,K4 tb (a1 _ h1)];exact h.ty _ (ta.lt h1)
 ·obtain⟨h1,h2⟩:=a2 j hj
  rw[h2]at hx;obtain⟨y,hy,rfl⟩:=ax.1 hx;have hb1:=oQ (a1 _ h1);have hs:=hgb.srt (ob.idxOf (φ (oa.getD j 0))) (by rw[lb];exact hb1.1);have h3:=h.ln _ (ta.lt h1) y hy;have hm:=Mq (xs:=(nd b (φ (oa.getD j 0))).ln) (f:=y.1) oG;rw[h3]at hm;show tgt (nd (yq b ob) (ob.idxOf (φ (oa.getD j 0)))).ln y.1=((ob.idxOf (φ (oa.getD ((oa.idxOf y.2.toNat:Nat):Int).toNat 0)):Nat):Int);have hyo:=oQ (ta.mem h1 hy);have e2:oa.getD (oa.idxOf y.2.toNat) 0=y.2.toNat:=by
   have:=hyo.2;simp[List.getD,hyo.1,this]
  rw[Int.toNat_natCast,e2];rw[K4 tb (a1 _ h1)]at hs ⊢;have hm2:((y.1,((ob.idxOf (φ y.2.toNat):Nat):Int)):Int×Int)∈(trN (ob.idxOf ·) (nd b (φ (oa.getD j 0)))).ln:=ax.2 ⟨_,hm,by rw[Int.toNat_natCast]⟩;exact CK hs hm2
end order
end
end Go.Proofs.YtndbjnkilegebaaGreatDoor
