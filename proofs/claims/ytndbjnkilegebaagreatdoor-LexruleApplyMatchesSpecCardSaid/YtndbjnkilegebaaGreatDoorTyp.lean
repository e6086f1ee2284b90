/- Plain laws, and steps of programs, at every world. -/
import Derived.Test.YtndbjnkilegebaaGreatDoorSub
import Derived.Test.YtndbjnkilegebaaGreatDoorGSearch
import Derived.ArgAppend
import Derived.Test.YtndbjnkilegebaaGreatDoorGro
import Derived.Test.YtndbjnkilegebaaGreatDoorZst
import Derived.Test.YtndbjnkilegebaaGreatDoorGLoose
import Derived.Test.YtndbjnkilegebaaGreatDoorHFault
namespace Go.Proofs.YtndbjnkilegebaaGreatDoor
open Go.RowKit
variable {A:Option Addr}{D:Nat->Prop}{X:List Nat}{b base c cap g hi i k lo m n o p sz t x:Nat}{cs:Array Value}{e:TypeId}{l:List Oper}{listed:Array Bool}{vs ys:List Value}{w w' w0:World}{xs:List Int}
structure Rw where
 kind:Int
 name:ByteArray
 typ:Sm
 index:Int
 kids:List Int
 up:Int
def rws:Int->Nat->Tv->List Rw
 | up,_,.con nm τ=>[⟨1,nm,τ.sm,0,[],up⟩]
 | up,_,.var i=>[⟨2,⟨#[]⟩,smZ,i,[],up⟩]
 | up,p,.abs τ x=>⟨3,⟨#[]⟩,τ.sm,0,[((p+1:Nat):Int)],up⟩::rws p (p+1) x
 | up,p,.app x y=>⟨4,⟨#[]⟩,smZ,0,[((p+1:Nat):Int),((p+1+x.size:Nat):Int)],up⟩::(rws p (p+1) x++rws p (p+1+x.size) y)
theorem JV:∀(up:Int) (p:Nat) (v:Tv),(rws up p v).length=v.size
 | _,_,.con _ _=>rfl
 | _,_,.var _=>rfl
 | _,p,.abs τ x=>by simp only[rws,List.length_cons,JV _ _ x,Tv.size]
 | _,p,.app x y=>by simp only[rws,List.length_cons,List.length_append,JV _ _ x,JV _ _ y,Tv.size]
def RwAt(l:List Rw)(p:Nat)(s:List Rw):Prop:=∀ j (h:j<s.length),l[p+j]? =some s[j]
theorem RwAt.app{l:List Rw}{p:Nat}{s t:List Rw}(h:RwAt l p (s++t)):RwAt l p s/\RwAt l (p+s.length) t:=by
 refine⟨fun j hj=>?_,fun j hj=>?_⟩
 ·have:=h j (by rw[List.length_append];omega)
  grind
 ·have:=h (s.length+j) (by rw[List.length_append];omega)
  grind
theorem RwAt.cons{l:List Rw}{p:Nat}{r:Rw}{t:List Rw}(h:RwAt l p (r::t)):l[p]? =some r/\RwAt l (p+1) t:=by
 refine⟨h 0 (by simp),fun j hj=>?_⟩;have:=h (j+1) (by rw[List.length_cons];omega)
 grind
inductive Chn(l:List Rw):Int->List Ts->Prop
 | nil:Chn l (-1) []
 | abs {u:Nat} {r:Rw} {τ:Ts} {Γ:List Ts} (h:l[u]? =some r) (hk:r.kind=3) (ht:r.typ=τ.sm) (hu:r.up<u) (hc:Chn l r.up Γ):Chn l u (τ::Γ)
 | app {u:Nat} {r:Rw} {Γ:List Ts} (h:l[u]? =some r) (hk:r.kind≠3) (hu:r.up<u) (hc:Chn l r.up Γ):Chn l u Γ
def Kq(l:List Rw):Nat->List Ts->Tv->Prop
 | p,_,.con _ τ=>∃ r,l[p]? =some r/\r.kind=1/\r.typ=τ.sm
 | p,Γ,.var i=>∃ r,l[p]? =some r/\r.kind=2/\r.index=i/\r.up<p/\Chn l r.up Γ
 | p,Γ,.abs τ x=>(∃ r,l[p]? =some r/\r.kind=3/\r.typ=τ.sm/\r.kids= [((p+1:Nat):Int)])/\Kq l (p+1) (τ::Γ) x
 | p,Γ,.app x y=>(∃ r,l[p]? =some r/\r.kind=4/\r.kids= [((p+1:Nat):Int),((p+1+x.size:Nat):Int)])/\Kq l (p+1) Γ x/\Kq l (p+1+x.size) Γ y
theorem WX{l:List Rw}:∀ {v:Tv} {up:Int} {p:Nat} {Γ:List Ts},RwAt l p (rws up p v)->Chn l up Γ->up<p->Kq l p Γ v
 | .con nm τ,up,p,Γ,h,hc,hu=>⟨_,(h.cons).1,rfl,rfl⟩
 | .var i,up,p,Γ,h,hc,hu=>⟨_,(h.cons).1,rfl,rfl,hu,hc⟩
 | .abs τ x,up,p,Γ,h,hc,hu=>by
  obtain⟨h1,h2⟩:=RwAt.cons h
  exact⟨⟨_,h1,rfl,rfl,rfl⟩,WX h2 (.abs h1 rfl rfl hu hc) oG⟩
 | .app x y,up,p,Γ,h,hc,hu=>by
  obtain⟨h1,h2⟩:=RwAt.cons h
  obtain⟨h3,h4⟩:=h2.app
  rw[JV]at h4
  have hC:Chn l p Γ:= .app h1 (show (4:Int)≠3 by decide) hu hc
  exact⟨⟨_,h1,rfl,rfl⟩,WX h3 hC oG,WX h4 hC oG⟩
def nds:List Ts->Tv->List (List Ts×Tv)
 | Γ,.con nm τ=>[(Γ,.con nm τ)]
 | Γ,.var i=>[(Γ,.var i)]
 | Γ,.abs τ x=>(Γ,.abs τ x)::nds (τ::Γ) x
 | Γ,.app x y=>(Γ,.app x y)::(nds Γ x++nds Γ y)
theorem EW:∀(Γ:List Ts) (v:Tv),(nds Γ v).length=v.size
 | _,.con _ _=>rfl
 | _,.var _=>rfl
 | _,.abs τ x=>by simp only[nds,List.length_cons,EW _ x,Tv.size]
 | _,.app x y=>by simp only[nds,List.length_cons,List.length_append,EW _ x,EW _ y,Tv.size]
theorem C3{l:List Rw}:∀ {v:Tv} {p:Nat} {Γ:List Ts},Kq l p Γ v->v.ok Γ.length->(∀ σ∈Γ,σ.size<=200)->∀ j (h:j<(nds Γ v).length),Kq l (p+j) (nds Γ v)[j].1 (nds Γ v)[j].2/\(nds Γ v)[j].2.ok (nds Γ v)[j].1.length/\(∀ σ∈(nds Γ v)[j].1,σ.size<=200)/\(nds Γ v)[j].2.size<=v.size/\((tyv Γ v).isSome=true->(tyv (nds Γ v)[j].1 (nds Γ v)[j].2).isSome=true)
 | .con nm τ,p,Γ,h,ho,hG,j,hj=>by
  obtain rfl:j=0:=by simp[nds]at hj;omega
  exact⟨h,ho,hG,ai _,id⟩
 | .var i,p,Γ,h,ho,hG,j,hj=>by
  obtain rfl:j=0:=by simp[nds]at hj;omega
  exact⟨h,ho,hG,ai _,id⟩
 | .abs τ x,p,Γ,h,ho,hG,j,hj=>by
  cases j with
  | zero=>exact⟨h,ho,hG,ai _,id⟩
  | succ j=>
   have:=C3 (v:=x) h.2 ho.2 (fun q hq=>by
    rcases av.1 hq with rfl|hq
    ·exact ho.1
    ·exact hG q hq) j (by simp only[nds,List.length_cons]at hj;omega)
   obtain⟨a1,a2,a3,a5,a4⟩:=this
   have hp:p+(j+1)=p+1+j:=by omega
   refine⟨by rw[hp];exact a1,a2,a3,nLT a5 (by simp[Tv.size]),fun hs=>a4 ?_⟩
   simp only[tyv,Option.isSome_map]at hs
   exact hs
 | .app x y,p,Γ,h,ho,hG,j,hj=>by
  cases j with
  | zero=>exact⟨h,ho,hG,ai _,id⟩
  | succ j=>
   have hs:(tyv Γ (.app x y)).isSome=true->(tyv Γ x).isSome=true/\(tyv Γ y).isSome=true:=by
    intro e;simp only[tyv]at e
    split at e
    ·rename_i a r z h1 h2
     rw[h1,h2];exact⟨rfl,rfl⟩
    ·cases e
   by_cases hx:j<(nds Γ x).length
   ·obtain⟨a1,a2,a3,a5,a4⟩:=C3 (v:=x) h.2.1 ho.1 hG j hx
    have hp:p+(j+1)=p+1+j:=by omega
    have e:(nds Γ (.app x y))[j+1]=(nds Γ x)[j]:=by simp only[nds,List.getElem_cons_succ];exact List.getElem_append_left hx
    rw[e];exact⟨by rw[hp];exact a1,a2,a3,nLT a5 (by simp only[Tv.size];omega),fun k=>a4 (hs k).1⟩
   ·have hl:=EW Γ x
    have hj2:j-x.size<(nds Γ y).length:=by simp only[nds,List.length_cons,List.length_append]at hj;omega
    obtain⟨a1,a2,a3,a5,a4⟩:=C3 (v:=y) h.2.2 ho.2 hG (j-x.size) hj2;have hp:p+(j+1)=p+1+x.size+(j-x.size):=by omega
    have e:(nds Γ (.app x y))[j+1]=(nds Γ y)[j-x.size]:=by
     simp only[nds,List.getElem_cons_succ];rw[List.getElem_append_right oG];simp only[hl]
    rw[e];exact⟨by rw[hp];exact a1,a2,a3,nLT a5 (by simp only[Tv.size];omega),fun k=>a4 (hs k).2⟩
def TyAt(l:List Rw)(p:Nat)(τ:Ts):Prop:=∀ Γ v,Kq l p Γ v->tyv Γ v=some τ
theorem y7{α:Type}{o:Option α}{a b:α}(h:o=some a)(k:o=some b):a=b:=Option.some.inj (h.symm.trans k)
theorem TyAt.con{l:List Rw}{p:Nat}{r:Rw}{τ:Ts}(h:l[p]? =some r)(hk:r.kind=1)(ht:r.typ=τ.sm):TyAt l p τ:=by
 intro Γ v hv;cases v with
 | con nm σ=>
  obtain⟨r',h1,_,h2⟩:=hv;cases y7 h h1;rw[Ts.sm_inj (h2.symm.trans ht)];rfl
 | var i=>obtain⟨r',h1,h2,_⟩:=hv;cases y7 h h1;rw[hk]at h2;cases h2
 | abs σ x=>obtain⟨⟨r',h1,h2,_⟩,_⟩:=hv;cases y7 h h1;rw[hk]at h2;cases h2
 | app x y=>obtain⟨⟨r',h1,h2,_⟩,_⟩:=hv;cases y7 h h1;rw[hk]at h2;cases h2
theorem Chn.uniq{l:List Rw}{u:Int}{Γ Δ:List Ts}(h:Chn l u Γ)(k:Chn l u Δ):Γ=Δ:=by
 induction h generalizing Δ with
 | nil=>
  generalize e:(-1:Int)=z at k
  cases k with
  | nil=>rfl
  | @abs u=>omega
  | @app u=>omega
 | @abs u r τ Γ h hk ht hu hc ih=>
  generalize e:(u:Int)=z at k
  cases k with
  | nil=>omega
  | @abs u2 r2 τ2 Γ2 h2 hk2 ht2 hu2 hc2=>
   obtain rfl:u=u2:=by omega
   cases y7 h h2
   grind[Ts.sm_inj]
  | @app u2 r2 Γ2 h2 hk2 hu2 hc2=>
   grind
 | @app u r Γ h hk hu hc ih=>
  generalize e:(u:Int)=z at k
  cases k with
  | nil=>omega
  | @abs u2 r2 τ2 Γ2 h2 hk2 ht2 hu2 hc2=>
   grind
  | @app u2 r2 Γ2 h2 hk2 hu2 hc2=>
   grind
theorem TyAt.var{l:List Rw}{p i:Nat}{r:Rw}{τ:Ts}{Γ:List Ts}(h:l[p]? =some r)(hk:r.kind=2)(hi:r.index=i)(hc:Chn l r.up Γ)(ht:Γ[i]? =some τ):TyAt l p τ:=by
 intro Δ v hv;cases v with
 | con nm σ=>obtain⟨r',h1,h2,_⟩:=hv;cases y7 h h1;rw[hk]at h2;cases h2
 | var j=>
  obtain⟨r',h1,_,h2,_,h3⟩:=hv;cases y7 h h1;rw[hi]at h2;rw[show j=i by omega,<- hc.uniq h3];exact ht
 | abs σ x=>obtain⟨⟨r',h1,h2,_⟩,_⟩:=hv;cases y7 h h1;rw[hk]at h2;cases h2
 | app x y=>obtain⟨⟨r',h1,h2,_⟩,_⟩:=hv;cases y7 h h1;rw[hk]at h2;cases h2
theorem TyAt.abs{l:List Rw}{p:Nat}{r:Rw}{τ ρ:Ts}(h:l[p]? =some r)(hk:r.kind=3)(ht:r.typ=τ.sm)(hx:TyAt l (p+1) ρ):TyAt l p (.f τ ρ):=by
 intro Γ v hv;cases v with
 | con nm σ=>obtain⟨r',h1,h2,_⟩:=hv;cases y7 h h1;rw[hk]at h2;cases h2
 | var i=>obtain⟨r',h1,h2,_⟩:=hv;cases y7 h h1;rw[hk]at h2;cases h2
 | abs σ x=>
  obtain⟨⟨r',h1,h2,h3,_⟩,h4⟩:=hv;cases y7 h h1;show (tyv (σ::Γ) x).map (Ts.f σ)=_;rw[hx _ _ h4,Ts.sm_inj (h3.symm.trans ht)];rfl
 | app x y=>obtain⟨⟨r',h1,h2,_⟩,_⟩:=hv;cases y7 h h1;rw[hk]at h2;cases h2
theorem TyAt.app{l:List Rw}{p q:Nat}{r:Rw}{a ρ:Ts}(h:l[p]? =some r)(hk:r.kind=4)(hq:r.kids= [((p+1:Nat):Int),(q:Int)])(hx:TyAt l (p+1) (.f a ρ))(hy:TyAt l q a):TyAt l p ρ:=by
 intro Γ v hv;cases v with
 | con nm σ=>obtain⟨r',h1,h2,_⟩:=hv;cases y7 h h1;rw[hk]at h2;cases h2
 | var i=>obtain⟨r',h1,h2,_⟩:=hv;cases y7 h h1;rw[hk]at h2;cases h2
 | abs σ x=>obtain⟨⟨r',h1,h2,_⟩,_⟩:=hv;cases y7 h h1;rw[hk]at h2;cases h2
 | app x y=>
  obtain⟨⟨r',h1,_,h2⟩,h3,h4⟩:=hv;cases y7 h h1;rw[hq]at h2;simp only[List.cons.injEq,and_true,true_and]at h2;rw[show p+1+x.size=q by omega]at h4;simp only[tyv,hx _ _ h3,hy _ _ h4];rw[if_pos (Ts.eqb_iff.2 rfl)]
theorem ty_no{l:List Rw}{q:Nat}{r:Rw}{α β:Ts}{Γ:List Ts}{v:Tv}(hv:Kq l p Γ v)(h:l[p]? =some r)(hk:r.kind=4)(hq:r.kids= [((p+1:Nat):Int),(q:Int)])(hx:TyAt l (p+1) α)(hy:TyAt l q β)(hn:∀ ρ:Ts,α≠Ts.f β ρ):tyv Γ v=none:=by
 cases v with
 | con nm σ=>obtain⟨r',h1,h2,_⟩:=hv;cases y7 h h1;rw[hk]at h2;cases h2
 | var i=>obtain⟨r',h1,h2,_⟩:=hv;cases y7 h h1;rw[hk]at h2;cases h2
 | abs σ x=>obtain⟨⟨r',h1,h2,_⟩,_⟩:=hv;cases y7 h h1;rw[hk]at h2;cases h2
 | app x y=>
  obtain⟨⟨r',h1,_,h2⟩,h3,h4⟩:=hv;cases y7 h h1;rw[hq]at h2;simp only[List.cons.injEq,and_true,true_and]at h2;rw[show p+1+x.size=q by omega]at h4;simp only[tyv,hx _ _ h3,hy _ _ h4];cases α with
  | b t=>rfl
  | f a ρ=>
   by_cases e:a=β
   ·grind
   ·simp only[]
    rw[if_neg (fun k=>e (Ts.eqb_iff.1 k))]
abbrev cD(a:Tm)(b:Option Addr)(c:Nat)(d:Option Addr)(e:Nat):Array Value:=#[.int .i64 a.kind,.string a.name,.int .i64 a.index,.string a.type.base,.slice b a.type.args.length c,.slice d a.args.length e]
theorem own_top{xs:List Value}(h:Own w base e sz (some ⟨g,0,none⟩) m cap (xs++ys))(hx:xs.length=n*sz):w.rangeAt g (0+n*sz) ys:=fun i v hv=>by
 have hi:i<ys.length:=(aC.1 hv).1
 obtain⟨g',e,_,_,hc⟩:=h.cell (by intro e;rw[List.append_eq_nil_iff]at e;rw[e.2]at hi;simp at hi)
 cases e
 have:=hc (xs.length+i) v (by rw[List.getElem?_append_right oG];rw[Nat.add_sub_cancel_left];exact hv)
 rw[hx]at this
 rw[Nat.zero_add]
 exact this
theorem Blk.sub{xs:List Value}(h:Blk w b t cs)(hx:(cs.toList.drop o).take n=xs):w.rangeAt b o xs:=h.range (fun j v hj=>by
 subst hx
 rw[List.getElem?_take]at hj
 split at hj
 ·rw[List.getElem?_drop]at hj
  simpa using hj
 ·cases hj)
inductive StkS(w:World):List (Sm×Nat)->List Value->Prop
 | nil:StkS w [] []
 | snoc {l:List (Sm×Nat)} {vs:List Value} {s:Sm} {d:Nat} {A:Option Addr} {c:Nat} (h:StkS w l vs) (hs:SimsIn w A s.args):StkS w (l++[(s,d)]) (vs++[.string s.base,.slice A s.args.length c,.int .i64 d])
theorem StkS.len{l:List (Sm×Nat)}(h:StkS w l vs):vs.length=l.length*3:=by
 induction h with
 | nil=>rfl
 | snoc h hs ih=>simp only[List.length_append,ih,List.length_cons,List.length_nil];omega
theorem StkS.pop{l:List (Sm×Nat)}(h:StkS w l vs)(hl:0<l.length):∃ l' vs' s d A c,l=l'++[(s,d)]/\vs=vs'++[.string s.base,.slice A s.args.length c,.int .i64 (d:Nat)]/\StkS w l' vs'/\SimsIn w A s.args:=by
 cases h with
 | nil=>simp at hl
 | snoc h hs=>exact⟨_,_,_,_,_,_,rfl,rfl,h,hs⟩
inductive StkT(w:World):List (Tm×Nat×Nat)->List Value->Prop
 | nil:StkT w [] []
 | snoc {l:List (Tm×Nat×Nat)} {vs:List Value} {t:Tm} {d b:Nat} {A B:Option Addr} {c m:Nat} (h:StkT w l vs) (hs:SimsIn w A t.type.args) (ht:TmsIn w B t.args):StkT w (l++[(t,d,b)]) (vs++[.int .i64 t.kind,.string t.name,.int .i64 t.index,.string t.type.base,.slice A t.type.args.length c,.slice B t.args.length m,.int .i64 d,.int .i64 b])
theorem StkT.len{l:List (Tm×Nat×Nat)}(h:StkT w l vs):vs.length=l.length*8:=by
 induction h with
 | nil=>rfl
 | snoc h hs ht ih=>simp only[List.length_append,ih,List.length_cons,List.length_nil];omega
theorem StkT.pop{l:List (Tm×Nat×Nat)}(h:StkT w l vs)(hl:0<l.length):∃ l' vs' t d b A B c m,l=l'++[(t,d,b)]/\vs=vs'++[.int .i64 t.kind,.string t.name,.int .i64 t.index,.string t.type.base,.slice A t.type.args.length c,.slice B t.args.length m,.int .i64 (d:Nat),.int .i64 (b:Nat)]/\StkT w l' vs'/\SimsIn w A t.type.args/\TmsIn w B t.args:=by
 cases h with
 | nil=>simp at hl
 | snoc h hs ht=>exact⟨_,_,_,_,_,_,_,_,_,rfl,rfl,h,hs,ht⟩
theorem Iz{α:Type}(l:List α)(x:α):(l++[x]).reverse=x::l.reverse:=by simp
theorem Ts.kids_len(τ:Ts):τ.sm.args.length<=2:=by cases τ<;>simp[Ts.sm,Sm.args]
def Ts.kids:Ts->List Ts
 | .b _=>[]
 | .f x y=>[x,y]
theorem Ts.kids_sm(τ:Ts):τ.sm.args=τ.kids.map Ts.sm:=by cases τ<;>rfl
theorem Ts.kids_lt{τ x:Ts}(h:x∈τ.kids):x.size<τ.size:=by
 cases τ with
 | b t=>cases h
 | f a b=>
  simp only[Ts.kids,List.mem_cons,List.not_mem_nil,or_false]at h;rcases h with rfl|rfl<;>simp only[Ts.size]<;>omega
theorem Ts.ext{a b:Ts}(hb:a.sm.base=b.sm.base)(hk:a.kids=b.kids):a=b:=by
 cases a with
 | b s=>cases b with
  | b t=>cases s<;>cases t<;>first|rfl|(exfalso;revert hb;simp[Ts.sm,Sm.base,smE,smT])
  | f x y=>cases hk
 | f x y=>cases b with
  | b t=>cases hk
  | f u v=>simp only[Ts.kids,List.cons.injEq,and_true]at hk;rw[hk.1,hk.2]
theorem sims_kid{τ:Ts}(h:SimsIn w A τ.sm.args)(hk:k<τ.kids.length):∃ b o A' c,A=some ⟨b,o,none⟩/\b<w.heap.size/\w.rangeAt b (o+k*2) [Value.string (τ.kids[k]).sm.base,.slice A' (τ.kids[k]).sm.args.length c]/\SimsIn w A' (τ.kids[k]).sm.args:=by
 obtain⟨b,o,A',c,h1,h2,h3,h4⟩:=h.at_ (k:=k) (by rw[Ts.kids_sm,List.length_map];exact hk);have e:τ.sm.args[k]'(by rw[Ts.kids_sm,List.length_map];exact hk)=(τ.kids[k]).sm:=by simp only[Ts.kids_sm,List.getElem_map]
 rw[e]at h3 h4;exact⟨b,o,A',c,h1,h2,h3,h4⟩
theorem take_kid{a b:List Ts}{j:Nat}(h:a.take j=b.take j)(ha:j<a.length)(hb:j<b.length)(e:a[j]=b[j]):a.take (j+1)=b.take (j+1):=by
 rw[List.take_succ_eq_append_getElem ha,List.take_succ_eq_append_getElem hb,h,e]
section
section rules
variable {P:Program} {Q:Exit->Act->World->Prop} {n:Nw} {f:Fr} {w w':World} {ops:Array Oper} {rest:List Oper} {d:Nat} {ty:TypeId} {pos:String} {af:Array Edge} {x y z:Operand} {t t' e:TypeId}
theorem r_slF{dst:Option Tmp}{gd:Option (Nat×Bool)}{h:Nat}(hu:P.underlying t=some (.slice e))(hs:(P.info? e).map (·.size)=some sz)(hx:ev n f x= .slice A m c)(hy:ev n f y= .int .i64 (h:Int))(hz:ev n f z= .int .i64 (h:Int))(hh:h<=c):
  RV P n f w ⟨dst,.slice t x none (some y) (some z),ty,pos,af,gd⟩ (.slice A h h) w:=by
 cases hq:P.info? e with
 | none=>simp[hq]at hs
 | some i=>
  have h1:(Instr.sliceBound (.int .i64 (h:Int)) h .slice3C).run P w= .ok h w:=by simp[Instr.sliceBound,asIntOf]
  have h2:(Instr.sliceBound (.int .i64 (h:Int)) c .slice3Acap).run P w= .ok h w:=by simp[Instr.sliceBound,asIntOf,hh]
  have h3:(Instr.sliceBound (.int .i64 (h:Int)) h .slice3B).run P w= .ok h w:=by simp[Instr.sliceBound,asIntOf]
  cases A<;>simp[RV,execOp,hx,hy,hz,Instr.sliceAt,run_underlying hu,Instr.slice,Instr.sliceBounds,h1,h2,h3,sizeOf,typeInfo,hq,FZ]
theorem wl_appFl{zv:Value}{a5:Nat}{olds:List Value}(hu:P.underlying t=some (.slice e))(hi:(P.info? e).map (fun i=>(i.zero,i.size,i.bytes))=some (some zv,sz,a5))(hzs:zv.cells.size=sz)(hsz:0<sz)
  (hlo:olds.length=k*sz) (a3:∀ b',A=some b'->∀ j u,olds[j]? =some u->w.cell? (b'.add j)=some u) (hno:A=none->k=0) (hb:Blk w b e cs) (hx:ev n f x= .slice A k k) (hy:ev n f y= .slice (some ⟨b,0,none⟩) m c) (hl:cs.size=m*sz) (h1:cs.toList.all (·.oneCell')=true) (hm:0<m) (h63:k+m<=9223372036854775807) (a2:(k+m)*a5<=140737488355328)
  (K:∀ g a1 w1,Own w1 w.heap.size e sz (some ⟨g,0,none⟩) (k+m) a1 (olds++cs.toList)->Same [] w w1->w.heap.size<=g->WL P ops Q rest n (upd f d (.slice (some ⟨g,0,none⟩) (k+m) a1)) w1):
  WL P ops Q (⟨some d,.call { callee:= .builtin .append,args:=#[x,y],argTypes:=#[t,t] },ty,pos,af,none⟩::rest) n f w:=by
 cases A with
 | none=>
  obtain rfl:=hno rfl;obtain rfl:olds= []:=List.eq_nil_of_length_eq_zero (by simpa using hlo);refine vV hu hi hzs hsz (Own.nil w w.heap.size e sz) hb hx hy hl h1 hm h63 a2 (ai _) (fun g a1 w1 ho hs hg=>K g a1 w1 ho hs ?_);rcases hg with h|h
  ·cases h
  ·exact h
 | some b'=>
  obtain⟨i,hq,a4⟩:=aT.1 hi;simp only[Prod.mk.injEq]at a4;obtain⟨v',w1,hr,ho,hg⟩:=run_append_arg_grows (P:=P) w t ty e i zv sz a5 hu hq a4.1 a4.2.1 a4.2.2 hzs hsz b' k k olds hlo (a3 b' rfl) ⟨b,0,none⟩ m c cs.toList (by simpa using hl) (World.news_of_block hb) oG h63 a2;have hv:∃ g a1,v'= .slice (some ⟨g,0,none⟩) (k+m) a1/\w.heap.size<=g:=by
   rcases ho.2 with ⟨_,h0⟩|⟨g,a1,_,rfl,hg',_⟩
   ·omega
   ·exact⟨g,a1,rfl,hg'⟩
  obtain⟨g,a1,rfl,hgl⟩:=hv;refine wl (v:= .slice (some ⟨g,0,none⟩) (k+m) a1) (w':=w1) ?_ (K g a1 w1 ho (Nz (A:=none) (k:=0) (cap:=0) hg) hgl);simp only[RV,execOp,resolve,invoke,builtin,Sem.run_bind,Sem.run_pure,Result.andThen_ok,List.map_toArray,List.map_cons,List.map_nil,hx,hy,hr]
end rules
inductive SimR(w:World):List Sm->List Value->Prop
 | nil:SimR w [] []
 | snoc {l:List Sm} {vs:List Value} {s:Sm} {A:Option Addr} {c:Nat} (h:SimR w l vs) (hs:SimsIn w A s.args):SimR w (l++[s]) (vs++[.string s.base,.slice A s.args.length c])
theorem SimR.len{l:List Sm}(h:SimR w l vs):vs.length=l.length*2:=by
 induction h with
 | nil=>rfl
 | snoc h hs ih=>simp only[List.length_append,ih,List.length_cons,List.length_nil];omega
theorem SimR.mono{w w':World}{l:List Sm}{vs:List Value}(h:SimR w l vs)(hb:Bel w w'):SimR w' l vs:=by
 induction h with
 | nil=>exact .nil
 | snoc h hs ih=>exact .snoc ih (hs.mono hb)
theorem SimR.at_{l:List Sm}(h:SimR w l vs):∀ {k:Nat} (hk:k<l.length),∃ A c,vs[k*2]? =some (.string (l[k]).base)/\vs[k*2+1]? =some (.slice A (l[k]).args.length c)/\SimsIn w A (l[k]).args:=by
 induction h with
 | nil=>intro k hk;simp at hk
 | @snoc l vs s A c h hs ih=>
  intro k hk;have hl:=h.len;by_cases e:k<l.length
  ·grind
  ·have ek:k=l.length:=by rw[List.length_append]at hk;simp at hk;omega
   subst ek;rw[List.getElem_append_right (Nat.le_refl _)];simp only[Nat.sub_self,List.getElem_cons_zero];refine⟨A,c,?_,?_,hs⟩
   ·grind
   ·grind
theorem SimsIn.row{l:List Sm}(h:SimsIn w (some ⟨b,o,none⟩) l):∃ vs,SimR w l vs/\∀ j u,vs[j]? =some u->w.cell? ⟨b,o+j,none⟩=some u:=by
 have key:∀ k,k<=l.length->∃ vs,SimR w (l.take k) vs/\∀ j u,vs[j]? =some u->w.cell? ⟨b,o+j,none⟩=some u:=by
  intro k
  induction k with
  | zero=>exact fun _=>⟨[],.nil,fun j u hj=>by simp at hj⟩
  | succ k ih=>
   intro hk;obtain⟨vs,h1,h2⟩:=ih oG;obtain⟨b',o',A',c',e,_,hr,hs⟩:=h.at_ (k:=k) oG;cases e;have hl:=h1.len;rw[List.length_take,Nat.min_eq_left oG]at hl;refine⟨vs++[.string (l[k]).base,.slice A' (l[k]).args.length c'],?_,fun j u hj=>?_⟩
   ·rw[XJ l oG];exact .snoc h1 hs
   ·by_cases e:j<vs.length
    ·grind
    ·rw[List.getElem?_append_right oG]at hj
     have:=hr (j-vs.length) u hj
     grind
 obtain⟨vs,h1,h2⟩:=key l.length (ai _)
 grind
theorem sims_own{l:List Sm}(ho:Own w base 31 2 (some ⟨g,0,none⟩) n cap vs)(h:SimR w l vs)(hn:l.length=n)(hp:0<n):SimsIn w (some ⟨g,0,none⟩) l:=by
 have hl:=h.len;obtain⟨g',e,_,hg,hc⟩:=ho.cell (by intro e;rw[e]at hl;simp at hl;omega);cases e;refine .more (by have:=ho.max;unfold vX;omega) hg (fun k hk=>?_);obtain⟨A,c,h1,h2,h3⟩:=h.at_ hk;rw[show l[k]=Sm.mk (l[k]).base (l[k]).args from Sm.eta _];refine SimAt.mk (c:=c) hg (fun i v hv=>?_) h3
 grind
def CtxIn(w:World)(C:Option Addr)(Γ:List Ts):Prop:=SimsIn w C (Γ.reverse.map Ts.sm)/\(C=none->Γ= [])
theorem CtxIn.mono{w w':World}{C:Option Addr}{Γ:List Ts}(h:CtxIn w C Γ)(hb:Bel w w'):CtxIn w' C Γ:=⟨h.1.mono hb,h.2⟩
theorem CtxIn.nil(w:World):CtxIn w none []:=⟨.nil,fun _=>rfl⟩
theorem CtxIn.at_{w:World}{C:Option Addr}{Γ:List Ts}(h:CtxIn w C Γ){i:Nat}{τ:Ts}(hi:Γ[i]? =some τ):∃ b o A c,C=some ⟨b,o,none⟩/\b<w.heap.size/\w.rangeAt b (o+(Γ.length-1-i)*2) [.string τ.sm.base,.slice A τ.sm.args.length c]/\SimsIn w A τ.sm.args:=by
 obtain⟨hl,rfl⟩:=aC.1 hi;obtain⟨b,o,A,c,h1,h2,h3,h4⟩:=h.1.at_ (k:=Γ.length-1-i) (by rw[List.length_map,List.length_reverse];omega)
 grind
theorem CtxIn.row{w:World}{C:Option Addr}{Γ:List Ts}(h:CtxIn w C Γ):∃ vs,SimR w (Γ.reverse.map Ts.sm) vs/\vs.length=Γ.length*2/\(∀ b',C=some b'->∀ j u,vs[j]? =some u->w.cell? (b'.add j)=some u)/\(C=none->Γ.length=0):=by
 have hn:C=none->Γ.length=0:=fun e=>by rw[h.2 e];rfl
 cases C with
 | none=>
  have:=h.2 rfl;subst this;exact⟨[],.nil,rfl,fun b' e=>(by cases e),hn⟩
 | some a=>
  cases hq:Γ with
  | nil=>exact⟨[],.nil,rfl,fun b' e j u hj=>by simp at hj,fun e=>by cases e⟩
  | cons τ Γ'=>
   have h1:=h.1;rw[hq]at h1
   generalize el:List.map Ts.sm (τ::Γ').reverse=l at h1
   cases h1 with
   | nil=>rw[List.map_eq_nil_iff]at el;simp at el
   | @more b o _ hl hb hx=>
    obtain⟨vs,h2,h3⟩:=SimsIn.row (.more hl hb hx);refine⟨vs,h2,by rw[h2.len,<- el,List.length_map,List.length_reverse],fun b' e j u hj=>?_,fun e=>by cases e⟩;cases e;rw[Addr.add_mid];exact h3 j u hj
theorem ctx_app{Γ:List Ts}{τ:Ts}(ho:Own w base 31 2 (some ⟨g,0,none⟩) n cap (vs++[.string τ.sm.base,.slice A τ.sm.args.length c]))(h:SimR w (Γ.reverse.map Ts.sm) vs)(hs:SimsIn w A τ.sm.args)(hn:Γ.length+1=n):CtxIn w (some ⟨g,0,none⟩) (τ::Γ):=by
 refine⟨?_,fun e=>by cases e⟩;have e:(τ::Γ).reverse.map Ts.sm=Γ.reverse.map Ts.sm++[τ.sm]:=by simp
 rw[e];exact sims_own ho (.snoc h hs) (by simp;exact hn) oG
theorem Fv{v:Value}(hs:Same X w w')(hb:b<w.heap.size)(hx:b∉X)(h:w.cell? ⟨b,o,none⟩=some v):w'.cell? ⟨b,o,none⟩=some v:=by
 have e:=hs.blk b hb hx;unfold World.cell? at h ⊢;simp only[e];exact h
theorem Ej{w w':World}{b:Nat}(hb:Blk w b 31 #[.string ⟨#[]⟩,.slice none 0 0])(hs:Same [b] w w'):∀(τ:Ts) {A:Option Addr},SimsIn w A τ.sm.args->SimsIn w' A τ.sm.args
 | .b t,A,h=>by cases t<;>exact .nil
 | .f x y,A,h=>by
  have far:∀(τ:Ts) (o c:Nat) (A':Option Addr),w.rangeAt b o [.string τ.sm.base,.slice A' τ.sm.args.length c]->False:=fun τ o c A' hr=>by
   have h0:=hr 0 _ rfl
   have h1:=hr 1 _ rfl
   rw[Nat.add_zero,cell_of_row w b o _ _ _ hb]at h0
   rw[cell_of_row w b (o+1) _ _ _ hb]at h1
   match o,h0,h1 with
   | 0,h0,h1=>
    simp only[List.getElem?_toArray,List.getElem?_cons_zero,Option.some.injEq,Value.string.injEq,List.getElem?_cons_succ,Value.slice.injEq,Nat.zero_add]at h0 h1
    obtain⟨p,q,rfl⟩:∃ p q,τ= .f p q:=by
     cases τ with
     | b t=>exfalso;revert h0;cases t<;>decide
     | f p q=>exact⟨p,q,rfl⟩
    have h2:0=2:=h1.2.1;cases h2
   | 1,h0,_=>simp at h0
   | o+2,h0,_=>simp at h0
  obtain⟨b1,o1,A0,c0,rfl,hl,hr0,hs0⟩:=h.at_ (k:=0) (by simp[Ts.sm,Sm.args]);obtain⟨_,_,A1,c1,e1,_,hr1,hs1⟩:=h.at_ (k:=1) (by simp[Ts.sm,Sm.args]);cases e1;have hne:b1∉[b]:=fun hm=>by
   obtain rfl:=ar.1 hm;exact far x _ _ _ hr0
  refine .more (show 2<=vX by decide) (nLL hl hs.size) (fun k hk=>?_)
  match k,hk with
  | 0,_=>
   show SimAt w' b1 (o1+0*2) x.sm;rw[Sm.eta x.sm];exact SimAt.mk (nLL hl hs.size) (fun i v hv=>Fv hs hl hne (hr0 i v hv)) (Ej hb hs x hs0)
  | 1,_=>
   show SimAt w' b1 (o1+1*2) y.sm;rw[Sm.eta y.sm];exact SimAt.mk (nLL hl hs.size) (fun i v hv=>Fv hs hl hne (hr1 i v hv)) (Ej hb hs y hs1)
end
section
section monoi
variable {P:Program} {Q:Exit->Act->World->Prop} {n:Nw} {f:Fr} {w:World}
def ivB(l:List Oper)(m:Nat)(ow:Nat->Nat):Bool:=(List.range m).all (fun i=>decide (ow i<m)&&Nat.beq (ow (ow i)) (ow i)&&(Nat.beq (ow i) i||(match l[i]? with|some o=>(kw o).any (fun j=>Nat.beq (ow j) (ow i))|none=>false)))
def monoF(l:List Oper)(m:Nat)(S fl:List Nat):Bool:=J5 l m S (·.dst.isSome)&&(List.range l.length).all (fun i=>decide (i<m)||(match l[i]? with
 | some o=>(List.range m).all (fun j=>fl.contains j||(kw o).contains j)
 | none=>false))
def subs:List Nat->List (List Nat)
 | []=>[[]]
 | a::r=>subs r++(subs r).map (a :: ·)
theorem D9(p:Nat->Bool):∀ F:List Nat,F.filter p∈subs F
 | []=>by simp[subs]
 | a::r=>by
  have ih:=D9 p r
  cases h:p a with
  | true=>rw[List.filter_cons_of_pos h];exact List.mem_append_right _ (List.mem_map_of_mem ih)
  | false=>rw[List.filter_cons_of_neg (by simp[h])];exact List.mem_append_left _ ih
def FinAll(p:List Nat->Prop):List (List Nat)->Prop
 | []=>True
 | x::r=>p x/\FinAll p r
theorem FinAll.get{p:List Nat->Prop}:∀ {xs:List (List Nat)},FinAll p xs->∀ x∈xs,p x
 | _::_,h,x,hx=>by
  rcases av.1 hx with rfl|hx
  ·exact h.1
  ·exact FinAll.get h.2 x hx
def lstP(k m:Nat)(U:List Nat):Array Bool:=Array.ofFn (n:=k) (fun i=>decide (i.val<m) && !U.contains i.val)
theorem IZ{k':Nat}(h:k=k')(K:WA P l Q (x+k') listed n f w):WA P l Q (x+k) listed n f w:=by rw[h];exact K
theorem yz(t:Nat)(v:Value)(h:ev n f (.tmp t)=v)(hv:v≠undef)(K:WA P l Q x listed n (upd f t v) w):WA P l Q x listed n f w:=by
 rw[o7 (K6 h hv)]at K;exact K
theorem Dz{listed':Array Bool}(h:listed=listed')(K:WA P l Q x listed' n f w):WA P l Q x listed n f w:=by rw[h];exact K
theorem M5{α:Type}{val:Nat->α}{v:α}(h:k≠i):kQ val i v k=val k:=if_neg h
theorem WZ{α:Type}{val:Nat->α}{v:α}:kQ val i v i=v:=if_pos rfl
theorem SW{id:Nat}(m:Nat)(S fl:List Nat)(ow:Nat->Nat)(R:Nat->Value->Nat->Nat->World->Prop)(hm:P.follows .mixedOrders=true)(hB:monoF l m S fl=true)(hI:ivB l m ow=true)(hF:(List.range m).filter (fun i=>fl.contains i)=fl)
  (hst:∀ i v a b w1 w2,R i v a b w1->b<=w1.heap.size->Same [] w1 w2->R i v a b w2)
  (step:∀ i o,i<m->l[i]? =some o->∀ g w' (lo hi:Nat->Nat),Same [] w w'->(∀ j∈kw o,R j (vl l g j) (lo (ow j)) (hi (ow j)) w'/\hi (ow j)<=w'.heap.size)->(∀ j k,j∈kw o->k∈kw o->ow j≠ow k->hi (ow j)<=lo (ow k)\/hi (ow k)<=lo (ow j))->(Region.wanted o (yielded l.toArray (AF n (ovr S g f)).tmps)=true->OS P n (ovr S g f) w' o (fun v w''=>Same [] w' w''/\R i v (bif Nat.beq (ow i) i then w'.heap.size else lo (ow i)) (bif Nat.beq (ow i) i then w''.heap.size else hi (ow i)) w''))/\(Region.wanted o (yielded l.toArray (AF n (ovr S g f)).tmps)=false->R i undef (bif Nat.beq (ow i) i then w'.heap.size else lo (ow i)) (bif Nat.beq (ow i) i then w'.heap.size else hi (ow i)) w'))
  (fin:FinAll (fun U=>∀ x g w' (lo hi:Nat->Nat),Same [] w w'->(∀ i,i<m->U.contains i=false->R i (vl l g i) (lo (ow i)) (hi (ow i)) w'/\hi (ow i)<=w'.heap.size)->(∀ i j,i<m->j<m->U.contains i=false->U.contains j=false->ow i≠ow j->hi (ow i)<=lo (ow j)\/hi (ow j)<=lo (ow i))->WA P l Q (x+(U.length+(l.length-m))) (lstP l.length m U) n (ovr S g f) w') (subs fl)):WC P (.region id l.toArray true) Q n f w:=by
 obtain⟨hB,hl⟩:=aJ.1 hB;have a5:=(O0 hB).1;have a2:∀ i,i<m->ow i<m/\ow (ow i)=ow i/\(ow i=i\/∀ o,l[i]? =some o->∃ j∈kw o,ow j=ow i):=by
  intro i hi;have h:=aF.1 hI i (az.2 hi);simp only[Bool.and_eq_true,Bool.or_eq_true,decide_eq_true_eq]at h;obtain⟨⟨h1,h2⟩,h3⟩:=h;refine⟨h1,aU h2,?_⟩;rcases h3 with h3|h3
  ·exact .inl (aU h3)
  ·refine .inr (fun o ho=>?_)
   rw[ho]at h3;obtain⟨j,hj,hb⟩:=List.any_eq_true.1 h3;exact⟨j,hj,aU hb⟩
 let I:(Nat->Bool)->(Nat->Value)->World->Prop:=fun d val w'=>Same [] w w'/\∃ lo hi:Nat->Nat,(∀ i,i<m->d i=true->d (ow i)=true/\R i (val i) (lo (ow i)) (hi (ow i)) w'/\hi (ow i)<=w'.heap.size)/\∀ i j,i<m->j<m->i≠j->d i=true->d j=true->ow i=i->ow j=j->hi i<=lo j\/hi j<=lo i
 refine any_m m S fl I hm hB (fun listed i o hi hil ho _ hd a ha hf=>?_) (fun val w' hs=>⟨hs,fun _=>0,fun _=>0,fun _ _ h=>(aQ h).elim,fun _ _ _ _ _ h=>(aQ h).elim⟩) (fun i o d g w' hi' ho hds hn hd _ ad=>?_) (fun listed g w' hs _ ht hbd ad a4 hc=>?_)
 ·have h1:=aF.1 hl i (az.2 hil)
  simp only[decide_eq_false hi,Bool.false_or,ho]at h1;have h2:=aF.1 h1 a (az.2 ha);rw[hf,Bool.false_or]at h2;exact hd a (by simpa using h2)
 ·obtain⟨a8,lo,hi,hR,a3⟩:=ad
  have h:=step i o hi' ho g w' lo hi a8 (fun j hj=>(hR j (hd j hj).1 (hd j hj).2).2) (fun j k hj hk a9=>a3 (ow j) (ow k) (a2 j (hd j hj).1).1 (a2 k (hd k hk).1).1 a9 (hR j (hd j hj).1 (hd j hj).2).1 (hR k (hd k hk).1 (hd k hk).2).1 (a2 j (hd j hj).1).2.1 (a2 k (hd k hk).1).2.1);have nx:∀ v w'',Same [] w' w''/\R i v (bif Nat.beq (ow i) i then w'.heap.size else lo (ow i)) (bif Nat.beq (ow i) i then w''.heap.size else hi (ow i)) w''->∀ val,(∀ k,k<m->val k=kQ (vl l g) i (rv o v) k)->I (kQ d i true) val w'':=fun v w'' ⟨h1,h2⟩ val hv=>by
   rw[Ev hds]at hv;refine⟨a8.trans h1,kQ lo i w'.heap.size,kQ hi i w''.heap.size,X2 (p:=fun j x=>d (ow j)=true/\R j x (lo (ow j)) (hi (ow j)) w'/\hi (ow j)<=w'.heap.size) (q:=fun j x=>kQ d i true (ow j)=true/\R j x (kQ lo i w'.heap.size (ow j)) (kQ hi i w''.heap.size (ow j)) w''/\kQ hi i w''.heap.size (ow j)<=w''.heap.size) hv hR (fun j x _ ⟨k1,k2,k3⟩=>?_) ?_,Bk (val:=fun k=>(lo k,hi k)) (val':=fun k=>(kQ lo i w'.heap.size k,kQ hi i w''.heap.size k)) (v:=(w'.heap.size,w''.heap.size)) (D:=fun a x b y=>ow a=a->ow b=b->x.2<=y.1\/y.2<=x.1) (fun k _=>by simp only[kQ];split<;>rfl) a3 (fun j hj hdj=>?_)⟩
   ·have e:ow j≠i:=fun e=>by rw[e,hn]at k1;cases k1
    rw[M5 e,M5 e,M5 e];exact⟨k1,hst _ _ _ _ _ _ k2 k3 h1,nLT k3 h1.size⟩
   ·by_cases e:ow i=i
    ·simp only[e,Nat.beq_refl,cond_true]at h2
     rw[e,WZ,WZ,WZ];exact⟨rfl,h2,ai _⟩
    ·have hb:Nat.beq (ow i) i=false:=by
      cases hb:Nat.beq (ow i) i
      ·rfl
      ·exact absurd (aU hb) e
     simp only[hb,cond_false]at h2;rw[M5 e,M5 e,M5 e];obtain⟨k,hk,hke⟩:=(a2 i hi').2.2.resolve_left e o ho;obtain⟨k1,_,k3⟩:=hR k (hd k hk).1 (hd k hk).2;rw[hke]at k1 k3;exact⟨k1,h2,nLT k3 h1.size⟩
   ·have k3:=(hR j hj hdj).2.2
    exact⟨fun _ e=>by rw[e]at k3;exact .inr k3,fun e _=>by rw[e]at k3;exact .inl k3⟩
  exact⟨fun hw=>Vk (h.1 hw) nx,fun hw=>nx undef w' ⟨Same.refl _ _,h.2 hw⟩⟩
 ·obtain⟨a8,lo,hi,hR,a3⟩:=ad
  unfold unl at hc;rw[cnt_tail a5 (fun t h=>by rw[ht t h];rfl)]at hc;have hU:=fin.get _ (D9 (fun i=>!listed.getD i false) fl)
  generalize hUe:fl.filter (fun i=>!listed.getD i false)=U at hU
  have a1:∀ i,i<m->(U.contains i=false↔listed.getD i false=true):=fun i hi=>by
   cases hl':listed.getD i false with
   | true=>
    simp only[iff_true];cases hq:U.contains i with
    | false=>rfl
    | true=>
     have h1:i∈U:=by simpa using hq
     rw[<- hUe,List.mem_filter,hl']at h1;exact absurd h1.2 (by simp)
   | false=>
    simp only[Bool.false_eq_true,iff_false,Bool.not_eq_false];have h1:fl.contains i=true:=by
     cases hq:fl.contains i with
     | true=>rfl
     | false=>rw[hbd i hi hq]at hl';cases hl'
    have h2:i∈U:=by
     rw[<- hUe,List.mem_filter,hl'];exact⟨by simpa using h1,rfl⟩
    simpa using h2
  have ab:listed=lstP l.length m U:=by
   apply Array.ext
   ·simp[lstP,hs]
   ·intro i h1 h2
    have h3:listed[i]=listed.getD i false:=by simp[h1]
    simp only[lstP,Array.getElem_ofFn];rw[h3];by_cases ac:i<m
    ·have h4:=a1 i ac
     cases hl':listed.getD i false with
     | true=>rw[h4.2 hl'];simp[ac]
     | false=>
      have h5:U.contains i=true:=by
       cases hq:U.contains i with
       | true=>rfl
       | false=>rw[h4.1 hq]at hl';cases hl'
      rw[h5];simp
    ·rw[ht i oG];simp[ac]
  have a5:U.length<=(List.range m).countP (fun i=>!listed.getD i false):=by
   rw[<- hUe,<- hF,List.filter_filter,<- List.countP_eq_length_filter]
   exact List.countP_mono_left (fun x _ hx=>by
    simp only[Bool.and_eq_true]at hx
    exact hx.1)
  have hW:=hU (a4-(U.length+(l.length-m))) g w' lo hi a8 (fun i hi h=>(hR i hi ((a1 i hi).1 h)).2) (fun i j hi hj h1 h2 a9=>a3 (ow i) (ow j) (a2 i hi).1 (a2 j hj).1 a9 (hR i hi ((a1 i hi).1 h1)).1 (hR j hj ((a1 j hj).1 h2)).1 (a2 i hi).2.1 (a2 j hj).2.1);rw[show a4-(U.length+(l.length-m))+(U.length+(l.length-m))=a4 by omega,<- ab]at hW;unfold WA at hW;exact hW
end monoi
def Kept(lo hi:Nat)(w:World)(p:World->Prop):Prop:=hi<=w.heap.size/\∀ w2:World,hi<=w2.heap.size->(∀ b,lo<=b->b<hi->w2.heap[b]? =w.heap[b]?)->p w2
theorem Kept.now{p:World->Prop}(h:Kept lo hi w p):p w:=h.2 w h.1 (fun _ _ _=>rfl)
theorem Kept.tr{p:World->Prop}(h:Kept lo hi w p)(hs:Same X w w')(hx:∀ g∈X,g<lo\/hi<=g):Kept lo hi w' p:=
 ⟨nLT h.1 hs.size,fun w2 h2 hb=>h.2 w2 h2 (fun b h3 h4=>(hb b h3 h4).trans (hs.blk b (nLL h4 h.1) (fun hX=>by rcases hx b hX with h5|h5<;>omega)))⟩
theorem Kept.tr0{p:World->Prop}(h:Kept lo hi w p)(hs:Same [] w w'):Kept lo hi w' p:=h.tr hs (by simp)
theorem Kept.tr1{p:World->Prop}(h:Kept lo hi w p)(hs:Same [b] w w')(hx:b<lo\/hi<=b):Kept lo hi w' p:=h.tr hs (fun g hg=>by rw[List.mem_singleton.1 hg];exact hx)
theorem Kept.imp{p q:World->Prop}(h:Kept lo hi w p)(k:∀ w2,p w2->q w2):Kept lo hi w q:=⟨h.1,fun w2 h2 hb=>k w2 (h.2 w2 h2 hb)⟩
end
def iV(xs:List Int):List Value:=xs.map (Value.int .i64)
theorem iV_len(xs:List Int):(iV xs).length=xs.length:=by simp[iV]
theorem IntsIn.news(h:IntsIn w A xs):0<xs.length->∃ b o',A=some ⟨b,o',none⟩/\∀ j u,(iV xs)[j]? =some u->w.cell? ⟨b,o'+j,none⟩=some u:=fun hm=>by
 obtain⟨b,o,e,_,hc⟩:=h.2 (by rintro rfl;simp at hm)
 refine⟨b,o,e,fun j u hj=>?_⟩
 simp only[iV,List.getElem?_map,Option.map_eq_some_iff]at hj
 obtain⟨x,hx,rfl⟩:=hj
 obtain⟨hk,rfl⟩:=aC.1 hx
 simpa using hc j hk
def MatIn(w:World)(A:Option Addr)(L:List (List Int)):Prop:=
 L.length<=vX/\(L≠[]->∃ b o,A=some ⟨b,o,none⟩/\b<w.heap.size/\∀ k (hk:k<L.length),∃ A' c,w.cell? ⟨b,o+k*1,none⟩=some (.slice A' (L[k]).length c)/\IntsIn w A' L[k])
theorem MatIn.mono{w w':World}{A:Option Addr}{L:List (List Int)}(h:MatIn w A L)(hb:Bel w w'):MatIn w' A L:=
 ⟨h.1,fun hn=>by
  obtain⟨b,o,e,hl,hc⟩:=h.2 hn
  refine⟨b,o,e,nLL hl hb.size,fun k hk=>?_⟩
  obtain⟨A',c,h1,h2⟩:=hc k hk
  exact⟨A',c,hb.cell hl h1,h2.mono hb⟩⟩
theorem MatIn.at_{L:List (List Int)}(h:MatIn w A L)(hb:Bel w w')(hk:k<L.length):
  ∃ b o A' c,A=some ⟨b,o,none⟩/\w'.cell? ⟨b,o+k*1,none⟩=some (.slice A' (L[k]).length c)/\IntsIn w A' L[k]:=by
 obtain⟨b,o,e,hl,hc⟩:=h.2 (by rintro rfl;simp at hk);obtain⟨A',c,h1,h2⟩:=hc k hk;exact⟨b,o,A',c,e,hb.cell hl h1,h2⟩
section
theorem Xv{t:TypeId}{xs:List Value}(h:Own w base e sz A k c xs)(hb:Blk w b t cs)(hne:e≠t):∀ g∈aL A,g≠b:=fun g hg e1=>by
 obtain⟨c2,h2⟩:=h.typ g hg
 grind[jz]
def fnd(l:List Ty)(s:ByteArray):Int:=match l.findIdx? (fun t=>decide (t.name=s))with
 | some k=>(k:Int)
 | none=>-1
def ats(l:List Ty):List ByteArray->Option (List Int)
 | []=>some []
 | x::xs=>if fnd l x<0 then none else (ats l xs).map (fun r=>fnd l x::r)
def PrIn(lo hi:Nat)(w:World)(A:Option Addr)(xs:List Int):Prop:=xs.length<=vX/\(xs≠[]->∃ g cs,A=some ⟨g,0,none⟩/\lo<=g/\g<hi/\Blk w g 3 cs/\cs.toList.take xs.length=iV xs)
theorem PrIn.tr{lo hi:Nat}{w w':World}{A:Option Addr}{xs:List Int}{X:List Nat}(h:PrIn lo hi w A xs)(hs:Same X w w')(hx:∀ g∈X,hi<=g\/∃ cs t,Blk w g t cs/\t≠3):PrIn lo hi w' A xs:=
 ⟨h.1,fun hn=>by
  obtain⟨g,cs,e,hlo,hl,hb,ht⟩:=h.2 hn
  refine⟨g,cs,e,hlo,hl,hb.tr hs (fun hm=>?_),ht⟩
  rcases hx g hm with h1|⟨cs2,t,hb2,hne⟩
  ·omega
  ·exact hne (jz hb2 hb)⟩
theorem PrIn.up{hi':Nat}(h:PrIn lo hi w A xs)(hl:hi<=hi'):PrIn lo hi' w A xs:=
 ⟨h.1,fun hn=>by
  obtain⟨g,cs,e,hlo,hg,hb,ht⟩:=h.2 hn
  exact⟨g,cs,e,hlo,by omega,hb,ht⟩⟩
theorem PrIn.low{lo':Nat}(h:PrIn lo hi w A xs)(hl:lo'<=lo):PrIn lo' hi w A xs:=
 ⟨h.1,fun hn=>by
  obtain⟨g,cs,e,hlo,hg,hb,ht⟩:=h.2 hn
  exact⟨g,cs,e,by omega,hg,hb,ht⟩⟩
theorem PrIn.fr(h:PrIn lo hi w A xs)(hf:FrSame lo w w'):PrIn lo hi w' A xs:=
 ⟨h.1,fun hn=>by
  obtain⟨g,cs,e,hlo,hg,hb,ht⟩:=h.2 hn
  exact⟨g,cs,e,hlo,hg,hf.at_ hb hlo,ht⟩⟩
theorem own_pr(h:Own w base 3 1 A k cap (iV xs)):PrIn base w.heap.size w A xs:=by
 have h1:=h.len;have h2:=h.max;rw[iV_len,Nat.mul_one]at h1;refine⟨by unfold vX;omega,fun hn=>?_⟩;have hp:=List.length_pos_iff.2 hn;obtain⟨g,cur,e,hlo,hb,_,_,ht⟩:=h.whole oG;rw[Nat.mul_one,<- h1]at ht;exact⟨g,cur,e,hlo,hb.lt,hb,ht⟩
def RowT(lo hi:Nat)(w:World)(l:List Ty)(vs:List Value):Prop:=vs.length=l.length*2/\∀ k (hk:k<l.length),∃ A c,vs[k*2]? =some (.string (l[k]).name)/\vs[k*2+1]? =some (.slice A (l[k]).par.length c)/\PrIn lo hi w A (l[k]).par
theorem RowT.nil(lo hi:Nat)(w:World):RowT lo hi w [] []:=⟨rfl,fun k hk=>by simp at hk⟩
theorem RowT.tr{lo hi:Nat}{w w':World}{l:List Ty}{vs:List Value}{X:List Nat}(h:RowT lo hi w l vs)(hs:Same X w w')(hx:∀ g∈X,hi<=g\/∃ cs t,Blk w g t cs/\t≠3):RowT lo hi w' l vs:=
 ⟨h.1,fun k hk=>by obtain⟨A,c,e1,e2,hp⟩:=h.2 k hk;exact⟨A,c,e1,e2,hp.tr hs hx⟩⟩
theorem RowT.up{lo hi hi':Nat}{w:World}{l:List Ty}{vs:List Value}(h:RowT lo hi w l vs)(hl:hi<=hi'):RowT lo hi' w l vs:=
 ⟨h.1,fun k hk=>by obtain⟨A,c,e1,e2,hp⟩:=h.2 k hk;exact⟨A,c,e1,e2,hp.up hl⟩⟩
theorem RowT.fr{lo hi:Nat}{w w':World}{l:List Ty}{vs:List Value}(h:RowT lo hi w l vs)(hf:FrSame lo w w'):RowT lo hi w' l vs:=
 ⟨h.1,fun k hk=>by obtain⟨A,c,e1,e2,hp⟩:=h.2 k hk;exact⟨A,c,e1,e2,hp.fr hf⟩⟩
theorem RowT.snoc{lo hi:Nat}{w:World}{l:List Ty}{vs:List Value}{s:ByteArray}{xs:List Int}{A:Option Addr}{c:Nat}(h:RowT lo hi w l vs)(hp:PrIn lo hi w A xs):RowT lo hi w (l++[⟨s,xs⟩]) (vs++[.string s,.slice A xs.length c]):=by
 have h1:=h.1;refine⟨by simp[h1];omega,fun k hk=>?_⟩;by_cases e:k<l.length
 ·obtain⟨A2,c2,e1,e2,hp2⟩:=h.2 k e
  grind
 ·have e2:k=l.length:=by simp at hk;omega
  subst e2;refine⟨A,c,?_,?_,?_⟩
  ·grind
  ·grind
  ·simpa using hp
section rules
variable {P:Program} {n:Nw} {f:Fr} {w:World} {ty:TypeId} {pos:String} {af:Array Edge} {x y:Operand} {t e:TypeId}
end rules
end
def KidIn(w:World)(D:Nat->Prop)(A:Option Addr)(xs:List Int):Prop:=xs.length<=vX/\(xs≠[]->∃ g cs,A=some ⟨g,0,none⟩/\D g/\Blk w g 3 cs/\cs.toList.take xs.length=iV xs)
theorem KidIn.nil(w:World)(D:Nat->Prop)(A:Option Addr):KidIn w D A []:=⟨ah _,fun h=>absurd rfl h⟩
theorem KidIn.chG{w w':World}{D Z:Nat->Prop}{A:Option Addr}{xs:List Int}(h:KidIn w D A xs)(hc:ChG Z w w')(hz:∀ g,Z g->¬D g\/∃ cs t,Blk w g t cs/\t≠3):KidIn w' D A xs:=
 ⟨h.1,fun hn=>by
  obtain⟨g,cs,e,hd,hb,ht⟩:=h.2 hn
  refine⟨g,cs,e,hd,hb.chG hc (fun hm=>?_),ht⟩
  rcases hz g hm with h1|⟨c2,t2,h1,h2⟩
  ·exact h1 hd
  ·exact h2 (jz h1 hb)⟩
theorem ChG.of_same(h:Same X w w'):ChG (fun g=>g∈X) w w':=⟨h.os,h.tape,h.output,h.size,fun k hk hx=>h.blk k hk hx⟩
theorem KidIn.weak{D':Nat->Prop}(h:KidIn w D A xs)(hd:∀ g,g<w.heap.size->D g->D' g):KidIn w D' A xs:=
 ⟨h.1,fun hn=>by
  obtain⟨g,cs,e,h1,hb,ht⟩:=h.2 hn
  exact⟨g,cs,e,hd g hb.lt h1,hb,ht⟩⟩
theorem KidIn.own(h:Own w base 3 1 A k cap (iV xs))(hk:k=xs.length):KidIn w (fun g=>base<=g) A xs:=by
 subst hk;have h2:=own_pr h
 exact⟨h2.1,fun hn=>by
  obtain⟨g,cs,e,h3,_,h4,h5⟩:=h2.2 hn
  exact⟨g,cs,e,h3,h4,h5⟩⟩
theorem KidIn.cell{w:World}{D:Nat->Prop}{A:Option Addr}{xs:List Int}(h:KidIn w D A xs){j:Nat}(hj:j<xs.length):∃ g,A=some ⟨g,0,none⟩/\g<w.heap.size/\w.cell? ⟨g,0+j*1,none⟩=some (.int .i64 xs[j]):=by
 obtain⟨g,cs,e,_,hb,ht⟩:=h.2 (by intro e;rw[e]at hj;simp at hj);refine⟨g,e,hb.lt,hb.cell ?_⟩;have h1:(cs.toList.take xs.length)[j]? =some (.int .i64 xs[j]):=by rw[ht];simp[iV,hj]
 grind
def rwV(r:Rw)(A:Option Addr)(c:Nat)(K:Option Addr)(ck:Nat):List Value:=[.int .i64 r.kind,.string r.name,.string r.typ.base,.slice A r.typ.args.length c,.int .i64 r.index,.slice K r.kids.length ck,.int .i64 r.up]
inductive RwsIn(w0 w:World)(D:Nat->Prop):List Rw->List Value->Prop
 | nil:RwsIn w0 w D [] []
 | cons {r:Rw} {l:List Rw} {vs:List Value} {A K:Option Addr} {c ck:Nat} (hs:SimsIn w0 A r.typ.args) (hk:KidIn w D K r.kids) (h:RwsIn w0 w D l vs):RwsIn w0 w D (r::l) (rwV r A c K ck++vs)
theorem RwsIn.len{l:List Rw}(h:RwsIn w0 w D l vs):vs.length=l.length*7:=by
 induction h with
 | nil=>rfl
 | cons hs hk h ih=>simp only[List.length_append,ih,List.length_cons,rwV,List.length_nil];omega
theorem RwsIn.chG{w0 w w':World}{D Z:Nat->Prop}{l:List Rw}{vs:List Value}(h:RwsIn w0 w D l vs)(hc:ChG Z w w')(hz:∀ g,Z g->¬D g\/∃ cs t,Blk w g t cs/\t≠3):RwsIn w0 w' D l vs:=by
 induction h with
 | nil=>exact .nil
 | cons hs hk h ih=>exact .cons hs (hk.chG hc hz) ih
theorem RwsIn.tr{l:List Rw}(h:RwsIn w0 w D l vs)(hs:Same X w w')(hz:∀ g,g∈X->¬D g\/∃ cs t,Blk w g t cs/\t≠3):RwsIn w0 w' D l vs:=h.chG (ChG.of_same hs) hz
theorem RwsIn.weak{w0 w:World}{D D':Nat->Prop}{l:List Rw}{vs:List Value}(h:RwsIn w0 w D l vs)(hd:∀ g,g<w.heap.size->D g->D' g):RwsIn w0 w D' l vs:=by
 induction h with
 | nil=>exact .nil
 | cons hs hk h ih=>exact .cons hs (hk.weak hd) ih
theorem RwsIn.app{w0 w:World}{D:Nat->Prop}{l m:List Rw}{vs us:List Value}(h:RwsIn w0 w D l vs)(k:RwsIn w0 w D m us):RwsIn w0 w D (l++m) (vs++us):=by
 induction h with
 | nil=>exact k
 | cons hs hk h ih=>rw[List.append_assoc];exact .cons hs hk ih
theorem RwsIn.at_{l:List Rw}(h:RwsIn w0 w D l vs):∀ {k:Nat} {r:Rw},l[k]? =some r->∃ A c K ck,(vs.drop (k*7)).take 7=rwV r A c K ck/\SimsIn w0 A r.typ.args/\KidIn w D K r.kids:=by
 induction h with
 | nil=>intro k r hk;simp at hk
 | @cons r' l vs A K c ck hs hk h ih=>
  intro k r hr;cases k with
  | zero=>
   obtain rfl:=Option.some.inj hr;exact⟨A,c,K,ck,by rw[Nat.zero_mul,List.drop_zero];exact List.take_left' rfl,hs,hk⟩
  | succ k=>
   obtain⟨A',c',K',ck',h1,h2⟩:=ih (k:=k) (r:=r) hr;refine⟨A',c',K',ck',?_,h2⟩;rw[show (k+1)*7=7+k*7 by omega,<- List.drop_drop,show List.drop 7 (rwV r' A c K ck++vs)=vs from List.drop_left' rfl];exact h1
theorem own_mid{xs:List Value}(h:Own w base e sz (some ⟨g,0,none⟩) m cap xs)(hx:(xs.drop o).take n=ys):w.rangeAt g (0+o) ys:=fun i v hv=>by
 subst hx
 rw[List.getElem?_take]at hv
 split at hv
 ·rw[List.getElem?_drop]at hv
  have hi:=(aC.1 hv).1
  obtain⟨g',e,_,_,hc⟩:=h.cell (by intro e;rw[e]at hi;simp at hi)
  grind
 ·cases hv
def Tv.parts:Tv->List Tv
 | .con _ _=>[]
 | .var _=>[]
 | .abs _ x=>[x]
 | .app x y=>[x,y]
def hd(v:Tv)(up:Int)(ks:List Int):Rw:=⟨v.tm.kind,v.tm.name,v.tm.type,v.tm.index,ks,up⟩
def kacc(p:Nat):List Tv->List Int->List Rw->List Int×List Rw
 | [],ks,t=>(ks,t)
 | x::r,ks,t=>kacc p r (ks++[((p+1+t.length:Nat):Int)]) (t++rws p (p+1+t.length) x)
theorem rws_acc(up:Int)(p:Nat)(v:Tv):rws up p v=hd v up (kacc p v.parts [] []).1::(kacc p v.parts [] []).2:=by
 cases v with
 | con nm τ=>rfl
 | var i=>rfl
 | abs τ x=>simp[rws,kacc,Tv.parts,hd,Tv.tm,Tm.kind,Tm.name,Tm.type,Tm.index]
 | app x y=>simp[rws,kacc,Tv.parts,hd,Tv.tm,Tm.kind,Tm.name,Tm.type,Tm.index,JV]
theorem S6(v:Tv):v.tm.args=v.parts.map Tv.tm:=by cases v<;>rfl
theorem parts_lt{v x:Tv}(h:x∈v.parts):x.size<v.size:=by
 cases v with
 | con nm τ=>cases h
 | var i=>cases h
 | abs τ y=>simp only[Tv.parts,List.mem_singleton]at h;subst h;simp[Tv.size]
 | app y z=>
  grind[Tv.parts,Tv.size]
theorem parts_len(v:Tv):v.parts.length<=2:=by cases v<;>simp[Tv.parts]
theorem parts_sum(v:Tv):(v.parts.map Tv.size).sum+1=v.size:=by cases v<;>simp[Tv.parts,Tv.size]
theorem tms_part{v:Tv}(h:TmsIn w A v.tm.args)(hk:k<v.parts.length):∃ b o A' c B d,A=some ⟨b,o,none⟩/\b<w.heap.size/\w.rangeAt b (o+k*6) [Value.int .i64 (v.parts[k]).tm.kind,.string (v.parts[k]).tm.name,.int .i64 (v.parts[k]).tm.index,.string (v.parts[k]).tm.type.base,.slice A' (v.parts[k]).tm.type.args.length c,.slice B (v.parts[k]).tm.args.length d]/\SimsIn w A' (v.parts[k]).tm.type.args/\TmsIn w B (v.parts[k]).tm.args:=by
 have hk2:k<v.tm.args.length:=by rw[S6,List.length_map];exact hk
 obtain⟨b,o,A',c,B,d,h1,h2,h3,h4,h5⟩:=h.at_ hk2
 grind[S6,h1]
theorem HZ{α:Type}(a:List α)(x y:α)(b:List α)(i:Nat)(h:i=a.length):(a++x::b).set i y=a++y::b:=by
 subst h
 grind
theorem rw_set{r:Rw}{K K':Option Addr}{ck a1:Nat}{ks:List Int}(h:vs.length=n*7):(vs++rwV r A c K ck++ys).set (0+n*7+5) (.slice K' ks.length a1)=vs++rwV { r with kids:=ks } A c K' a1++ys:=by
 have h2:=HZ (vs++[.int .i64 r.kind,.string r.name,.string r.typ.base,.slice A r.typ.args.length c,.int .i64 r.index]) (.slice K r.kids.length ck) (.slice K' ks.length a1) ([.int .i64 r.up]++ys) (0+n*7+5) (by simp[h])
 simpa[rwV]using h2
theorem rw_kid{r:Rw}{K:Option Addr}{ck:Nat}(h:vs.length=n*7):(vs++rwV r A c K ck++ys)[0+n*7+5]? =some (.slice K r.kids.length ck):=by
 rw[List.append_assoc,List.getElem?_append_right oG,h,show 0+n*7+5-n*7=5 by omega];rfl
theorem ChG.same(h:ChG (fun g=>g∈X) w w'):Same X w w':=⟨h.os,h.tape,h.output,h.size,fun k hk hx=>h.blk k hk hx⟩
section
def RdT(w0 w:World)(q:Nat)(ls:List Rw):Prop:=∀ k r,ls[k]? =some r->∃ A c K ck,w.rangeAt q (0+k*7) [.int .i64 r.kind,.string r.name,.string r.typ.base,.slice A r.typ.args.length c,.int .i64 r.index,.slice K r.kids.length ck,.int .i64 r.up]/\w.rangeAt q (0+k*7+2) [.string r.typ.base,.slice A r.typ.args.length c]/\SimsIn w0 A r.typ.args/\∀ j (hj:j<r.kids.length),∃ g,K=some ⟨g,0,none⟩/\g<w.heap.size/\w.cell? ⟨g,0+j*1,none⟩=some (.int .i64 r.kids[j])
theorem rdt_of{q:Nat}{ls:List Rw}{zs:List Value}(ho:Own w base 152 7 (some ⟨q,0,none⟩) n cap zs)(h:RwsIn w0 w D ls zs):RdT w0 w q ls:=fun k r hr=>by
 obtain⟨A,c,K,ck,h1,h2,h3⟩:=h.at_ hr
 have hm:=own_mid ho h1
 refine⟨A,c,K,ck,hm,fun i v hv=>?_,h2,fun j hj=>h3.cell hj⟩
 match i,hv with
 | 0,hv=>exact hm 2 v hv
 | 1,hv=>exact hm 3 v hv
 | i+2,hv=>simp at hv
theorem nd_row{l:List Rw}{Γ:List Ts}{v:Tv}(h:Kq l p Γ v):∃ r,l[p]? =some r/\(r.kind=1\/r.kind=2\/r.kind=3\/r.kind=4):=by
 cases v with
 | con nm τ=>obtain⟨r,h1,h2,_⟩:=h;exact⟨r,h1,.inl h2⟩
 | var i=>obtain⟨r,h1,h2,_⟩:=h;exact⟨r,h1,.inr (.inl h2)⟩
 | abs τ x=>obtain⟨⟨r,h1,h2,_⟩,_⟩:=h;exact⟨r,h1,.inr (.inr (.inl h2))⟩
 | app x y=>obtain⟨⟨r,h1,h2,_⟩,_⟩:=h;exact⟨r,h1,.inr (.inr (.inr h2))⟩
theorem nd_lt{l:List Rw}{Γ:List Ts}{v:Tv}(h:Kq l p Γ v):p<l.length:=by
 obtain⟨r,h1,_⟩:=nd_row h
 grind
section nd
variable {l:List Rw} {p:Nat} {r:Rw} {Γ:List Ts} {v:Tv}
theorem nd_con(h:Kq l p Γ v)(hr:l[p]? =some r)(hk:r.kind=1):∃ nm τ,v= .con nm τ/\r.typ=τ.sm:=by
 cases v with
 | con nm τ=>obtain⟨r',h1,_,h2⟩:=h;cases y7 hr h1;exact⟨nm,τ,rfl,h2⟩
 | var i=>obtain⟨r',h1,h2,_⟩:=h;cases y7 hr h1;rw[hk]at h2;cases h2
 | abs σ x=>obtain⟨⟨r',h1,h2,_⟩,_⟩:=h;cases y7 hr h1;rw[hk]at h2;cases h2
 | app x y=>obtain⟨⟨r',h1,h2,_⟩,_⟩:=h;cases y7 hr h1;rw[hk]at h2;cases h2
theorem nd_var(h:Kq l p Γ v)(hr:l[p]? =some r)(hk:r.kind=2):∃ i,v= .var i/\r.index=(i:Int)/\r.up<(p:Int)/\Chn l r.up Γ:=by
 cases v with
 | con nm τ=>obtain⟨r',h1,h2,_⟩:=h;cases y7 hr h1;rw[hk]at h2;cases h2
 | var i=>obtain⟨r',h1,_,h2,h3,h4⟩:=h;cases y7 hr h1;exact⟨i,rfl,h2,h3,h4⟩
 | abs σ x=>obtain⟨⟨r',h1,h2,_⟩,_⟩:=h;cases y7 hr h1;rw[hk]at h2;cases h2
 | app x y=>obtain⟨⟨r',h1,h2,_⟩,_⟩:=h;cases y7 hr h1;rw[hk]at h2;cases h2
theorem nd_abs(h:Kq l p Γ v)(hr:l[p]? =some r)(hk:r.kind=3):∃ τ x,v= .abs τ x/\r.typ=τ.sm/\r.kids= [((p+1:Nat):Int)]/\Kq l (p+1) (τ::Γ) x:=by
 cases v with
 | con nm τ=>obtain⟨r',h1,h2,_⟩:=h;cases y7 hr h1;rw[hk]at h2;cases h2
 | var i=>obtain⟨r',h1,h2,_⟩:=h;cases y7 hr h1;rw[hk]at h2;cases h2
 | abs σ x=>obtain⟨⟨r',h1,_,h2,h3⟩,h4⟩:=h;cases y7 hr h1;exact⟨σ,x,rfl,h2,h3,h4⟩
 | app x y=>obtain⟨⟨r',h1,h2,_⟩,_⟩:=h;cases y7 hr h1;rw[hk]at h2;cases h2
theorem nd_app(h:Kq l p Γ v)(hr:l[p]? =some r)(hk:r.kind=4):∃ x y,v= .app x y/\r.kids= [((p+1:Nat):Int),((p+1+x.size:Nat):Int)]/\Kq l (p+1) Γ x/\Kq l (p+1+x.size) Γ y:=by
 cases v with
 | con nm τ=>obtain⟨r',h1,h2,_⟩:=h;cases y7 hr h1;rw[hk]at h2;cases h2
 | var i=>obtain⟨r',h1,h2,_⟩:=h;cases y7 hr h1;rw[hk]at h2;cases h2
 | abs σ x=>obtain⟨⟨r',h1,h2,_⟩,_⟩:=h;cases y7 hr h1;rw[hk]at h2;cases h2
 | app x y=>obtain⟨⟨r',h1,_,h2⟩,h3,h4⟩:=h;cases y7 hr h1;exact⟨x,y,rfl,h2,h3,h4⟩
end nd
theorem chn_row{l:List Rw}{u:Int}{Γ:List Ts}{τ:Ts}(h:Chn l u Γ)(hk:Γ[k]? =some τ):∃(m:Nat) (r:Rw),u=(m:Int)/\l[m]? =some r/\r.up<(m:Int)/\-1<=r.up/\((r.kind=3/\((k=0/\r.typ=τ.sm)\/∃ k',k=k'+1/\∃ Δ,Δ[k']? =some τ/\Chn l r.up Δ))\/(r.kind≠3/\∃ Δ,Δ[k]? =some τ/\Chn l r.up Δ)):=by
 have low:∀ {u:Int} {Γ:List Ts},Chn l u Γ->-1<=u:=fun h=>by cases h<;>omega
 cases h with
 | nil=>simp at hk
 | @abs m r σ Δ h1 h2 h3 h4 h5=>
  grind
 | @app m r _ h1 h2 h4 h5=>exact⟨m,r,rfl,h1,h4,low h5,.inr ⟨h2,Γ,hk,h5⟩⟩
theorem C1:∀(v:Tv) (Γ:List Ts) (j:Nat) (h:j<(nds Γ v).length),(nds Γ v)[j].1.length+(nds Γ v)[j].2.size<=Γ.length+v.size
 | .con nm τ,Γ,j,h=>by
  obtain rfl:j=0:=by simp[nds]at h;omega
  exact ai _
 | .var i,Γ,j,h=>by
  obtain rfl:j=0:=by simp[nds]at h;omega
  exact ai _
 | .abs τ x,Γ,j,h=>by
  cases j with
  | zero=>exact ai _
  | succ j=>
   have:=C1 x (τ::Γ) j (by simp only[nds,List.length_cons]at h;omega)
   grind[nds,List.length_cons,Tv.size]
 | .app x y,Γ,j,h=>by
  cases j with
  | zero=>exact ai _
  | succ j=>
   simp only[nds,List.getElem_cons_succ,Tv.size]
   by_cases e:j<(nds Γ x).length
   ·rw[List.getElem_append_left e]
    have:=C1 x Γ j e
    omega
   ·rw[List.getElem_append_right oG]
    have:=C1 y Γ (j-(nds Γ x).length) (by simp only[nds,List.length_cons,List.length_append]at h;omega)
    omega
theorem Ey{f h:Nat->Value}{a b:Value}:B7 (kz m f h) (0+i*2) [a,b]=kz m (fun j=>if j=i then a else f j) (fun j=>if j=i then b else h j):=by
 show ((kz m f h).setIfInBounds (0+i*2+0) a).setIfInBounds (0+i*2+1) b=_;rw[J0,M8]
theorem EZ{F H:Nat->Value}{x y:Value}(hb:Blk w b t (kz n F H))(hk:k<n)(hF:F k=x)(hH:H k=y):w.rangeAt b (0+k*2) [x,y]:=fun i v hv=>by
 match i,hv with
 | 0,hv=>obtain rfl:=Option.some.inj hv;rw[cell_of_row w b _ _ _ _ hb,XK hk,hF]
 | 1,hv=>obtain rfl:=Option.some.inj hv;rw[cell_of_row w b _ _ _ _ hb,ZQ hk,hH]
 | i+2,hv=>simp at hv
def TyS(S:Nat->Prop)(w:World):Option Addr->Ts->Prop
 | _,.b _=>True
 | A,.f x y=>∃ b o A0 c0 A1 c1,A=some ⟨b,o,none⟩/\b<w.heap.size/\S b/\w.rangeAt b o [.string x.sm.base,.slice A0 x.sm.args.length c0,.string y.sm.base,.slice A1 y.sm.args.length c1]/\TyS S w A0 x/\TyS S w A1 y
theorem Bel.then{a b c:World}(h:Bel a b)(g:Bel b c):Bel a c:=h.tr0 (sB g)
section tys
variable {S S':Nat->Prop} {w w':World}
theorem rng4{a0 a1 a2 a3:Value}(h:w.rangeAt b o [a0,a1,a2,a3]):w.rangeAt b (o+0*2) [a0,a1]/\w.rangeAt b (o+1*2) [a2,a3]:=⟨fun j v hj=>by
 match j,hj with
 | 0,hj=>exact h 0 v hj
 | 1,hj=>exact h 1 v hj
 | j+2,hj=>simp at hj,fun j v hj=>by
 match j,hj with
 | 0,hj=>exact h 2 v hj
 | 1,hj=>exact h 3 v hj
 | j+2,hj=>simp at hj⟩
theorem TyS.keep(hz:w.heap.size<=w'.heap.size)(hk:∀ b,b<w.heap.size->S b->w'.heap[b]? =w.heap[b]?):∀(τ:Ts) {A:Option Addr},TyS S w A τ->TyS S w' A τ
 | .b _,_,_=>trivial
 | .f x y,A,h=>by
  obtain⟨b,o,A0,c0,A1,c1,e,h1,h2,h3,h4,h5⟩:=h
  exact⟨b,o,A0,c0,A1,c1,e,nLL h1 hz,h2,fun j v hj=>by
   have:=h3 j v hj
   unfold World.cell? at this ⊢
   rw[hk b h1 h2];exact this,h4.keep hz hk x,h5.keep hz hk y⟩
theorem TyS.tr{Z:List Nat}{τ:Ts}(h:TyS S w A τ)(hs:Same Z w w')(hz:∀ g∈Z,¬S g\/w.heap.size<=g):TyS S w' A τ:=
 h.keep hs.size (fun b hb hS=>hs.blk b hb (fun hm=>by rcases hz b hm with h|h;exact h hS;omega)) τ
theorem TyS.mono{τ:Ts}(h:TyS S w A τ)(hb:Bel w w'):TyS S w' A τ:=h.tr (sB hb) (by simp)
theorem TyS.imp(hi:∀ b,b<w.heap.size->S b->S' b):∀(τ:Ts) {A:Option Addr},TyS S w A τ->TyS S' w A τ
 | .b _,_,_=>trivial
 | .f x y,A,h=>by
  obtain⟨b,o,A0,c0,A1,c1,e,h1,h2,h3,h4,h5⟩:=h
  exact⟨b,o,A0,c0,A1,c1,e,h1,hi b h1 h2,h3,h4.imp hi x,h5.imp hi y⟩
theorem TyS.sims:∀(τ:Ts) {A:Option Addr},TyS S w A τ->SimsIn w A τ.sm.args
 | .b t,A,_=>by cases t<;>exact .nil
 | .f x y,A,h=>by
  obtain⟨b,o,A0,c0,A1,c1,rfl,h1,_,h3,h4,h5⟩:=h
  obtain⟨h6,h7⟩:=rng4 h3
  refine .more (show 2<=vX by decide) h1 (fun k hk2=>?_)
  match k,hk2 with
  | 0,_=>
   show SimAt w b (o+0*2) x.sm
   rw[Sm.eta x.sm]
   exact SimAt.mk h1 h6 (h4.sims x)
  | 1,_=>
   show SimAt w b (o+1*2) y.sm
   rw[Sm.eta y.sm]
   exact SimAt.mk h1 h7 (h5.sims y)
theorem TyS.of(hS:∀ b,b<w.heap.size->S b):∀(τ:Ts) {A:Option Addr},SimsIn w A τ.sm.args->TyS S w A τ
 | .b _,_,_=>trivial
 | .f x y,A,h=>by
  obtain⟨b,o,A0,c0,rfl,hl,h1,h2⟩:=h.at_ (k:=0) (by simp[Ts.sm,Sm.args])
  obtain⟨b1,o1,A1,c1,e1,_,h3,h4⟩:=h.at_ (k:=1) (by simp[Ts.sm,Sm.args])
  obtain⟨rfl,rfl⟩:b=b1/\o=o1:=by cases e1;exact⟨rfl,rfl⟩
  exact⟨b,o,A0,c0,A1,c1,rfl,hl,hS b hl,fun j v hj=>by
   match j,hj with
   | 0,hj=>exact h1 0 v hj
   | 1,hj=>exact h1 1 v hj
   | 2,hj=>exact h3 0 v hj
   | 3,hj=>exact h3 1 v hj
   | j+4,hj=>simp at hj,TyS.of hS x h2,TyS.of hS y h4⟩
theorem TyS.old{τ:Ts}(h:SimsIn w0 A τ.sm.args)(hB:Bel w0 w)(hS:∀ b,b<w0.heap.size->S b):TyS S w A τ:=(TyS.of hS τ h).mono hB
theorem TyS.mk{A0 A1:Option Addr}{c0 c1:Nat}{x y:Ts}(hb:Blk w b t #[.string x.sm.base,.slice A0 x.sm.args.length c0,.string y.sm.base,.slice A1 y.sm.args.length c1])(hS:S b)(hx:TyS S w A0 x)(hy:TyS S w A1 y):TyS S w (some ⟨b,0,none⟩) (.f x y):=⟨b,0,A0,c0,A1,c1,rfl,hb.lt,hS,hb.range0,hx,hy⟩
end tys
def nwX(w0 w:World)(X:List Nat)(b:Nat):Prop:=b<w0.heap.size\/(w.heap.size<=b/\b∉X)
theorem nwX.no(h:b∈X)(h0:Bel w0 w)(hb:w.heap.size<=b):¬nwX w0 w X b:=fun h2=>by
 have:=Bel.size h0
 rcases h2 with h2|h2
 ·omega
 ·exact h2.2 h
theorem nwX.yes{d:Nat}(h0:w.heap.size<=b)(hc:c<b)(hd:d<b):nwX w0 w [c,d] b:= .inr ⟨h0,fun hm=>by simp at hm;omega⟩
structure TI(S:Nat->Prop)(ls:List Rw)(n i:Nat)(F H:Nat->Value)(w:World):Prop where
 t:∀ k,i<=k->k<n->∃ τ A c,TyAt ls k τ/\F k= .string τ.sm.base/\H k= .slice A τ.sm.args.length c/\TyS S w A τ
theorem TI.start(S:Nat->Prop)(ls:List Rw)(n:Nat)(w:World):TI S ls n n (fun _=> .string ⟨#[]⟩) (fun _=> .slice none 0 0) w:=⟨fun k h1 h2=>by omega⟩
theorem TI.mono{S:Nat->Prop}{ls:List Rw}{n i:Nat}{F H:Nat->Value}{w w':World}(h:TI S ls n i F H w)(hb:Bel w w'):TI S ls n i F H w':=⟨fun k h1 h2=>by
 obtain⟨τ,A,c,a1,a2,a3,a4⟩:=h.t k h1 h2
 exact⟨τ,A,c,a1,a2,a3,a4.mono hb⟩⟩
theorem TI.put{S:Nat->Prop}{ls:List Rw}{F H:Nat->Value}{τ:Ts}(h:TI S ls n (p+1) F H w)(hb:¬S b)(hs:Same [b] w w')(hT:TyAt ls p τ)(hS:TyS S w A τ):TI S ls n p (fun j=>if j=p then .string τ.sm.base else F j) (fun j=>if j=p then .slice A τ.sm.args.length c else H j) w':=by
 have mv:∀ {σ:Ts} {B:Option Addr},TyS S w B σ->TyS S w' B σ:=fun hσ=>hσ.tr hs (fun g hg=> .inl (by rw[List.mem_singleton.1 hg];exact hb))
 refine⟨fun k h1 h2=>?_⟩;by_cases e:k=p
 ·subst e
  simp only[if_true];exact⟨τ,A,c,hT,rfl,rfl,mv hS⟩
 ·simp only[if_neg e]
  obtain⟨σ,B,d,a1,a2,a3,a4⟩:=h.t k oG h2;exact⟨σ,B,d,a1,a2,a3,mv a4⟩
theorem nd_txt{l:List Rw}{Γ:List Ts}{v:Tv}{τ:Ts}(h:Kq l p Γ v)(ho:v.ok Γ.length)(hG:∀ σ∈Γ,σ.size<=200)(hs:v.size<=200)(ht:TyAt l p τ):τ.txt.length<=1000000:=by
 have h1:=CX ho hG (ht Γ v h)
 grind[Ts.txt_le]
end
end Go.Proofs.YtndbjnkilegebaaGreatDoor
