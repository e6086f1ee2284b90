/- What these functions compute, at every world: simple.Validate$1, ref1.To, ref1.noType, term.none, ref1.SimpleText, ref1.SameType, simple.Same, ref1.SimpleFault and 1 more; and plain laws. -/
import Derived.Test.YtgcgnkmmbecfmaaGreatDoorHtx
import Derived.Test.YtgcgnkmmbecfmaaGreatDoorZst
import Derived.Test.YtgcgnkmmbecfmaaGreatDoorGro
import Derived.Test.YtgcgnkmmbecfmaaGreatDoorU
import Derived.Test.YtgcgnkmmbecfmaaGreatDoorWrd
namespace Go.Proofs.YtgcgnkmmbecfmaaGreatDoor
open Go.RowKit Go.Proofs.Tryz
set_option maxHeartbeats 2000000
variable {A A1:Option Addr}{D:Nat->Prop}{X:List Nat}{b bN bV base c c1 cap k n p:Nat}{l:List Rw}{s:Sm}{vs ys:List Value}{w w' w0:World}{Γ:List Ts}{τ:Ts}
def KidIn(w:World)(D:Nat->Prop)(A:Option Addr)(xs:List Int):Prop:=xs.length<=vJ/\(xs≠[]->∃ g cs,A=some ⟨g,0,none⟩/\D g/\Blk w g 3 cs/\cs.toList.take xs.length=iV xs)
theorem KidIn.nil(w:World)(D:Nat->Prop)(A:Option Addr):KidIn w D A []:=⟨ag _,fun h=>absurd rfl h⟩
theorem KidIn.chG{w w':World}{D Z:Nat->Prop}{A:Option Addr}{xs:List Int}(h:KidIn w D A xs)(hc:ChG Z w w')(hz:∀ g,Z g->¬D g\/∃ cs t,Blk w g t cs/\t≠3):KidIn w' D A xs:=
 ⟨h.1,fun hn=>by
  obtain⟨g,cs,e,hd,hb,ht⟩:=h.2 hn
  refine⟨g,cs,e,hd,hb.chG hc (fun hm=>?_),ht⟩
  rcases hz g hm with h1|⟨c2,t2,h1,h2⟩
  ·exact h1 hd
  ·exact h2 (jy h1 hb)⟩
theorem ChG.of_same(h:Same X w w'):ChG (fun g=>g∈X) w w':=⟨h.os,h.tape,h.output,h.size,fun k hk hx=>h.blk k hk hx⟩
theorem KidIn.weak{D':Nat->Prop}{xs:List Int}(h:KidIn w D A xs)(hd:∀ g,g<w.heap.size->D g->D' g):KidIn w D' A xs:=
 ⟨h.1,fun hn=>by
  obtain⟨g,cs,e,h1,hb,ht⟩:=h.2 hn
  exact⟨g,cs,e,hd g hb.lt h1,hb,ht⟩⟩
theorem KidIn.own{xs:List Int}(h:Own w base 3 1 A k cap (iV xs))(hk:k=xs.length):KidIn w (fun g=>base<=g) A xs:=by
 subst hk;have h2:=own_pr h
 exact⟨h2.1,fun hn=>by
  obtain⟨g,cs,e,h3,_,h4,h5⟩:=h2.2 hn
  exact⟨g,cs,e,h3,h4,h5⟩⟩
theorem KidIn.cell{w:World}{D:Nat->Prop}{A:Option Addr}{xs:List Int}(h:KidIn w D A xs){j:Nat}(hj:j<xs.length):∃ g,A=some ⟨g,0,none⟩/\g<w.heap.size/\w.cell? ⟨g,0+j*1,none⟩=some (.int .i64 xs[j]):=by
 obtain⟨g,cs,e,_,hb,ht⟩:=h.2 (by intro e;rw[e]at hj;simp at hj);refine⟨g,e,hb.lt,hb.cell ?_⟩;have h1:(cs.toList.take xs.length)[j]? =some (.int .i64 xs[j]):=by rw[ht];simp[iV,hj]
 grind
def rwV(r:Rw)(A:Option Addr)(c:Nat)(K:Option Addr)(ck:Nat):List Value:=[.int .i64 r.kind,.string r.name,.string r.typ.base,.slice A r.typ.args.length c,.int .i64 r.index,.slice K r.kids.length ck,.int .i64 r.up]
inductive RwsIn(w0 w:World)(D:Nat->Prop):List Rw->List Value->Prop
 | nil:RwsIn w0 w D [] []
 | cons {r:Rw} {l:List Rw} {vs:List Value} {A K:Option Addr} {c ck:Nat} (hs:SimsIn w0 A r.typ.args) (hk:KidIn w D K r.kids) (h:RwsIn w0 w D l vs):RwsIn w0 w D (r::l) (rwV r A c K ck++vs)
theorem RwsIn.len(h:RwsIn w0 w D l vs):vs.length=l.length*7:=by
 induction h with
 | nil=>rfl
 | cons hs hk h ih=>simp only[List.length_append,ih,List.length_cons,rwV,List.length_nil];omega
theorem RwsIn.chG{w0 w w':World}{D Z:Nat->Prop}{l:List Rw}{vs:List Value}(h:RwsIn w0 w D l vs)(hc:ChG Z w w')(hz:∀ g,Z g->¬D g\/∃ cs t,Blk w g t cs/\t≠3):RwsIn w0 w' D l vs:=by
 induction h with
 | nil=>exact .nil
 | cons hs hk h ih=>exact .cons hs (hk.chG hc hz) ih
theorem RwsIn.tr(h:RwsIn w0 w D l vs)(hs:Same X w w')(hz:∀ g,g∈X->¬D g\/∃ cs t,Blk w g t cs/\t≠3):RwsIn w0 w' D l vs:=h.chG (ChG.of_same hs) hz
theorem RwsIn.weak{w0 w:World}{D D':Nat->Prop}{l:List Rw}{vs:List Value}(h:RwsIn w0 w D l vs)(hd:∀ g,g<w.heap.size->D g->D' g):RwsIn w0 w D' l vs:=by
 induction h with
 | nil=>exact .nil
 | cons hs hk h ih=>exact .cons hs (hk.weak hd) ih
theorem RwsIn.app{w0 w:World}{D:Nat->Prop}{l m:List Rw}{vs us:List Value}(h:RwsIn w0 w D l vs)(k:RwsIn w0 w D m us):RwsIn w0 w D (l++m) (vs++us):=by
 induction h with
 | nil=>exact k
 | cons hs hk h ih=>rw[List.append_assoc];exact .cons hs hk ih
theorem RwsIn.at_(h:RwsIn w0 w D l vs):∀ {k:Nat} {r:Rw},l[k]? =some r->∃ A c K ck,(vs.drop (k*7)).take 7=rwV r A c K ck/\SimsIn w0 A r.typ.args/\KidIn w D K r.kids:=by
 induction h with
 | nil=>intro k r hk;simp at hk
 | @cons r' l vs A K c ck hs hk h ih=>
  intro k r hr;cases k with
  | zero=>
   obtain rfl:=Option.some.inj hr;exact⟨A,c,K,ck,by rw[Nat.zero_mul,List.drop_zero];exact List.take_left' rfl,hs,hk⟩
  | succ k=>
   obtain⟨A',c',K',ck',h1,h2⟩:=ih (k:=k) (r:=r) hr;refine⟨A',c',K',ck',?_,h2⟩;rw[show (k+1)*7=7+k*7 by omega,<- List.drop_drop,show List.drop 7 (rwV r' A c K ck++vs)=vs from List.drop_left' rfl];exact h1
theorem own_mid{sz g m o:Nat}{e:TypeId}{xs:List Value}(h:Own w base e sz (some ⟨g,0,none⟩) m cap xs)(hx:(xs.drop o).take n=ys):w.rangeAt g (0+o) ys:=fun i v hv=>by
 subst hx
 rw[List.getElem?_take]at hv
 split at hv
 ·rw[List.getElem?_drop]at hv
  have hi:=(au.1 hv).1
  obtain⟨g',e,_,_,hc⟩:=h.cell (by intro e;rw[e]at hi;simp at hi)
  grind
 ·cases hv
def Tv.parts:Tv->List Tv
 | .con _ _=>[]
 | .var _=>[]
 | .abs _ x=>[x]
 | .app x y=>[x,y]
def hd(v:Tv)(up:Int)(ks:List Int):Rw:=⟨v.tm.kind,v.tm.name,v.tm.type,v.tm.index,ks,up⟩
def G8(p:Nat):List Tv->List Int->List Rw->List Int×List Rw
 | [],ks,t=>(ks,t)
 | x::r,ks,t=>G8 p r (ks++[((p+1+t.length:Nat):Int)]) (t++rws p (p+1+t.length) x)
theorem rws_acc(up:Int)(p:Nat)(v:Tv):rws up p v=hd v up (G8 p v.parts [] []).1::(G8 p v.parts [] []).2:=by
 cases v with
 | con nm τ=>rfl
 | var i=>rfl
 | abs τ x=>simp[rws,G8,Tv.parts,hd,Tv.tm,Tm.kind,Tm.name,Tm.type,Tm.index]
 | app x y=>simp[rws,G8,Tv.parts,hd,Tv.tm,Tm.kind,Tm.name,Tm.type,Tm.index,Jj]
theorem CK(v:Tv):v.tm.args=v.parts.map Tv.tm:=by cases v<;>rfl
theorem parts_lt{v x:Tv}(h:x∈v.parts):x.size<v.size:=by
 cases v with
 | con nm τ=>cases h
 | var i=>cases h
 | abs τ y=>simp only[Tv.parts,List.mem_singleton]at h;subst h;simp[Tv.size]
 | app y z=>
  grind[Tv.parts,Tv.size]
theorem parts_len(v:Tv):v.parts.length<=2:=by cases v<;>simp[Tv.parts]
theorem parts_sum(v:Tv):(v.parts.map Tv.size).sum+1=v.size:=by cases v<;>simp[Tv.parts,Tv.size]
theorem tms_part{v:Tv}(h:TmsIn w A v.tm.args)(hk:k<v.parts.length):∃ b o A' c B d,A=some ⟨b,o,none⟩/\b<w.heap.size/\w.rangeAt b (o+k*6) [Value.int .i64 (v.parts[k]).tm.kind,.string (v.parts[k]).tm.name,.int .i64 (v.parts[k]).tm.index,.string (v.parts[k]).tm.type.base,.slice A' (v.parts[k]).tm.type.args.length c,.slice B (v.parts[k]).tm.args.length d]/\SimsIn w A' (v.parts[k]).tm.type.args/\TmsIn w B (v.parts[k]).tm.args:=by
 have hk2:k<v.tm.args.length:=by rw[CK,List.length_map];exact hk
 obtain⟨b,o,A',c,B,d,h1,h2,h3,h4,h5⟩:=h.at_ hk2
 grind[CK,h1]
theorem W4{α:Type}(a:List α)(x y:α)(b:List α)(i:Nat)(h:i=a.length):(a++x::b).set i y=a++y::b:=by
 subst h
 grind
theorem rw_set{r:Rw}{K K':Option Addr}{ck a1:Nat}{ks:List Int}(h:vs.length=n*7):(vs++rwV r A c K ck++ys).set (0+n*7+5) (.slice K' ks.length a1)=vs++rwV { r with kids:=ks } A c K' a1++ys:=by
 have h2:=W4 (vs++[.int .i64 r.kind,.string r.name,.string r.typ.base,.slice A r.typ.args.length c,.int .i64 r.index]) (.slice K r.kids.length ck) (.slice K' ks.length a1) ([.int .i64 r.up]++ys) (0+n*7+5) (by simp[h])
 simpa[rwV]using h2
theorem rw_kid{r:Rw}{K:Option Addr}{ck:Nat}(h:vs.length=n*7):(vs++rwV r A c K ck++ys)[0+n*7+5]? =some (.slice K r.kids.length ck):=by
 rw[List.append_assoc,List.getElem?_append_right oG,h,show 0+n*7+5-n*7=5 by omega];rfl
theorem ChG.same(h:ChG (fun g=>g∈X) w w'):Same X w w':=⟨h.os,h.tape,h.output,h.size,fun k hk hx=>h.blk k hk hx⟩
section
def RdT(w0 w:World)(q:Nat)(ls:List Rw):Prop:=∀ k r,ls[k]? =some r->∃ A c K ck,w.rangeAt q (0+k*7) [.int .i64 r.kind,.string r.name,.string r.typ.base,.slice A r.typ.args.length c,.int .i64 r.index,.slice K r.kids.length ck,.int .i64 r.up]/\w.rangeAt q (0+k*7+2) [.string r.typ.base,.slice A r.typ.args.length c]/\SimsIn w0 A r.typ.args/\∀ j (hj:j<r.kids.length),∃ g,K=some ⟨g,0,none⟩/\g<w.heap.size/\w.cell? ⟨g,0+j*1,none⟩=some (.int .i64 r.kids[j])
theorem rdt_of{q:Nat}{ls:List Rw}{zs:List Value}(ho:Own w base 165 7 (some ⟨q,0,none⟩) n cap zs)(h:RwsIn w0 w D ls zs):RdT w0 w q ls:=fun k r hr=>by
 obtain⟨A,c,K,ck,h1,h2,h3⟩:=h.at_ hr
 have hm:=own_mid ho h1
 refine⟨A,c,K,ck,hm,fun i v hv=>?_,h2,fun j hj=>h3.cell hj⟩
 match i,hv with
 | 0,hv=>exact hm 2 v hv
 | 1,hv=>exact hm 3 v hv
 | i+2,hv=>simp at hv
theorem nd_row{v:Tv}(h:JY l p Γ v):∃ r,l[p]? =some r/\(r.kind=1\/r.kind=2\/r.kind=3\/r.kind=4):=by
 cases v with
 | con nm τ=>obtain⟨r,h1,h2,_⟩:=h;exact⟨r,h1,.inl h2⟩
 | var i=>obtain⟨r,h1,h2,_⟩:=h;exact⟨r,h1,.inr (.inl h2)⟩
 | abs τ x=>obtain⟨⟨r,h1,h2,_⟩,_⟩:=h;exact⟨r,h1,.inr (.inr (.inl h2))⟩
 | app x y=>obtain⟨⟨r,h1,h2,_⟩,_⟩:=h;exact⟨r,h1,.inr (.inr (.inr h2))⟩
theorem nd_lt{v:Tv}(h:JY l p Γ v):p<l.length:=by
 obtain⟨r,h1,_⟩:=nd_row h
 grind
section nd
variable {l:List Rw} {p:Nat} {r:Rw} {Γ:List Ts} {v:Tv}
theorem nd_con(h:JY l p Γ v)(hr:l[p]? =some r)(hk:r.kind=1):∃ nm τ,v= .con nm τ/\r.typ=τ.sm:=by
 cases v with
 | con nm τ=>obtain⟨r',h1,_,h2⟩:=h;cases yq hr h1;exact⟨nm,τ,rfl,h2⟩
 | var i=>obtain⟨r',h1,h2,_⟩:=h;cases yq hr h1;rw[hk]at h2;cases h2
 | abs σ x=>obtain⟨⟨r',h1,h2,_⟩,_⟩:=h;cases yq hr h1;rw[hk]at h2;cases h2
 | app x y=>obtain⟨⟨r',h1,h2,_⟩,_⟩:=h;cases yq hr h1;rw[hk]at h2;cases h2
theorem nd_var(h:JY l p Γ v)(hr:l[p]? =some r)(hk:r.kind=2):∃ i,v= .var i/\r.index=(i:Int)/\r.up<(p:Int)/\Chn l r.up Γ:=by
 cases v with
 | con nm τ=>obtain⟨r',h1,h2,_⟩:=h;cases yq hr h1;rw[hk]at h2;cases h2
 | var i=>obtain⟨r',h1,_,h2,h3,h4⟩:=h;cases yq hr h1;exact⟨i,rfl,h2,h3,h4⟩
 | abs σ x=>obtain⟨⟨r',h1,h2,_⟩,_⟩:=h;cases yq hr h1;rw[hk]at h2;cases h2
 | app x y=>obtain⟨⟨r',h1,h2,_⟩,_⟩:=h;cases yq hr h1;rw[hk]at h2;cases h2
theorem nd_abs(h:JY l p Γ v)(hr:l[p]? =some r)(hk:r.kind=3):∃ τ x,v= .abs τ x/\r.typ=τ.sm/\r.kids= [((p+1:Nat):Int)]/\JY l (p+1) (τ::Γ) x:=by
 cases v with
 | con nm τ=>obtain⟨r',h1,h2,_⟩:=h;cases yq hr h1;rw[hk]at h2;cases h2
 | var i=>obtain⟨r',h1,h2,_⟩:=h;cases yq hr h1;rw[hk]at h2;cases h2
 | abs σ x=>obtain⟨⟨r',h1,_,h2,h3⟩,h4⟩:=h;cases yq hr h1;exact⟨σ,x,rfl,h2,h3,h4⟩
 | app x y=>obtain⟨⟨r',h1,h2,_⟩,_⟩:=h;cases yq hr h1;rw[hk]at h2;cases h2
theorem nd_app(h:JY l p Γ v)(hr:l[p]? =some r)(hk:r.kind=4):∃ x y,v= .app x y/\r.kids= [((p+1:Nat):Int),((p+1+x.size:Nat):Int)]/\JY l (p+1) Γ x/\JY l (p+1+x.size) Γ y:=by
 cases v with
 | con nm τ=>obtain⟨r',h1,h2,_⟩:=h;cases yq hr h1;rw[hk]at h2;cases h2
 | var i=>obtain⟨r',h1,h2,_⟩:=h;cases yq hr h1;rw[hk]at h2;cases h2
 | abs σ x=>obtain⟨⟨r',h1,h2,_⟩,_⟩:=h;cases yq hr h1;rw[hk]at h2;cases h2
 | app x y=>obtain⟨⟨r',h1,_,h2⟩,h3,h4⟩:=h;cases yq hr h1;exact⟨x,y,rfl,h2,h3,h4⟩
end nd
theorem chn_row{u:Int}(h:Chn l u Γ)(hk:Γ[k]? =some τ):∃(m:Nat) (r:Rw),u=(m:Int)/\l[m]? =some r/\r.up<(m:Int)/\-1<=r.up/\((r.kind=3/\((k=0/\r.typ=τ.sm)\/∃ k',k=k'+1/\∃ Δ,Δ[k']? =some τ/\Chn l r.up Δ))\/(r.kind≠3/\∃ Δ,Δ[k]? =some τ/\Chn l r.up Δ)):=by
 have low:∀ {u:Int} {Γ:List Ts},Chn l u Γ->-1<=u:=fun h=>by cases h<;>omega
 cases h with
 | nil=>simp at hk
 | @abs m r σ Δ h1 h2 h3 h4 h5=>
  grind
 | @app m r _ h1 h2 h4 h5=>exact⟨m,r,rfl,h1,h4,low h5,.inr ⟨h2,Γ,hk,h5⟩⟩
theorem D9:∀(v:Tv) (Γ:List Ts) (j:Nat) (h:j<(nds Γ v).length),(nds Γ v)[j].1.length+(nds Γ v)[j].2.size<=Γ.length+v.size
 | .con nm τ,Γ,j,h=>by
  obtain rfl:j=0:=by simp[nds]at h;omega
  exact ah _
 | .var i,Γ,j,h=>by
  obtain rfl:j=0:=by simp[nds]at h;omega
  exact ah _
 | .abs τ x,Γ,j,h=>by
  cases j with
  | zero=>exact ah _
  | succ j=>
   have:=D9 x (τ::Γ) j (by simp only[nds,List.length_cons]at h;omega)
   grind[nds,List.length_cons,Tv.size]
 | .app x y,Γ,j,h=>by
  cases j with
  | zero=>exact ah _
  | succ j=>
   simp only[nds,List.getElem_cons_succ,Tv.size]
   by_cases e:j<(nds Γ x).length
   ·rw[List.getElem_append_left e]
    have:=D9 x Γ j e
    omega
   ·rw[List.getElem_append_right oG]
    have:=D9 y Γ (j-(nds Γ x).length) (by simp only[nds,List.length_cons,List.length_append]at h;omega)
    omega
theorem NW{m i:Nat}{f h:Nat->Value}{a b:Value}:Cz (kz m f h) (0+i*2) [a,b]=kz m (fun j=>if j=i then a else f j) (fun j=>if j=i then b else h j):=by
 show ((kz m f h).setIfInBounds (0+i*2+0) a).setIfInBounds (0+i*2+1) b=_;rw[VZ,M1]
theorem NY{t:Nat}{F H:Nat->Value}{x y:Value}(hb:Blk w b t (kz n F H))(hk:k<n)(hF:F k=x)(hH:H k=y):w.rangeAt b (0+k*2) [x,y]:=fun i v hv=>by
 match i,hv with
 | 0,hv=>obtain rfl:=Option.some.inj hv;rw[cell_of_row w b _ _ _ _ hb,Xy hk,hF]
 | 1,hv=>obtain rfl:=Option.some.inj hv;rw[cell_of_row w b _ _ _ _ hb,ZQ hk,hH]
 | i+2,hv=>simp at hv
def TyS(S:Nat->Prop)(w:World):Option Addr->Ts->Prop
 | _,.b _=>True
 | A,.f x y=>∃ b o A0 c0 A1 c1,A=some ⟨b,o,none⟩/\b<w.heap.size/\S b/\w.rangeAt b o [.string x.sm.base,.slice A0 x.sm.args.length c0,.string y.sm.base,.slice A1 y.sm.args.length c1]/\TyS S w A0 x/\TyS S w A1 y
theorem Bel.then{a b c:World}(h:Bel a b)(g:Bel b c):Bel a c:=h.tr0 (sB g)
section tys
variable {S S':Nat->Prop} {w w':World}
theorem rng4{o:Nat}{a0 a1 a2 a3:Value}(h:w.rangeAt b o [a0,a1,a2,a3]):w.rangeAt b (o+0*2) [a0,a1]/\w.rangeAt b (o+1*2) [a2,a3]:=⟨fun j v hj=>by
 match j,hj with
 | 0,hj=>exact h 0 v hj
 | 1,hj=>exact h 1 v hj
 | j+2,hj=>simp at hj,fun j v hj=>by
 match j,hj with
 | 0,hj=>exact h 2 v hj
 | 1,hj=>exact h 3 v hj
 | j+2,hj=>simp at hj⟩
theorem TyS.keep(hz:w.heap.size<=w'.heap.size)(hk:∀ b,b<w.heap.size->S b->w'.heap[b]? =w.heap[b]?):∀(τ:Ts) {A:Option Addr},TyS S w A τ->TyS S w' A τ
 | .b _,_,_=>trivial
 | .f x y,A,h=>by
  obtain⟨b,o,A0,c0,A1,c1,e,h1,h2,h3,h4,h5⟩:=h
  exact⟨b,o,A0,c0,A1,c1,e,nLL h1 hz,h2,fun j v hj=>by
   have:=h3 j v hj
   unfold World.cell? at this ⊢
   rw[hk b h1 h2];exact this,h4.keep hz hk x,h5.keep hz hk y⟩
theorem TyS.tr{Z:List Nat}(h:TyS S w A τ)(hs:Same Z w w')(hz:∀ g∈Z,¬S g\/w.heap.size<=g):TyS S w' A τ:=
 h.keep hs.size (fun b hb hS=>hs.blk b hb (fun hm=>by rcases hz b hm with h|h;exact h hS;omega)) τ
theorem TyS.mono(h:TyS S w A τ)(hb:Bel w w'):TyS S w' A τ:=h.tr (sB hb) (by simp)
theorem TyS.imp(hi:∀ b,b<w.heap.size->S b->S' b):∀(τ:Ts) {A:Option Addr},TyS S w A τ->TyS S' w A τ
 | .b _,_,_=>trivial
 | .f x y,A,h=>by
  obtain⟨b,o,A0,c0,A1,c1,e,h1,h2,h3,h4,h5⟩:=h
  exact⟨b,o,A0,c0,A1,c1,e,h1,hi b h1 h2,h3,h4.imp hi x,h5.imp hi y⟩
theorem TyS.sims:∀(τ:Ts) {A:Option Addr},TyS S w A τ->SimsIn w A τ.sm.args
 | .b t,A,_=>by cases t<;>exact .nil
 | .f x y,A,h=>by
  obtain⟨b,o,A0,c0,A1,c1,rfl,h1,_,h3,h4,h5⟩:=h
  obtain⟨h6,h7⟩:=rng4 h3
  refine .more (show 2<=vJ by decide) h1 (fun k hk2=>?_)
  match k,hk2 with
  | 0,_=>
   show SimAt w b (o+0*2) x.sm
   rw[Sm.eta x.sm]
   exact SimAt.mk h1 h6 (h4.sims x)
  | 1,_=>
   show SimAt w b (o+1*2) y.sm
   rw[Sm.eta y.sm]
   exact SimAt.mk h1 h7 (h5.sims y)
theorem TyS.of(hS:∀ b,b<w.heap.size->S b):∀(τ:Ts) {A:Option Addr},SimsIn w A τ.sm.args->TyS S w A τ
 | .b _,_,_=>trivial
 | .f x y,A,h=>by
  obtain⟨b,o,A0,c0,rfl,hl,h1,h2⟩:=h.at_ (k:=0) (by simp[Ts.sm,Sm.args])
  obtain⟨b1,o1,A1,c1,e1,_,h3,h4⟩:=h.at_ (k:=1) (by simp[Ts.sm,Sm.args])
  obtain⟨rfl,rfl⟩:b=b1/\o=o1:=by cases e1;exact⟨rfl,rfl⟩
  exact⟨b,o,A0,c0,A1,c1,rfl,hl,hS b hl,fun j v hj=>by
   match j,hj with
   | 0,hj=>exact h1 0 v hj
   | 1,hj=>exact h1 1 v hj
   | 2,hj=>exact h3 0 v hj
   | 3,hj=>exact h3 1 v hj
   | j+4,hj=>simp at hj,TyS.of hS x h2,TyS.of hS y h4⟩
theorem TyS.old(h:SimsIn w0 A τ.sm.args)(hB:Bel w0 w)(hS:∀ b,b<w0.heap.size->S b):TyS S w A τ:=(TyS.of hS τ h).mono hB
theorem TyS.mk{t:Nat}{A0:Option Addr}{c0:Nat}{x y:Ts}(hb:Blk w b t #[.string x.sm.base,.slice A0 x.sm.args.length c0,.string y.sm.base,.slice A1 y.sm.args.length c1])(hS:S b)(hx:TyS S w A0 x)(hy:TyS S w A1 y):TyS S w (some ⟨b,0,none⟩) (.f x y):=⟨b,0,A0,c0,A1,c1,rfl,hb.lt,hS,hb.range0,hx,hy⟩
end tys
def nwX(w0 w:World)(X:List Nat)(b:Nat):Prop:=b<w0.heap.size\/(w.heap.size<=b/\b∉X)
theorem nwX.no(h:b∈X)(h0:Bel w0 w)(hb:w.heap.size<=b):¬nwX w0 w X b:=fun h2=>by
 have:=Bel.size h0
 rcases h2 with h2|h2
 ·omega
 ·exact h2.2 h
theorem nwX.yes{d:Nat}(h0:w.heap.size<=b)(hc:c<b)(hd:d<b):nwX w0 w [c,d] b:= .inr ⟨h0,fun hm=>by simp at hm;omega⟩
structure TI(S:Nat->Prop)(ls:List Rw)(n i:Nat)(F H:Nat->Value)(w:World):Prop where
 t:∀ k,i<=k->k<n->∃ τ A c,TyAt ls k τ/\F k= .string τ.sm.base/\H k= .slice A τ.sm.args.length c/\TyS S w A τ
theorem TI.start(S:Nat->Prop)(ls:List Rw)(n:Nat)(w:World):TI S ls n n (fun _=> .string ⟨#[]⟩) (fun _=> .slice none 0 0) w:=⟨fun k h1 h2=>by omega⟩
theorem TI.mono{S:Nat->Prop}{ls:List Rw}{n i:Nat}{F H:Nat->Value}{w w':World}(h:TI S ls n i F H w)(hb:Bel w w'):TI S ls n i F H w':=⟨fun k h1 h2=>by
 obtain⟨τ,A,c,a1,a2,a3,a4⟩:=h.t k h1 h2
 exact⟨τ,A,c,a1,a2,a3,a4.mono hb⟩⟩
theorem TI.put{S:Nat->Prop}{ls:List Rw}{F H:Nat->Value}(h:TI S ls n (p+1) F H w)(hb:¬S b)(hs:Same [b] w w')(hT:TyAt ls p τ)(hS:TyS S w A τ):TI S ls n p (fun j=>if j=p then .string τ.sm.base else F j) (fun j=>if j=p then .slice A τ.sm.args.length c else H j) w':=by
 have mv:∀ {σ:Ts} {B:Option Addr},TyS S w B σ->TyS S w' B σ:=fun hσ=>hσ.tr hs (fun g hg=> .inl (by rw[List.mem_singleton.1 hg];exact hb))
 refine⟨fun k h1 h2=>?_⟩;by_cases e:k=p
 ·subst e
  simp only[if_true];exact⟨τ,A,c,hT,rfl,rfl,mv hS⟩
 ·simp only[if_neg e]
  obtain⟨σ,B,d,a1,a2,a3,a4⟩:=h.t k oG h2;exact⟨σ,B,d,a1,a2,a3,mv a4⟩
theorem nd_txt{v:Tv}(h:JY l p Γ v)(ho:v.ok Γ.length)(hG:∀ σ∈Γ,σ.size<=200)(hs:v.size<=200)(ht:TyAt l p τ):τ.txt.length<=1000000:=by
 have h1:=C1 ho hG (ht Γ v h)
 grind[Ts.txt_le]
end
section
abbrev cH(a:Nat)(b:Nat):Array Value:=#[.pointer (some ⟨a,0,none⟩),.pointer (some ⟨b,0,none⟩)]
section ok
variable {b:ByteArray} {l:List Sm}
theorem okA(h:b=smE\/b=smT)(k:((l.length:Nat):Int)=0):Vk (.mk b l):= .inl ⟨h,by show l.length=0;omega⟩
theorem okB1(h:b=smE\/b=smT)(k:¬((l.length:Nat):Int)=0):¬Vk (.mk b l):=by
 rintro (⟨_,h2⟩|⟨h2,_⟩)
 ·exact k (by have:l.length=0:=h2;omega)
 ·have h2:b=⟨#[]⟩:=h2
  rcases h with h|h<;>exact absurd (h.symm.trans h2) dE
theorem okB2(h:¬(b=smE\/b=smT))(k:¬b=⟨#[]⟩):¬Vk (.mk b l):=by
 rintro (⟨h2,_⟩|⟨h2,_⟩)
 ·exact h h2
 ·exact k h2
theorem okX(h:b=smE\/b=smT)(k:b=⟨#[]⟩):False:=by rcases h with h|h<;>exact absurd (h.symm.trans k) dE
theorem okD(h:¬(b=smE\/b=smT))(k:b=⟨#[]⟩):decide (¬((l.length:Nat):Int)=2)=decide (¬Vk (.mk b l)):=by
 refine aj.2 (not_congr ⟨fun e=> .inr ⟨k,by show l.length=2;omega⟩,fun e=>?_⟩);rcases e with ⟨h2,_⟩|⟨_,h2⟩
 ·exact absurd h2 h
 ·have:l.length=2:=h2
  omega
end ok
theorem yv:(prog.info? 41).map (·.size)=some 2:=by kernel_rfl
theorem N2:(prog.info? 41).map (·.zero)=some (some (.agg #[.string ⟨#[]⟩,.slice none 0 0])):=by kernel_rfl
set_option maxRecDepth 100000 in
set_option maxHeartbeats 2000000 in
theorem swk_step(l0N:w0.heap.size<=bN)(_l0V:w0.heap.size<=bV)(nVN:bV≠bN){base:ByteArray}{args:List Sm}{d:Nat}(hS:SimsIn w0 A args)(IH:∀ x∈args,∀(A2:Option Addr) (c2 d2 n2:Nat) (w2:World),SimsIn w0 A2 x.args->n2<=200->d2<=41->Bel w0 w2->Blk w2 bN 3 #[.int .i64 ((n2:Nat):Int)]->Blk w2 bV 146 #[.func (.func 92) #[] (cH bN bV)]->Calls prog 92 #[.agg #[.string x.base,.slice A2 x.args.length c2],.int .i64 ((d2:Nat):Int),.pointer (some ⟨bN,0,none⟩),.pointer (some ⟨bV,0,none⟩)] w2 fun e w'=>e= .returned (.int .i64 (swk x d2 n2).2)/\ChG (fun g=>g=bN) w2 w'/\Blk w' bN 3 #[.int .i64 (((swk x d2 n2).1:Nat):Int)])(hn:n<=200)(hd:d<=41)(hB:Bel w0 w)(a3:Blk w bN 3 #[.int .i64 ((n:Nat):Int)])(a5:Blk w bV 146 #[.func (.func 92) #[] (cH bN bV)]):Calls prog 92 #[.agg #[.string base,.slice A args.length c],.int .i64 ((d:Nat):Int),.pointer (some ⟨bN,0,none⟩),.pointer (some ⟨bV,0,none⟩)] w fun e w'=>e= .returned (.int .i64 (swk (.mk base args) d n).2)/\ChG (fun g=>g=bN) w w'/\Blk w' bN 3 #[.int .i64 (((swk (.mk base args) d n).1:Nat):Int)]:=by
 have hmx:=hS.le;unfold vJ at hmx;have ltN:=a3.lt;have ltV:=a5.lt;have hC:ChG (fun g=>g=bN) w w:=ChG.refl _ _;refine enter func92 ntmps92 rfl (aD rfl) (zn2 ?_);refine xy (v:= .agg #[_,_]) (cs:=#[_,_]) rfl rfl (fun b4 w1 hb4 s1 hr=>?_);have:=a3.ob hr;have:=a5.ob hr;replace hC:=hC.st s1 (by simp);refine zn7 ?_;replace a3:=a3.tr0 s1;refine xQ (v:= .int _ _) a3 rfl rfl qk (by first|decide|simp) rfl rfl (fun w2 hq s2=>?_);replace hB:=hB.u.tr1 s2 l0N;replace hC:=hC.st s2 (fun g hg=>by rw[List.mem_singleton.1 hg];first|exact .inl rfl|exact .inr or_hC_bN);replace a3:=hq;refine zn4 ?_;refine xw [13,14,15,16,17,18] 18 (.bool (decide (200<n+1\/40<d))) nu ?_ (fun gq=>?_)
 ·refine zn4 ?_;refine zw 15 rfl (fun g15=>?_) (fun g15=>?_)
  ·refine zn3 ?_;refine zJ (e_R ⟨rfl,agA,?_⟩);exact clA
  refine zn5 ?_;refine zJ (e_R ⟨rfl,agA,?_⟩);exact clA
 refine e_S ?_;refine zQ rfl (fun ao=>?_) (fun ao=>?_)
 ·refine zn8 ?_;have e:swk (.mk base args) d n=(n+1,1):=by rw[O5,if_pos ao]
  rw[e];exact⟨rfl,hC,a3⟩
 refine zn3 ?_;refine xw (rg [7] 19 8) 7 (.bool (decide (base=smE\/base=smT))) nu ?_ (fun gq=>?_)
 ·refine zn5 ?_;refine zw 22 rfl (fun an=>?_) (fun an=>?_)
  ·refine zn5 ?_;refine zJ (e_R ⟨rfl,agA,?_⟩);show Value.bool _=Value.bool _
   first|exact ae (ai (Or.inl an)).symm|exact ae (aj.2 ⟨Or.inr,fun h=>h.resolve_left an⟩)
  refine zn8 ?_;refine zJ (e_R ⟨rfl,agA,?_⟩);show Value.bool _=Value.bool _
  first|exact ae (ai (Or.inl an)).symm|exact ae (aj.2 ⟨Or.inr,fun h=>h.resolve_left an⟩)
 refine zn3 ?_;refine xw (rg [] 27 19) 45 (.bool (decide (¬Vk (.mk base args)))) nu ?_ (fun gq=>?_)
 ·refine zn3 ?_;refine zw 28 rfl (fun a1=>?_) (fun a1=>?_)
  ·refine yW ?_;refine zw 34 rfl (fun a9=>?_) (fun a9=>?_)
   ·refine jq ?_;refine zJ (e_R ⟨rfl,agA,?_⟩);show Value.bool _=Value.bool _
    first|exact(okX a1 a2).elim|exact ae (ap (fun h=>h (okA a1 a9))).symm|exact ae (ai (okB1 a1 a9)).symm|exact ae (ai (okB2 a1 a2)).symm|exact ae (okD a1 a2)
   refine zn8 ?_;refine zw 38 rfl (fun a2=>?_) (fun a2=>?_)
   ·refine vj ?_;refine zJ (e_R ⟨rfl,agA,?_⟩);show Value.bool _=Value.bool _
    first|exact(okX a1 a2).elim|exact ae (ap (fun h=>h (okA a1 a9))).symm|exact ae (ai (okB1 a1 a9)).symm|exact ae (ai (okB2 a1 a2)).symm|exact ae (okD a1 a2)
   refine zn8 ?_;refine zJ (e_R ⟨rfl,agA,?_⟩);show Value.bool _=Value.bool _
   first|exact(okX a1 a2).elim|exact ae (ap (fun h=>h (okA a1 a9))).symm|exact ae (ai (okB1 a1 a9)).symm|exact ae (ai (okB2 a1 a2)).symm|exact ae (okD a1 a2)
  refine ZV ?_;refine zw 38 rfl (fun a2=>?_) (fun a2=>?_)
  ·refine vj ?_;refine zJ (e_R ⟨rfl,agA,?_⟩);show Value.bool _=Value.bool _
   first|exact(okX a1 a2).elim|exact ae (ap (fun h=>h (okA a1 a9))).symm|exact ae (ai (okB1 a1 a9)).symm|exact ae (ai (okB2 a1 a2)).symm|exact ae (okD a1 a2)
  refine zn8 ?_;refine zJ (e_R ⟨rfl,agA,?_⟩);show Value.bool _=Value.bool _
  first|exact(okX a1 a2).elim|exact ae (ap (fun h=>h (okA a1 a9))).symm|exact ae (ai (okB1 a1 a9)).symm|exact ae (ai (okB2 a1 a2)).symm|exact ae (okD a1 a2)
 refine e_S ?_;refine zQ rfl (fun b3=>?_) (fun b3=>?_)
 ·have e:swk (.mk base args) d n=(n+1,5):=by rw[O5,if_neg ao,if_neg b3]
  refine zn8 ?_;rw[e];exact⟨rfl,hC,a3⟩
 have hok:Vk (.mk base args):=az.1 b3;have he:swk (.mk base args) d n=MQ args (d+1) (n+1):=by rw[O5,if_neg ao,if_pos hok];rfl
 refine vj ?_;refine qx (rg [6,9,10] 49 13) (fun m g w'=>∃ j nj:Nat,j<=args.length/\m=args.length-j/\g 49= .int .i64 j/\nj<=200/\MQ args (d+1) (n+1)=MQ (args.drop j) (d+1) nj/\Bel w0 w'/\Blk w' bN 3 #[.int .i64 ((nj:Nat):Int)]/\Blk w' bV 146 #[.func (.func 92) #[] (cH bN bV)]/\ChG (fun g=>g=bN) w w') (args.length) ?_ (fun m g8 w3 hI=>?_)
 ·exact⟨0,n+1,ag _,rfl,rfl,by omega,rfl,hB,a3,a5.u,hC⟩
 obtain⟨j,nj,hj,hmj,h49,hnj,hR,hB,a3,a5,hC⟩:=hI;refine zX 49 _ h49 nu (zn6 ?_);refine zQ rfl (fun c50=>?_) (fun c50=>?_)
 ·have ac:j<args.length:=by omega
  obtain⟨sb,so,A',c',rfl,hsb,hsr,hs2⟩:=hS.at_ ac;have hdr:args.drop j=args[j]::args.drop (j+1):=List.drop_eq_getElem_cons ac;rw[hdr,MQ]at hR;refine zn8 ?_;refine qW (cs:=#[.string ⟨#[]⟩,.slice none 0 0]) N2 rfl (fun b9 w4 hb9 s3 hr=>?_);have:=a3.ob hr;have:=a5.ob hr;have a4:=(nLT hC.size hr)
  have lo9:=hB.ob hr;replace hC:=hC.st s3 (by simp);refine zZ hb9 rfl rfl yv rfl qz (fun w5 hq s4=>?_);replace hC:=hC.st s4 (fun g hg=>by rw[List.mem_singleton.1 hg];first|exact .inl rfl|exact .inr a4);replace hb9:=hq;refine zn8 ?_;refine yy rfl kR (IH _ (am ac) A' c' (d+1) nj _ hs2 hnj oG hB.u a3.u a5.u) rfl rfl (fun e' w6 hr=>?_);obtain⟨rfl,b2,b1⟩:=hr;replace hB:=(hB.tr0 s3).tr1 s4 lo9;replace hB:=hB.chG b2 (fun g hg=>by rw[show g=bN from hg];exact l0N);replace a5:=(a5.tr0 s3).tr1 s4 oG;replace a5:=a5.chG b2 (fun hx=>by have hx:bV=bN:=hx;omega);replace hC:=hC.trans b2 (fun g hg=> .inl hg);replace a3:=b1;refine⟨_,rfl,?_⟩;refine zn9 ?_;refine zQ rfl (fun ab=>?_) (fun ab=>?_)
  ·rw[if_neg ab]at hR;refine uw ?_;rw[he,hR];exact⟨rfl,hC,a3⟩
  have ab:(swk (args[j]'ac) (d+1) nj).2=0:=az.1 ab;rw[if_pos ab]at hR;obtain⟨_,_,e1,e2⟩:=swk_ts _ _ _ ab;have hn3:(swk (args[j]'ac) (d+1) nj).1<=200:=by rw[e1];exact e2
  have hR3:=hR;refine zn7 ?_;refine x8 (args.length-(j+1)) oG agA ?_;exact⟨j+1,_,by omega,rfl,rfl,hn3,hR3,hB,a3,a5,hC⟩
 have hje:j=args.length:=by omega
 rw[hje,List.drop_length,MQ]at hR;refine vj ?_;rw[he,hR];exact⟨rfl,hC,a3⟩
theorem swk_anyK(l0N:w0.heap.size<=bN)(a1:w0.heap.size<=bV)(nVN:bV≠bN):∀(k:Nat) (s:Sm),SizeOf.sizeOf s<k->∀(A:Option Addr) (c d n:Nat) (w:World),SimsIn w0 A s.args->n<=200->d<=41->Bel w0 w->Blk w bN 3 #[.int .i64 ((n:Nat):Int)]->Blk w bV 146 #[.func (.func 92) #[] (cH bN bV)]->Calls prog 92 #[.agg #[.string s.base,.slice A s.args.length c],.int .i64 ((d:Nat):Int),.pointer (some ⟨bN,0,none⟩),.pointer (some ⟨bV,0,none⟩)] w fun e w'=>e= .returned (.int .i64 (swk s d n).2)/\ChG (fun g=>g=bN) w w'/\Blk w' bN 3 #[.int .i64 (((swk s d n).1:Nat):Int)]:=by
 intro k
 induction k with
 | zero=>intro s h;omega
 | succ k ih=>
  intro s h A c d n w hS hn hd hB hbN hbV;cases s with
  | mk base args=>exact swk_step (base:=base) (args:=args) l0N a1 nVN hS (fun x hx A2 c2 d2 n2 w2 h1 h2 h3 h4 h5 h6=>ih x (by have:=List.sizeOf_lt_of_mem hx;simp only[Sm.mk.sizeOf_spec]at h;omega) A2 c2 d2 n2 w2 h1 h2 h3 h4 h5 h6) hn hd hB hbN hbV
theorem swk_any(l0N:w0.heap.size<=bN)(a1:w0.heap.size<=bV)(nVN:bV≠bN)(s:Sm)(A:Option Addr)(c d n:Nat)(w:World):SimsIn w0 A s.args->n<=200->d<=41->Bel w0 w->Blk w bN 3 #[.int .i64 ((n:Nat):Int)]->Blk w bV 146 #[.func (.func 92) #[] (cH bN bV)]->Calls prog 92 #[.agg #[.string s.base,.slice A s.args.length c],.int .i64 ((d:Nat):Int),.pointer (some ⟨bN,0,none⟩),.pointer (some ⟨bV,0,none⟩)] w fun e w'=>e= .returned (.int .i64 (swk s d n).2)/\ChG (fun g=>g=bN) w w'/\Blk w' bN 3 #[.int .i64 (((swk s d n).1:Nat):Int)]:=swk_anyK l0N a1 nVN (SizeOf.sizeOf s+1) s (aI _) A c d n w
end
theorem sm2_two{c2:Nat}{A2:Option Addr}{t:Sm}(hb:Blk w b 41 #[.string s.base,.slice A1 s.args.length c1,.string t.base,.slice A2 t.args.length c2])(h1:SimsIn w A1 s.args)(h2:SimsIn w A2 t.args):SimsIn w (some ⟨b,0,none⟩) [s,t]:=by
 refine .more (by simp[vJ]) hb.lt (fun k hk=>?_)
 match k,hk with
 | 0,_=>
  rw[show[s,t][0]=Sm.mk s.base s.args from Sm.eta s];refine SimAt.mk (c:=c1) hb.lt (fun i v hv=>?_) h1
  match i,hv with
  | 0,hv=>exact hb.cell hv
  | 1,hv=>exact hb.cell hv
  | i+2,hv=>simp at hv
 | 1,_=>
  rw[show[s,t][1]=Sm.mk t.base t.args from Sm.eta t];refine SimAt.mk (c:=c2) hb.lt (fun i v hv=>?_) h2
  match i,hv with
  | 0,hv=>exact hb.cell hv
  | 1,hv=>exact hb.cell hv
  | i+2,hv=>simp at hv
def tb(τ:Ts):ByteArray:=⟨τ.txt.toArray⟩
theorem IX(τ:Ts):(tb τ).size=τ.txt.length:=by rw[<- Dy];rfl
theorem tb_eq(a b:Ts):decide (tb a=tb b)=a.eqb b:=by
 by_cases h:a=b
 ·subst h;rw[decide_eq_true rfl,(Ts.eqb_iff).2 rfl]
 ·rw[decide_eq_false (fun e=>h (Ts.txt_inj (by have:=congrArg bl e;exact this)))]
  cases e:a.eqb b with
  | true=>exact absurd (Ts.eqb_iff.1 e) h
  | false=>rfl
theorem tb_leaf(t:Bool):tb (.b t)=(Ts.b t).sm.base:=by cases t<;>rfl
theorem tb_f(x y:Ts):(⟨#[40]⟩:ByteArray)++tb x++⟨#[32]⟩++tb y++⟨#[41]⟩=tb (.f x y):=by
 refine Wv ?_;simp only[bl_app];show[40]++x.txt++[32]++y.txt++[41]=40::(x.txt++32::(y.txt++[41]));simp
theorem ts_leaf(h:¬τ.sm.base=⟨#[]⟩):∃ t,τ= .b t:=by
 cases τ with
 | b t=>exact⟨t,rfl⟩
 | f x y=>exact absurd rfl h
theorem ts_fun(h:τ.sm.base=⟨#[]⟩):∃ x y,τ= .f x y:=by
 cases τ with
 | b t=>exact absurd h (by cases t<;>decide)
 | f x y=>exact⟨x,y,rfl⟩
theorem to_any(A1 A2:Option Addr)(c1 c2:Nat)(s t:Sm)(w:World):Calls prog 101 #[.agg #[.string s.base,.slice A1 s.args.length c1],.agg #[.string t.base,.slice A2 t.args.length c2]] w fun e w'=>(∃ b,e= .returned (.agg #[.string ⟨#[]⟩,.slice (some ⟨b,0,none⟩) 2 2])/\w.heap.size<=b/\Blk w' b 41 #[.string s.base,.slice A1 s.args.length c1,.string t.base,.slice A2 t.args.length c2])/\Bel w w':=by
 refine enT func101 ntmps101 rfl rfl fun hB=>?_;refine zn2 ?_;refine xy (v:= .agg #[_,_]) (cs:=#[_,_]) rfl rfl (fun b2 w1 hb2 s1 hr=>?_);refine xy (v:= .agg #[_,_]) (cs:=#[_,_]) rfl rfl (fun b3 w2 hb3 s2 hr=>?_);refine qW (cs:=#[.string ⟨#[]⟩,.slice none 0 0]) N2 rfl (fun b4 w3 a1 s3 hr=>?_);have lo4:=hB.u.ob hr;refine zn6 ?_;refine qV (cs:=#[_,_,_,_]) [(0,.agg _),(1,.agg _)] rfl U39 yv N2 dE dE kR rfl (fun b7 w4 hb7 s4 hr=>?_);have:=a1.ob hr;have lo7:=hB.u.ob hr;refine wl (YQ (v0:= .slice _ _ _) (fun v0=>#[.string ⟨#[]⟩,v0]) rfl kR) ?_;refine zZ a1.u rfl rfl yv rfl qz (fun w5 hq s5=>?_);replace a1:=hq;refine zn3 ?_;refine xK (.inl rfl) rfl (zW U41 rfl rfl a1.range0 yv) ?_;exact⟨⟨b7,rfl,lo7,hb7.u⟩,hB.u⟩
theorem Jv(A:Option Addr)(c:Nat)(s:Sm)(w:World):Calls prog 86 #[.agg #[.string s.base,.slice A s.args.length c]] w fun e w'=>e= .returned (.bool (decide (Mz s)))/\Bel w w':=by
 refine enT func86 ntmps86 rfl rfl fun hB=>?_;refine zn2 ?_;refine xy (v:= .agg #[_,_]) (cs:=#[_,_]) rfl rfl (fun b1 w1 hb1 s1 hr=>?_);refine zn4 ?_;refine xw (rg [] 2 10) 2 (.bool (decide (Mz s))) nu ?_ (fun gq=>?_)
 ·refine zn5 ?_;refine zw 6 rfl (fun g6=>?_) (fun g6=>?_)
  ·refine yW ?_;refine zJ (e_R ⟨rfl,agA,?_⟩);show Value.bool _=Value.bool _
   first|exact ae (aj.2 ⟨fun e=>⟨g6,by omega⟩,fun e=>by have:=e.2;omega⟩)|exact ae (ap (fun e=>g6 e.1)).symm
  refine zn6 ?_;refine zJ (e_R ⟨rfl,agA,?_⟩);show Value.bool _=Value.bool _
  first|exact ae (aj.2 ⟨fun e=>⟨g6,by omega⟩,fun e=>by have:=e.2;omega⟩)|exact ae (ap (fun e=>g6 e.1)).symm
 refine zn3 ?_;exact⟨rfl,hB.u⟩
theorem LJ(A:Option Addr)(c:Nat)(s:Sm)(w:World):Calls prog 74 #[.agg #[.string s.base,.slice A s.args.length c]] w fun e w'=>e= .returned (.bool (decide (Mz s)))/\Bel w w':=by
 refine enT func74 ntmps74 rfl rfl fun hB=>?_;refine zn2 ?_;refine xy (v:= .agg #[_,_]) (cs:=#[_,_]) rfl rfl (fun b1 w1 hb1 s1 hr=>?_);refine zn4 ?_;refine xw (rg [] 2 10) 2 (.bool (decide (Mz s))) nu ?_ (fun gq=>?_)
 ·refine zn5 ?_;refine zw 6 rfl (fun g6=>?_) (fun g6=>?_)
  ·refine yW ?_;refine zJ (e_R ⟨rfl,agA,?_⟩);show Value.bool _=Value.bool _
   first|exact ae (aj.2 ⟨fun e=>⟨g6,by omega⟩,fun e=>by have:=e.2;omega⟩)|exact ae (ap (fun e=>g6 e.1)).symm
  refine zn6 ?_;refine zJ (e_R ⟨rfl,agA,?_⟩);show Value.bool _=Value.bool _
  first|exact ae (aj.2 ⟨fun e=>⟨g6,by omega⟩,fun e=>by have:=e.2;omega⟩)|exact ae (ap (fun e=>g6 e.1)).symm
 refine zn3 ?_;exact⟨rfl,hB.u⟩
set_option maxHeartbeats 1000000 in
theorem stx_step(hS:SimsIn w A τ.sm.args)(a1:τ.txt.length<=1000000)(IH:∀ x∈τ.kids,∀(A2:Option Addr) (c2:Nat) (w2:World),SimsIn w2 A2 x.sm.args->x.txt.length<=1000000->Calls prog 109 #[.agg #[.string (x).sm.base,.slice A2 (x).sm.args.length c2]] w2 fun e w'=>e= .returned (.string (tb x))/\Bel w2 w'):Calls prog 109 #[.agg #[.string (τ).sm.base,.slice A (τ).sm.args.length c]] w fun e w'=>e= .returned (.string (tb τ))/\Bel w w':=by
 refine enT func109 ntmps109 rfl rfl fun hB=>?_;refine zn2 ?_;refine xy (v:= .agg #[_,_]) (cs:=#[_,_]) rfl rfl (fun b1 w1 hb1 s1 hr=>?_);refine jq ?_;refine zQ rfl (fun c5=>?_) (fun c5=>?_)
 ·obtain⟨t,rfl⟩:=ts_leaf c5;refine yW ?_;exact⟨congrArg (fun z=>Ending.returned (.string z)) (tb_leaf t).symm,hB.u⟩
 obtain⟨x,y,rfl⟩:=ts_fun (az.1 c5);obtain⟨sb,so,A1,c1,rfl,hsb,hr1,hs1⟩:=hS.at_ (k:=0) (by simp[Ts.sm,Sm.args]);obtain⟨_,_,A2,c2,e2,_,hr2,hs2⟩:=hS.at_ (k:=1) (by simp[Ts.sm,Sm.args]);cases e2;have hlx:x.txt.length+y.txt.length+3<=1000000:=by simp[Ts.txt]at a1;omega
 refine zn3 ?_;refine uz [] [0,1,2,3,7,8,9,10,4,5,6,11,12,13,14] rfl (fun w2 s2=>?_);refine zn2 ?_;refine hl rfl (fun _=>x9 (i:=0) U39 yv rfl rfl (by show 0<2;decide) rfl) (zn3 ?_);refine hl rfl (fun _=>x9 (i:=1) U39 yv rfl rfl (by show 1<2;decide) rfl) (zn1 ?_);refine hcl (fun v wv=>v= .string (tb x)) rfl kR (IH x (aB ..) A1 c1 w2 (hs1.mono hB.u) oG) rfl (fun e' w2 hr=>?_) (fun v12 w3 s3 d12=>?_)
 ·obtain⟨rfl,s4⟩:=hr;exact⟨_,rfl,sB s4,rfl⟩
 have e12:=d12;subst e12;refine hl rfl (fun _=>Fk rfl rfl (by rw[IX];show 1+_<=_;omega)) (hl rfl (fun _=>Fk rfl rfl (by rw[ByteArray.size_append,IX];show 1+_+1<=_;omega)) ?_);refine hcl (fun v wv=>v= .string (tb y)) rfl kR (IH y (ar _ (aB ..)) A2 c2 w3 (hs2.mono hB.u) oG) rfl (fun e' w2 hr=>?_) (fun v19 w4 s5 d19=>?_)
 ·obtain⟨rfl,s6⟩:=hr;exact⟨_,rfl,sB s6,rfl⟩
 have e19:=d19;subst e19;refine hl rfl (fun _=>Fk rfl rfl (by rw[ByteArray.size_append,ByteArray.size_append,IX,IX];show 1+_+1+_<=_;omega)) (hl rfl (fun _=>Fk rfl rfl (by rw[ByteArray.size_append,ByteArray.size_append,ByteArray.size_append,IX,IX];show 1+_+1+_+1<=_;omega)) (zn5 ?_));exact⟨congrArg (fun z=>Ending.returned (.string z)) (tb_f x y),hB.u⟩
theorem stx_any:∀(k:Nat) (τ:Ts),τ.size<k->∀(A:Option Addr) (c:Nat) (w:World),SimsIn w A τ.sm.args->τ.txt.length<=1000000->Calls prog 109 #[.agg #[.string (τ).sm.base,.slice A (τ).sm.args.length c]] w fun e w'=>e= .returned (.string (tb τ))/\Bel w w':=by
 intro k
 induction k with
 | zero=>intro τ h;omega
 | succ k ih=>exact fun τ h A c w hS hl=>stx_step hS hl (fun x hx A2 c2 w2 h1 h2=>ih x (by have:=Ts.kids_lt hx;omega) A2 c2 w2 h1 h2)
theorem samet_any(A1 A2:Option Addr)(c1 c2:Nat)(a b:Ts)(w:World)(h1:SimsIn w A1 a.sm.args)(h2:SimsIn w A2 b.sm.args)(hl1:a.txt.length<=1000000)(hl2:b.txt.length<=1000000):Calls prog 102 #[.agg #[.string a.sm.base,.slice A1 a.sm.args.length c1],.agg #[.string b.sm.base,.slice A2 b.sm.args.length c2]] w fun e w'=>e= .returned (.bool (a.eqb b))/\Bel w w':=by
 refine enT func102 ntmps102 rfl rfl fun hB=>?_;refine zn2 ?_;refine xy (v:= .agg #[_,_]) (cs:=#[_,_]) rfl rfl (fun b2 w1 hb2 s1 hr=>?_);refine xy (v:= .agg #[_,_]) (cs:=#[_,_]) rfl rfl (fun b3 w2 hb3 s2 hr=>?_);refine zn4 ?_;refine uz [] [0,2,1,3,4,5] rfl (fun w3 s3=>?_);refine zn2 ?_;refine hcl (fun v wv=>v= .string (tb a)) rfl kR (stx_any _ a (aI _) A1 c1 w3 (h1.mono hB.u) hl1) rfl (fun e' w2 hr=>?_) (fun v6 w4 s4 d6=>?_)
 ·obtain⟨rfl,s5⟩:=hr;exact⟨_,rfl,sB s5,rfl⟩
 have e6:=d6;subst e6;refine hcl (fun v wv=>v= .string (tb b)) rfl kR (stx_any _ b (aI _) A2 c2 w4 (h2.mono hB.u) hl2) rfl (fun e' w2 hr=>?_) (fun v8 w5 s6 d8=>?_)
 ·obtain⟨rfl,s7⟩:=hr;exact⟨_,rfl,sB s7,rfl⟩
 have e8:=d8;subst e8;refine zn6 ?_;exact⟨congrArg (fun z=>Ending.returned (.bool z)) (tb_eq a b),hB.u⟩
set_option maxRecDepth 100000 in
theorem same_step{A2:Option Addr}{c2:Nat}{a b:Ts}(h1:SimsIn w A1 a.sm.args)(h2:SimsIn w A2 b.sm.args)(IH:∀ x∈a.kids,∀(A1 A2:Option Addr) (c1 c2:Nat) (b:Ts) (w:World),SimsIn w A1 x.sm.args->SimsIn w A2 b.sm.args->Calls prog 93 #[.agg #[.string x.sm.base,.slice A1 x.sm.args.length c1],.agg #[.string b.sm.base,.slice A2 b.sm.args.length c2]] w fun e w'=>e= .returned (.bool (x.eqb b))/\Bel w w'):Calls prog 93 #[.agg #[.string a.sm.base,.slice A1 a.sm.args.length c1],.agg #[.string b.sm.base,.slice A2 b.sm.args.length c2]] w fun e w'=>e= .returned (.bool (a.eqb b))/\Bel w w':=by
 have hk1:=Ts.kids_len a;have hk2:=Ts.kids_len b;have ek1:a.sm.args.length=a.kids.length:=by rw[Ts.kids_sm,List.length_map]
 have ek2:b.sm.args.length=b.kids.length:=by rw[Ts.kids_sm,List.length_map]
 refine enT func93 ntmps93 rfl rfl fun hB=>?_;refine zn2 ?_;refine xy (v:= .agg #[_,_]) (cs:=#[_,_]) rfl rfl (fun b2 w1 ab s1 hr=>?_);refine xy (v:= .agg #[_,_]) (cs:=#[_,_]) rfl rfl (fun b3 w2 a9 s2 hr=>?_);refine zn5 ?_;replace hB:=hB.tr0 (s1.t s2);refine xw (rg [] 6 14) 19 (.bool (decide (¬(a.sm.base=b.sm.base/\a.sm.args.length=b.sm.args.length)))) nu ?_ (fun gq=>?_)
 ·refine zn7 ?_;refine zw 11 rfl (fun a2=>?_) (fun a2=>?_)
  ·refine zn8 ?_;refine zJ (e_R ⟨rfl,agA,?_⟩);show Value.bool _=Value.bool _
   first|exact ae (ai (by exact fun h=>a2 h.1)).symm|exact ae (aj.2 (by exact⟨fun h k=>h (by have:=k.2;omega),fun h e=>h ⟨ak.1 a2,by omega⟩⟩))
  refine Yv ?_;refine zJ (e_R ⟨rfl,agA,?_⟩);show Value.bool _=Value.bool _
  first|exact ae (ai (by exact fun h=>a2 h.1)).symm|exact ae (aj.2 (by exact⟨fun h k=>h (by have:=k.2;omega),fun h e=>h ⟨ak.1 a2,by omega⟩⟩))
 refine e_S ?_;refine zQ rfl (fun ac=>?_) (fun ac=>?_)
 ·refine zn8 ?_;have a4:¬a=b:=fun e=>ac (by subst e;exact⟨rfl,rfl⟩)
  exact⟨congrArg (fun z=>Ending.returned (.bool z)) (Bool.eq_false_iff.2 (fun e=>a4 (Ts.eqb_iff.1 e))).symm,hB⟩
 have hbl:=az.1 ac;refine vj ?_;refine qx (rg [4,5] 23 16) (fun m g w'=>∃ j:Nat,j<=a.kids.length/\m=a.kids.length-j/\g 23= .int .i64 j/\Bel w w'/\Blk w' b2 41 #[.string a.sm.base,.slice A1 a.sm.args.length c1]/\Blk w' b3 41 #[.string b.sm.base,.slice A2 b.sm.args.length c2]/\a.kids.take j=b.kids.take j) (a.kids.length) ?_ (fun m g4 w3 hI=>?_)
 ·exact⟨0,ag _,rfl,rfl,hB,ab.u,a9,rfl⟩
 obtain⟨j,hj,hmj,h23,hB,ab,a9,a1⟩:=hI;refine zX 23 _ h23 nu (zn6 ?_);refine zQ rfl (fun c24=>?_) (fun c24=>?_)
 ·have a5:j<a.kids.length:=by omega
  have hjb:j<b.kids.length:=by omega
  obtain⟨sb,so,A3,c3,rfl,hsb,hr3,hs3⟩:=L1 h1 a5;obtain⟨tb,to,A4,c4,rfl,htb,hr4,hs4⟩:=L1 h2 hjb;refine jq ?_;refine X1 10 kR kR (fun w4 s3=>?_);refine yW ?_;refine QY ?_;refine ba kR (IH _ (am a5) A3 A4 c3 c4 _ _ (hs3.mono hB.u) (hs4.mono hB.u)) rfl (fun w5 s4=>?_);refine zn3 ?_;refine jQ rfl (fun a3=>?_) (fun a3=>?_)
  ·refine vj ?_;have a4:¬a=b:=fun e=>by
    have h:=(Ts.eqb_iff (a:=a.kids[j]) (b:=b.kids[j])).2 (by subst e;rfl);rw[h]at a3;cases a3
   exact⟨congrArg (fun z=>Ending.returned (.bool z)) (Bool.eq_false_iff.2 (fun e=>a4 (Ts.eqb_iff.1 e))).symm,hB.u⟩
  refine zn7 ?_;refine x8 (a.kids.length-(j+1)) oG agA ?_;exact⟨j+1,by omega,rfl,rfl,hB.u,ab.u,a9.u,take_kid a1 a5 hjb (Ts.eqb_iff.1 (by simpa using a3))⟩
 have hje:j=a.kids.length:=by omega
 refine vj ?_;rw[hje,List.take_of_length_le (Nat.le_refl _),List.take_of_length_le oG]at a1;exact⟨congrArg (fun z=>Ending.returned (.bool z)) (Ts.eqb_iff.2 (Ts.ext hbl.1 a1)).symm,hB⟩
theorem same_anyK:∀(k:Nat) (a:Ts),a.size<k->∀(A1 A2:Option Addr) (c1 c2:Nat) (b:Ts) (w:World),SimsIn w A1 a.sm.args->SimsIn w A2 b.sm.args->Calls prog 93 #[.agg #[.string a.sm.base,.slice A1 a.sm.args.length c1],.agg #[.string b.sm.base,.slice A2 b.sm.args.length c2]] w fun e w'=>e= .returned (.bool (a.eqb b))/\Bel w w':=by
 intro k
 induction k with
 | zero=>intro a h;omega
 | succ k ih=>exact fun a h A1 A2 c1 c2 b w h1 h2=>same_step h1 h2 (fun x hx A3 A4 c3 c4 b2 w2 h3 h4=>ih x (by have:=Ts.kids_lt hx;omega) A3 A4 c3 c4 b2 w2 h3 h4)
theorem samE_any(A1 A2:Option Addr)(c1 c2:Nat)(a b:Ts)(w:World)(h1:SimsIn w A1 a.sm.args)(h2:SimsIn w A2 b.sm.args):Calls prog 93 #[.agg #[.string a.sm.base,.slice A1 a.sm.args.length c1],.agg #[.string b.sm.base,.slice A2 b.sm.args.length c2]] w fun e w'=>e= .returned (.bool (a.eqb b))/\Bel w w':=same_anyK _ a (aI _) A1 A2 c1 c2 b w h1 h2
theorem map_two{α β:Type}{l:List α}(h:l.length=2)(f:α->β):l.map f= [f (l[0]'oG),f (l[1]'oG)]:=by
 match l,h with
 | [a,b],_=>rfl
theorem okR1(h:¬s.base=⟨#[]⟩)(k:s.base≠⟨#[101]⟩)(l:s.base≠⟨#[116]⟩):¬Vk s:=by
 rintro (⟨h1|h1,_⟩|⟨h1,_⟩)
 ·exact k h1
 ·exact l h1
 ·exact h h1
theorem okR2(h:s.base=smE\/s.base=smT):((s.args.length:Nat):Int)≠0↔¬Vk s:=
 ⟨fun k h2=>by
  rcases h2 with ⟨_,h2⟩|⟨h2,_⟩
  ·omega
  ·exact okX h h2,fun k h2=>k (.inl ⟨h,by omega⟩)⟩
theorem in160:(Tryz.prog.info? 160).map (fun i=>(i.zero,i.size,i.bytes))=some (some (.agg #[.string ⟨#[]⟩,.slice none 0 0,.int .i64 0]),3,48):=by kernel_rfl
theorem T0:(Tryz.prog.info? 160).map (·.size)=some 3:=by kernel_rfl
theorem ze160:(Tryz.prog.info? 160).map (·.zero)=some (some (.agg #[.string ⟨#[]⟩,.slice none 0 0,.int .i64 0])):=by kernel_rfl
set_option maxRecDepth 100000 in
set_option maxHeartbeats 4000000 in
theorem Cx(A:Option Addr)(c:Nat)(s:Sm)(w:World)(hS:SimsIn w A s.args):Calls Tryz.prog 88 #[.agg #[.string s.base,.slice A s.args.length c]] w fun e w'=>e= .returned (.int .i64 (smF s))/\Bel w w':=by
 have hR0:smF s=(sst [(s,1)] 0).2:=by rw[sst_one];rfl
 refine enT Tryz.func88 Tryz.ntmps88 rfl rfl fun hB=>?_;refine zn2 ?_;refine xy (v:= .agg #[_,_]) (cs:=#[_,_]) rfl rfl (fun b1 w1 hb1 t1 hr=>?_);refine zn6 ?_;refine wl (vw (v0:= .agg _) (v1:= .int _ _) (fun v0 v1=>#[(x5 v0 0),(x5 v0 1),v1]) rfl rfl kR) ?_;refine qV (cs:=#[_,_,_]) [(0,.agg _)] rfl U161 T0 ze160 dE dE kR rfl (fun b8 w2 hb8 t2 hr=>?_);have lo8:=hB.u.ob hr;refine yW ?_;refine qx (rg [2,3,4,5] 9 70) (fun m g w'=>∃(st:List (Sm×Nat)) (vs:List Value) (A3:Option Addr) (a9 n:Nat),m=201-n/\n<=200/\st.length<=2*n+1/\g 3= .slice A3 st.length a9/\g 4= .int .i64 n/\Bel w w'/\Own w' w.heap.size 160 3 A3 st.length a9 vs/\StkS w st vs/\smF s=(sst st.reverse n).2) (201) ?_ (fun m g3 w3 hI=>?_)
 ·replace hB:=hB.tr0 (t1.t t2);exact⟨[(s,1)],_,_,_,0,rfl,by omega,by simp,rfl,rfl,hB,YK (m:=1) hb8 lo8 rfl dE,.snoc .nil hS,hR0⟩
 obtain⟨st,vs,A3,a9,n,hm,hn,hsl,h3,h4,hB,ho,bd,hR⟩:=hI;refine zX 3 _ h3 nu (zX 4 _ h4 nu (zn8 ?_));refine zQ rfl (fun c11=>?_) (fun c11=>?_)
 ·obtain⟨a1,ab,s1,d1,A1,c1,rfl,rfl,a2,hs1⟩:=bd.pop oG;have an:(a1++[(s1,d1)]).length=a1.length+1:=by simp
  rw[I4]at hR;obtain⟨q,rfl,hqb,hql,hqc⟩:=ho.cell (by simp);refine zn8 ?_;refine wl (kZ (c:=(a1.length:Int)) rfl rfl (by rw[an];omega) oG) (wl (x9 (i:=a1.length) U161 T0 rfl rfl (by rw[an];omega) rfl) (wl (qw U160 rfl rfl (own_top ho a2.len) T0) ?_));refine yx (cs:=#[.string ⟨#[]⟩,.slice none 0 0,.int .i64 0]) ze160 rfl (fun _=>rfl) (fun _=>rfl) T0 rfl qz (fun b5 w5 hb5 t3 hr=>?_);refine zn7 ?_;refine wl (kZ (c:=(a1.length:Int)) rfl rfl (by rw[an];omega) oG) ?_;replace ho:=ho.tr0 t3;refine wl (I7 (h:=a1.length) U161 T0 rfl rfl (by have:=ho.cap_le;omega)) (zn4 ?_);replace hB:=hB.tr0 t3;replace ho:Own w5 w.heap.size 160 3 (some ⟨q,0,none⟩) a1.length a9 ab:=by
    have h:=ho.take (k':=a1.length) oG oG
    rwa[List.take_append_of_le_length (by rw[a2.len];exact ah _),aZ (by rw[a2.len];exact ah _)]at h
  refine zn8 ?_;refine xw [25,26,27,28,29,30,31] 31 (.bool (decide (200<n+1\/40<d1))) nu ?_ (fun gq=>?_)
  ·refine zn4 ?_;refine zw 27 rfl (fun g27=>?_) (fun g27=>?_)
   ·refine zn4 ?_;refine zJ (e_R ⟨rfl,agA,?_⟩);exact clA
   refine zn7 ?_;refine zJ (e_R ⟨rfl,agA,?_⟩);exact clA
  refine e_S ?_;refine zQ rfl (fun b4=>?_) (fun b4=>?_)
  ·rw[sst_out b4]at hR;refine vj ?_;exact⟨by rw[hR];rfl,hB⟩
  refine yW ?_;refine zQ rfl (fun b3=>?_) (fun b3=>?_)
  ·refine yW ?_;refine zQ rfl (fun c40=>?_) (fun c40=>?_)
   ·have hno:¬Vk s1:=fun h=>by
      rcases h with ⟨h,_⟩|⟨_,h⟩
      · exact okX h b3
      · omega
    rw[sst_bad b4 hno]at hR;refine vj ?_;exact⟨by rw[hR];rfl,hB⟩
   have h2l:s1.args.length=2:=by omega
   have a3:1<s1.args.length:=by omega
   have a4:0<s1.args.length:=by omega
   have bc:Vk s1:= .inr ⟨b3,h2l⟩;rw[sst_go b4 bc]at hR;obtain⟨sb,so,B0,e0,rfl,hsb,hr0,b9⟩:=hs1.at_ a4;obtain⟨_,_,B1,e1,ez,_,hr1,b7⟩:=hs1.at_ a3;cases ez;have bb:smF s=(sst (a1++[((s1.args[1]'a3),d1+1)]++[((s1.args[0]'a4),d1+1)]).reverse (n+1)).2:=by
     rw[hR,I4,I4,map_two h2l];rfl
   refine Yj (e_S ?_);have zo:=fun g hg=>(ho.lt g hg).2
   refine Qz [] [20] [0,1,2,3,4,5,6,7,8,9,10,11,12,13,14,15,16,17,18,19,20,21] rfl (fun w6 t4=>?_);refine zn4 ?_;refine hl rfl (fun _=>x9 (i:=1) U39 yv rfl rfl a3 rfl) (zn4 ?_);refine hl rfl (fun _=>vw (v0:= .agg _) (v1:= .int _ _) (fun v0 v1=>#[(x5 v0 0),(x5 v0 1),v1]) rfl rfl kR) (zn3 ?_);refine hl rfl (fun _=>x9 (i:=0) U39 yv rfl rfl a4 rfl) (zn4 ?_);refine hl rfl (fun _=>vw (v0:= .agg _) (v1:= .int _ _) (fun v0 v1=>#[(x5 v0 0),(x5 v0 1),v1]) rfl rfl kR) (h1 rfl ?_);refine qV (cs:=#[_,_,_,_,_,_]) [(0,.agg _),(1,.agg _)] rfl U161 T0 ze160 dE dE kR rfl (fun b60 w7 be t5 hr=>?_);have b6:=t5;refine zJ (K9 b6 (h1 rfl ?_));replace ho:=ho.tr0 (t4.t t5);refine j7 U161 in160 rfl dE ho be rfl rfl rfl qz dE oG oG (Bel.size hB.u) (fun bf a5 w8 ac hs2 hg61=>?_);replace hB:=hB.tr0 (t4.t t5);replace hB:=hB.tr hs2 (fun g hg=>nLT (ah _) (ho.lt g hg).1);obtain⟨bf,a5,e61,ac⟩:∃ g cap,(.slice (some ⟨bf,0,none⟩) (a1.length+2) a5:Value)= .slice (some ⟨g,0,none⟩) (a1.length+2) cap/\Own w8 w.heap.size 160 3 (some ⟨g,0,none⟩) (a1.length+2) cap (ab++[.string (s1.args[1]'a3).base,.slice B1 (s1.args[1]'a3).args.length e1,.int .i64 ((d1:Nat)+1:Int),.string (s1.args[0]'a4).base,.slice B0 (s1.args[0]'a4).args.length e0,.int .i64 ((d1:Nat)+1:Int)]):=⟨_,_,rfl,ac⟩
   cases e61;refine zJ (D0 [] ?_);have q1:(a1++[((s1.args[1]'a3),d1+1)]++[((s1.args[0]'a4),d1+1)]).length=a1.length+2:=by simp
   have q2:ab++[.string (s1.args[1]'a3).base,.slice B1 (s1.args[1]'a3).args.length e1,.int .i64 ((d1:Nat)+1:Int)]++[.string (s1.args[0]'a4).base,.slice B0 (s1.args[0]'a4).args.length e0,.int .i64 ((d1:Nat)+1:Int)]=ab++[.string (s1.args[1]'a3).base,.slice B1 (s1.args[1]'a3).args.length e1,.int .i64 ((d1:Nat)+1:Int),.string (s1.args[0]'a4).base,.slice B0 (s1.args[0]'a4).args.length e0,.int .i64 ((d1:Nat)+1:Int)]:=by simp
   have ho:Own w8 w.heap.size 160 3 (some ⟨bf,0,none⟩) (a1++[((s1.args[1]'a3),d1+1)]++[((s1.args[0]'a4),d1+1)]).length a5 (ab++[.string (s1.args[1]'a3).base,.slice B1 (s1.args[1]'a3).args.length e1,.int .i64 ((d1:Nat)+1:Int)]++[.string (s1.args[0]'a4).base,.slice B0 (s1.args[0]'a4).args.length e0,.int .i64 ((d1:Nat)+1:Int)]):=by rw[q1,q2];exact ac
   refine zn3 ?_;refine x8 (201-(n+1)) oG agA ?_
   first
     | exact⟨a1++[((s1.args[1]'a3),d1+1)]++[((s1.args[0]'a4),d1+1)],_,_,_,n+1,rfl,by omega,by rw[q1];omega,(by rw[q1];rfl),rfl,hB,ho,.snoc (.snoc a2 b7) b9,bb⟩
     | exact⟨a1,ab,_,_,n+1,rfl,by omega,by omega,rfl,rfl,hB,ho,a2,bb⟩
  refine xV ?_;refine xw (rg [] 62 17) 78 (.bool (decide (¬Vk s1))) nu ?_ (fun gq=>?_)
  ·refine zn6 ?_;refine zw 66 rfl (fun b2=>?_) (fun b2=>?_)
   ·refine yW ?_;refine zw 72 rfl (fun ao=>?_) (fun ao=>?_)
    ·refine zn6 ?_;refine zJ (e_R ⟨rfl,agA,?_⟩);show Value.bool _=Value.bool _
     first|exact ae (ai (by exact okR1 b3 b2 ao)).symm|exact ae (aj.2 (by exact okR2 (.inr (ak.1 ao))))|exact ae (aj.2 (by exact okR2 (.inl (ak.1 b2))))
    refine jq ?_;refine zJ (e_R ⟨rfl,agA,?_⟩);show Value.bool _=Value.bool _
    first|exact ae (ai (by exact okR1 b3 b2 ao)).symm|exact ae (aj.2 (by exact okR2 (.inr (ak.1 ao))))|exact ae (aj.2 (by exact okR2 (.inl (ak.1 b2))))
   refine PK ?_;refine zJ (e_R ⟨rfl,agA,?_⟩);show Value.bool _=Value.bool _
   first|exact ae (ai (by exact okR1 b3 b2 ao)).symm|exact ae (aj.2 (by exact okR2 (.inr (ak.1 ao))))|exact ae (aj.2 (by exact okR2 (.inl (ak.1 b2))))
  refine e_S ?_;refine zQ rfl (fun bg=>?_) (fun bg=>?_)
  ·rw[sst_bad b4 bg]at hR;refine jq ?_;exact⟨by rw[hR];rfl,hB⟩
  have bc:Vk s1:=ak.1 bg;have ha0:s1.args= []:=by
    rcases bc with ⟨_,h⟩|⟨h,_⟩
    · exact aK.1 h
    · exact absurd h b3
  have bb:smF s=(sst a1.reverse (n+1)).2:=by rw[hR,sst_go b4 bc,ha0];rfl
  refine Yj (e_B (x8 (201-(n+1)) oG agA ?_))
  first
    | exact⟨a1++[((s1.args[1]'a3),d1+1)]++[((s1.args[0]'a4),d1+1)],_,_,_,n+1,rfl,by omega,by rw[q1];omega,(by rw[q1];rfl),rfl,hB,ho,.snoc (.snoc a2 b7) b9,bb⟩
    | exact⟨a1,ab,_,_,n+1,rfl,by omega,by omega,rfl,rfl,hB,ho,a2,bb⟩
 have hst:st= []:=aK.1 oG;subst hst;have hR3:smF s=0:=hR;refine vj ?_;exact⟨by rw[hR3];rfl,hB⟩
theorem sz146:(Tryz.prog.info? 146).map (·.size)=some 1:=by kernel_rfl
theorem ze146:(Tryz.prog.info? 146).map (·.zero)=some (some (.nilFunc)):=by kernel_rfl
set_option maxHeartbeats 1000000 in
theorem L0(A:Option Addr)(c:Nat)(s:Sm)(w:World)(hS:SimsIn w A s.args):Calls Tryz.prog 73 #[.agg #[.string s.base,.slice A s.args.length c]] w fun e w'=>e= .returned (flV (smF s,0))/\Bel w w':=by
 refine enT Tryz.func73 Tryz.ntmps73 rfl rfl fun hB=>?_;refine zn2 ?_;refine xy (v:= .agg #[_,_]) (cs:=#[_,_]) rfl rfl (fun b1 w1 a9 s1 hr=>?_);refine qW (cs:=#[.int .i64 0,.int .i64 0]) x6 rfl (fun b2 w2 a1 s2 hr=>?_);have:=a9.ob hr;have lo2:=hB.u.ob hr;refine zn4 ?_;refine qW (cs:=#[.int .i64 0]) Z1 rfl (fun b3 w3 a2 s3 hr=>?_);have:=a9.u.ob hr;have:=a1.ob hr;have a3:=hB.u.ob hr;refine xQ (v:= .int _ _) a2 rfl rfl qk (by first|decide|simp) rfl rfl (fun w4 hq s4=>?_);replace a2:=hq;refine zn4 ?_;refine qW (cs:=#[.nilFunc]) ze146 rfl (fun b4 w5 a4 s5 hr=>?_);have:=a9.u.ob hr;have:=a1.u.ob hr;have:=a2.ob hr;have lo4:=hB.u.ob hr;refine zn4 ?_;refine wl (r_mf rfl) ?_;refine xQ (v:= .func _ _ _) a4 rfl rfl sz146 (by first|decide|simp) rfl rfl (fun w6 hq s6=>?_);replace a4:=hq;refine zn6 ?_;refine yy rfl kR (swk_any (w0:=w) (bN:=b3) (bV:=b4) a3 lo4 oG s A c 1 0 _ hS oG oG hB.u a2.u a4) rfl rfl (fun e' w7 hr=>?_);obtain⟨rfl,hC2,a5⟩:=hr;replace hB:=(((hB.tr0 (s1.t (s2.t s3))).tr1 s4 a3).tr0 s5).tr1 s6 lo4;replace hB:=hB.chG hC2 (fun g hg=>by rw[show g=b3 from hg];exact a3);replace a1:=(((a1.tr0 s3).tr1 s4 oG).tr0 s5).tr1 s6 oG;replace a1:=a1.chG hC2 (fun hx=>by have hx:b2=b3:=hx;omega);replace a2:=a5;refine⟨_,rfl,?_⟩;refine wl (YQ (v0:= .int _ _) (fun v0=>#[v0,.int .i64 0]) rfl kR) ?_;refine zZ a1 rfl rfl zj rfl qz (fun w8 hq s7=>?_);replace a1:=hq;refine zn3 ?_;refine xK (.inl rfl) rfl (zW U36 rfl rfl a1.range0 zj) ?_;exact⟨rfl,hB.u⟩
end Go.Proofs.YtgcgnkmmbecfmaaGreatDoor
