/- Arguments opened: slices of ints and of structs, as the readings of data give them. Nothing here speaks of one program. Simple types as plain trees, how a world holds them, and what is wrong with them. No program in sight. What these functions of the program compute, at every world: glosswright/term.Name, glosswright/hierarchy.fault. Terms of the typed lambda calculus as plain trees, how a world holds them, and what is wrong with them. No program in sight. What these functions of the program compute, at every world: glosswright/hierarchy.Types. -/
import Derived.Test.YtfkbjncidemcbaaDoorData
import Derived.ChangeSame
import Derived.ChangeArms
import Derived.Clock
import Derived.Carry
import Derived.OpenShut
import Derived.Deep.Slices
import Derived.Deep.Strs
import Derived.Lib.SmallJoins
import Derived.Test.YtfkbjncidemcbaaDoorU
import Derived.Test.YtfkbjncidemcbaaDoorProg
namespace Go.Proofs.YtfkbjncidemcbaaDoor
open Go.RowKit Go.ChangeShapes Go.WideShapes Go.Deep Go.Joins
theorem jY {α:Type} {n:Nat} {p:Nat→α→Prop} (h:∀ i,i < n→∃ x,p i x):∃ l:List α,l.length=n∧∀ k (hk:k < l.length),p k l[k]:=by
  induction n with
  | zero=>exact⟨[],rfl,fun k hk=>by simp at hk⟩
  | succ n ih=>
    obtain⟨l,hl,hp⟩:=ih (fun i hi=>h i om);obtain⟨x,hx⟩:=h n om;refine⟨l ++ [x],by simp [hl],fun k hk=>?_⟩;by_cases e:k < l.length
    · rw [List.getElem_append_left e];exact hp k e
    · have e2:k=l.length:=by simp at hk;omega
      subst e2;have e3:(l ++ [x])[l.length]'hk=x:=by simp
      rw [e3,hl];exact hx
section
variable {H:Type} {enc:TypeId×Value→H} {P:Program} {w:World} {base:Nat} {spare:Nat→Bool} {held:Bool}
theorem jQ {v v':Value} (h:[v]= [v']):v=v':=by cases h;rfl
theorem JV {t e:TypeId} {sz fuel:Nat} {v:Value} {x:DataW H×List MemPlace} (ht:P.underlying t=some (.slice e)) (hsz:P.cellsOf e=sz) (hpos:0 < sz) (h:DataW.trod enc P w base spare held fuel t [v]=some x):
    ∃ A len c,v= .slice A len c∧len≤c∧c≤jJ∧(len≠0→∃ b o,A=some ⟨b,o,none⟩∧b < w.heap.size∧∀ i,i < len→∃ cs k y,cs.length=sz∧w.rangeAt b (o + i * sz) cs∧DataW.trod enc P w base spare held k e cs=some y):=by
  rcases open_slice ht h with ⟨hc,_⟩ | ⟨a,len,cap,m,n,D,Pl,hc,hb,hl,hm,hmm,_,hi⟩
  · rw [jQ hc]
    exact⟨none,0,0,rfl,Nat.le_refl _,Nat.zero_le _,fun h=>absurd rfl h⟩
  · rw [jQ hc]
    rw [hsz] at hi;refine⟨some a,len,cap,rfl,hl,hm,fun h0=>?_⟩;have hlm:len≤m:=by rw [hmm];split <;> omega
    obtain⟨b,o,s⟩:=a;have hsp:s=none∧b < w.heap.size:=by
      obtain⟨cs,h1,_⟩:=hi 0 om;obtain⟨_,h3,h4⟩:=World.cells?_some h1;have h5:=h4 0 hpos;have h6:cs[0]? =some (cs[0]'om):=List.getElem?_eq_getElem om;have h7:(Addr.add (Addr.add ⟨b,o,s⟩ (0 * sz)) 0)=⟨b,o,s⟩:=by simp [Addr.add]
      rw [h7,h6] at h5;exact⟨World.cell?_spot h5,Go.Clock.block_lt h5⟩
    obtain⟨rfl,hlt⟩:=hsp;refine⟨b,o,rfl,hlt,fun i hil=>?_⟩;obtain⟨cs,h1,h2⟩:=hi i om;obtain⟨_,h3,h4⟩:=World.cells?_some h1;refine⟨cs,n,_,h3,fun j v hj=>?_,h2⟩;have hjl:=(List.getElem?_eq_some_iff.1 hj).1;have h5:=h4 j om;rw [Addr.add_mid,Addr.add_mid] at h5;rw [h5];exact hj
theorem ints_open {t e:TypeId} {fuel:Nat} {v:Value} {x:DataW H×List MemPlace} (ht:P.underlying t=some (.slice e)) (he:P.underlying e=some (.int .i64)) (hsz:P.cellsOf e=1) (h:DataW.trod enc P w base spare held fuel t [v]=some x):
    ∃ A xs c,v= .slice A (List.length xs) c∧xs.length≤c∧IntsIn w A xs:=by
  obtain⟨A,len,c,rfl,hl,hm,hx⟩:=JV ht hsz dE h;by_cases h0:len=0
  · subst h0
    exact⟨A,[],c,rfl,Nat.zero_le _,Nat.zero_le _,fun h=>absurd rfl h⟩
  · obtain⟨b,o,rfl,hlt,hc⟩:=hx h0
    obtain⟨xs,hxl,hxs⟩:=jY (p:=fun i (z:Int)=>w.cell? ⟨b,o + i * 1,none⟩=some (.int .i64 z)) (n:=len) (fun i hi=>by
      obtain⟨cs,k,y,h1,h2,h3⟩:=hc i hi;obtain⟨z,rfl,_,_⟩:=DataW.trod_int he h3
      exact⟨z,h2 0 _ rfl⟩)
    subst hxl;exact⟨_,xs,c,rfl,hl,nLT hl hm,fun _=>⟨b,o,rfl,hlt,hxs⟩⟩
theorem KV {e:TypeId} {f0 f1:Field} {fuel:Nat} {cs:List Value} {x:DataW H×List MemPlace} (he:P.underlying e=some (.struct #[f0,f1])) (hl:cs.length=2) (o0:f0.offset=0) (o1:f1.offset=1) (c0:P.cellsOf f0.type=1) (c1:P.cellsOf f1.type=1) (h:DataW.trod enc P w base spare held fuel e cs=some x):
    ∃ v0 v1 n y0 y1,cs= [v0,v1]∧DataW.trod enc P w base spare held n f0.type [v0]=some y0∧DataW.trod enc P w base spare held n f1.type [v1]=some y1:=by
  obtain⟨y0,y1,n,_,_,h0,h1⟩:=trod_struct2 he h
  match cs,hl with
  | [v0,v1],_=>
    simp [o0,o1,c0,c1] at h0 h1;exact⟨v0,v1,n,y0,y1,rfl,h0,h1⟩
theorem CV {e:TypeId} {f0 f1 f2:Field} {fuel:Nat} {cs:List Value} {x:DataW H×List MemPlace} (he:P.underlying e=some (.struct #[f0,f1,f2])) (hl:cs.length=3) (o0:f0.offset=0) (o1:f1.offset=1) (o2:f2.offset=2) (c0:P.cellsOf f0.type=1) (c1:P.cellsOf f1.type=1) (c2:P.cellsOf f2.type=1) (h:DataW.trod enc P w base spare held fuel e cs=some x):
    ∃ v0 v1 v2 n y0 y1 y2,cs= [v0,v1,v2]∧DataW.trod enc P w base spare held n f0.type [v0]=some y0∧DataW.trod enc P w base spare held n f1.type [v1]=some y1∧DataW.trod enc P w base spare held n f2.type [v2]=some y2:=by
  obtain⟨y0,y1,y2,n,_,_,h0,h1,h2⟩:=trod_struct3 he h
  match cs,hl with
  | [v0,v1,v2],_=>
    simp [o0,o1,o2,c0,c1,c2] at h0 h1 h2;exact⟨v0,v1,v2,n,y0,y1,y2,rfl,h0,h1,h2⟩
theorem Tq {t e ts ti tis:TypeId} {f0 f1:Field} {fuel:Nat} {v:Value} {x:DataW H×List MemPlace} (ht:P.underlying t=some (.slice e)) (he:P.underlying e=some (.struct #[f0,f1])) (hsz:P.cellsOf e=2) (o0:f0.offset=0) (o1:f1.offset=1) (e0:f0.type=ts) (e1:f1.type=tis) (hs:P.underlying ts=some .string) (hcs:P.cellsOf ts=1) (hci:P.cellsOf tis=1)
    (hti:P.underlying tis=some (.slice ti)) (hi:P.underlying ti=some (.int .i64)) (hc1:P.cellsOf ti=1) (h:DataW.trod enc P w base spare held fuel t [v]=some x):
    ∃ A l c,v= .slice A (List.length l) c∧l.length≤c∧TypesIn w A l:=by
  subst e0 e1;obtain⟨A,len,c,rfl,hl,hm,hx⟩:=JV ht hsz dE h;by_cases h0:len=0
  · subst h0
    exact⟨A,[],c,rfl,Nat.zero_le _,Nat.zero_le _,fun h=>absurd rfl h⟩
  · obtain⟨b,o,rfl,hlt,hc⟩:=hx h0
    obtain⟨l,hxl,hxs⟩:=jY (p:=fun i (z:Ty)=>TyIn w b (o + i * 2) z) (n:=len) (fun i hi'=>by
      obtain⟨cs,k,y,h1,h2,h3⟩:=hc i hi';obtain⟨v0,v1,n,y0,y1,rfl,g0,g1⟩:=KV he h1 o0 o1 hcs hci h3;obtain⟨s,h4,_,_⟩:=DataW.trod_string hs g0;obtain⟨A',xs,c',rfl,_,hin⟩:=ints_open hti hi hc1 g1;rw [jQ h4] at h2
      exact⟨⟨s,xs⟩,A',c',h2,hin⟩)
    subst hxl;exact⟨_,l,c,rfl,hl,nLT hl hm,fun _=>⟨b,o,rfl,hlt,hxs⟩⟩
theorem F3 {t e ts ti:TypeId} {f0 f1 f2:Field} {fuel:Nat} {v:Value} {x:DataW H×List MemPlace} (ht:P.underlying t=some (.slice e)) (he:P.underlying e=some (.struct #[f0,f1,f2])) (hsz:P.cellsOf e=3) (o0:f0.offset=0) (o1:f1.offset=1) (o2:f2.offset=2) (e0:f0.type=ts) (e1:f1.type=ti) (e2:f2.type=ti) (hs:P.underlying ts=some .string) (hcs:P.cellsOf ts=1)
    (hi:P.underlying ti=some (.int .i64)) (hc1:P.cellsOf ti=1) (h:DataW.trod enc P w base spare held fuel t [v]=some x):
    ∃ A l c,v= .slice A (List.length l) c∧l.length≤c∧FeatsIn w A l:=by
  subst e0;obtain⟨A,len,c,rfl,hl,hm,hx⟩:=JV ht hsz dE h;by_cases h0:len=0
  · subst h0
    exact⟨A,[],c,rfl,Nat.zero_le _,Nat.zero_le _,fun h=>absurd rfl h⟩
  · obtain⟨b,o,rfl,hlt,hc⟩:=hx h0
    obtain⟨l,hxl,hxs⟩:=jY (p:=fun i (z:Ft)=>FtIn w b (o + i * 3) z) (n:=len) (fun i hi'=>by
      obtain⟨cs,k,y,h1,h2,h3⟩:=hc i hi';obtain⟨v0,v1,v2,n,y0,y1,y2,rfl,g0,g1,g2⟩:=CV he h1 o0 o1 o2 hcs (by rw [e1];exact hc1) (by rw [e2];exact hc1) h3;rw [e1] at g1;rw [e2] at g2;obtain⟨s,h4,_,_⟩:=DataW.trod_string hs g0;obtain⟨z1,h5,_,_⟩:=DataW.trod_int hi g1;obtain⟨z2,h6,_,_⟩:=DataW.trod_int hi g2;rw [jQ h4,jQ h5,jQ h6] at h2
      exact⟨⟨s,z1,z2⟩,h2⟩)
    subst hxl;exact⟨_,l,c,rfl,hl,nLT hl hm,fun _=>⟨b,o,rfl,hlt,hxs⟩⟩
theorem post_bel {f:Func} {s:ChangeSpec} {apart fresh handsOn again:Bool} {W W':World} {args:Array Value} {v:Value} {ds gs:List (DataW H)} {before pa pv:List MemPlace} (hW:DataW.Whole enc P f.params.toList s.vars apart W args.toList ds gs before)
    (hres:∀ (b:Nat) (sp:Nat→Bool) (hd:Bool),DataW.TrodAll enc P W' b sp hd f.resultTypes.toList (v.resultList f.resultTypes.size) (s.fn H (ds ++ gs)).results [])
    (hargs:∀ sp:Nat→Bool,(∀ p ∈ before,sp p.block=true)→DataW.TrodAll enc P W' 0 sp true f.params.toList args.toList (s.fn H (ds ++ gs)).args pa)
    (hvars:∀ sp:Nat→Bool,(∀ p ∈ before,sp p.block=true)→DataW.TrodVars enc P W' sp s.vars (s.fn H (ds ++ gs)).vars pv)
    (hps:before=pa ++ pv) (hb:Bel W W')
    (hok:∀ (j:Nat) (t:TypeId) (r:Value),f.resultTypes[j]? =some t→(v.resultList f.resultTypes.size)[j]? =some r→Value.okWide P W' .any 0 t r):
    s.post enc P f apart fresh handsOn again W args v W':=by
  have hlt:=fun p hp=>hW.lt p hp
  have hold:∀ p ∈ before,(fun b=>decide (b < W.heap.size)) p.block=true:=fun p hp=>by simpa using hlt p hp
  refine⟨ds,gs,before,[],pa,pv,hW,hres _ _ _,hargs _ hold,hvars _ hold,World.keptBut_mono (fun p hp=>⟨hp,?_⟩) (hb.frame (· ∈ before)),fun _=>?_⟩
  · rw [hps,List.mem_append] at hp;exact .inr hp
  obtain⟨_,_,_,_,_,hz,hn⟩:=hW;refine⟨hok,_,_,([] ++ pa) ++ pv,⟨[] ++ pa,pv,trodAll_append (hargs _ (fun _ _=>rfl)) (hres _ _ _),hvars _ (fun _ _=>rfl),rfl,fun b off hp=>?_,fun ha=>?_⟩,fun p hp _=>?_⟩
  · have hin:MemPlace.cell b off ∈ before:=by rw [hps];simpa using hp
    rw [hb.frozen (hlt _ hin)];exact hz b off hin
  · have:=hn ha
    rw [hps] at this;simpa using this
  · rw [hps];simpa using hp
end
end Go.Proofs.YtfkbjncidemcbaaDoor
namespace Go.Proofs.YtfkbjncidemcbaaDoor
open Go.RowKit
inductive Sm where
  | mk (base:ByteArray) (args:List Sm)
def Sm.base:Sm→ByteArray | .mk b _=>b
def Sm.args:Sm→List Sm | .mk _ a=>a
theorem Sm.eta (s:Sm):s= .mk s.base s.args:=by cases s;rfl
mutual
inductive SimAt (w:World):Nat→Nat→Sm→Prop
  | mk {b o:Nat} {base:ByteArray} {args:List Sm} {A:Option Addr} {c:Nat} (hb:b < w.heap.size) (h:w.rangeAt b o [.string base,.slice A (List.length args) c]) (hs:SimsIn w A args):SimAt w b o (.mk base args)
inductive SimsIn (w:World):Option Addr→List Sm→Prop
  | nil {A:Option Addr}:SimsIn w A []
  | more {b o:Nat} {args:List Sm} (hl:args.length≤jJ) (hb:b < w.heap.size) (h:∀ k (hk:k < args.length),SimAt w b (o + k * 2) args[k]):SimsIn w (some ⟨b,o,none⟩) args
end
theorem SimAt.both {w w':World} (hw:Bel w w'):(∀ {b o:Nat} {s:Sm},SimAt w b o s→SimAt w' b o s)∧∀ {A:Option Addr} {l:List Sm},SimsIn w A l→SimsIn w' A l:=by
  have h1:∀ {b o:Nat} {s:Sm} (h:SimAt w b o s),SimAt w' b o s:=fun h=>
    SimAt.rec (motive_1:=fun b o s _=>SimAt w' b o s) (motive_2:=fun A l _=>SimsIn w' A l)
      (fun hb h _ ih=> .mk (nLL hb hw.size) (hw.range hb h) ih) .nil (fun hl hb _ ih=> .more hl (nLL hb hw.size) ih) h
  have h2:∀ {A:Option Addr} {l:List Sm} (h:SimsIn w A l),SimsIn w' A l:=fun h=>
    SimsIn.rec (motive_1:=fun b o s _=>SimAt w' b o s) (motive_2:=fun A l _=>SimsIn w' A l)
      (fun hb h _ ih=> .mk (nLL hb hw.size) (hw.range hb h) ih) .nil (fun hl hb _ ih=> .more hl (nLL hb hw.size) ih) h
  exact⟨h1,h2⟩
theorem SimAt.mono {w w':World} {b o:Nat} {s:Sm} (h:SimAt w b o s) (hw:Bel w w'):SimAt w' b o s:=(SimAt.both hw).1 h
theorem SimsIn.mono {w w':World} {A:Option Addr} {l:List Sm} (h:SimsIn w A l) (hw:Bel w w'):SimsIn w' A l:=(SimAt.both hw).2 h
theorem SimsIn.le {w:World} {A:Option Addr} {l:List Sm} (h:SimsIn w A l):l.length≤jJ:=by
  cases h with
  | nil=>exact Nat.zero_le _
  | more hl=>exact hl
theorem SimsIn.at_ {w:World} {A:Option Addr} {l:List Sm} (h:SimsIn w A l) {k:Nat} (hk:k < l.length):∃ b o A' c,A=some ⟨b,o,none⟩∧b < w.heap.size∧w.rangeAt b (o + k * 2) [Value.string (l[k]).base,.slice A' (l[k]).args.length c]∧SimsIn w A' (l[k]).args:=by
  cases h with
  | nil=>simp at hk
  | @more b o _ _ hb h=>
    have hx:=h k hk
    generalize l[k]=s at hx
    cases hx with
    | mk _ hr hs=>exact⟨b,o,_,_,rfl,hb,hr,hs⟩
def smE:ByteArray:=⟨#[101]⟩
def smT:ByteArray:=⟨#[116]⟩
def X1 (s:Sm):Prop:=((s.base=smE∨s.base=smT)∧s.args.length=0)∨(s.base=⟨#[]⟩∧s.args.length=2)
instance (s:Sm):Decidable (X1 s):=by unfold X1;infer_instance
mutual
def swk:Sm→Nat→Nat→Nat×Int
  | .mk b l,d,n=>if 200 < n + 1∨40 < d then (n + 1,1) else if X1 (.mk b l) then VW l (d + 1) (n + 1) else (n + 1,5)
def VW:List Sm→Nat→Nat→Nat×Int
  | [],_,n=>(n,0)
  | x :: r,d,n=>if (swk x d n).2=0 then VW r d (swk x d n).1 else swk x d n
end
theorem I1 (s:Sm) (d n:Nat):swk s d n=if 200 < n + 1∨40 < d then (n + 1,1) else if X1 s then VW s.args (d + 1) (n + 1) else (n + 1,5):=by
  cases s;rw [swk];rfl
def sst:List (Sm×Nat)→Nat→Nat×Int
  | [],n=>(n,0)
  | x :: r,n=>if (swk x.1 x.2 n).2=0 then sst r (swk x.1 x.2 n).1 else swk x.1 x.2 n
theorem W2 (d:Nat):∀ (l:List Sm) (n:Nat),VW l d n=sst (l.map (fun y=>(y,d))) n
  | [],_=>by rw [VW];rfl
  | x :: r,n=>by
    rw [VW,W2 d r];rfl
theorem W5:∀ (l r:List (Sm×Nat)) (n:Nat),sst (l ++ r) n=if (sst l n).2=0 then sst r (sst l n).1 else sst l n
  | [],_,_=>rfl
  | x :: l,r,n=>by
    show (if (swk x.1 x.2 n).2=0 then sst (l ++ r) (swk x.1 x.2 n).1 else swk x.1 x.2 n)=_
    rw [W5 l r]
    show _=if (if (swk x.1 x.2 n).2=0 then sst l (swk x.1 x.2 n).1 else swk x.1 x.2 n).2=0 then sst r (if (swk x.1 x.2 n).2=0 then sst l (swk x.1 x.2 n).1 else swk x.1 x.2 n).1 else (if (swk x.1 x.2 n).2=0 then sst l (swk x.1 x.2 n).1 else swk x.1 x.2 n)
    by_cases h:(swk x.1 x.2 n).2=0
    · simp only [if_pos h]
    · simp only [if_neg h]
theorem sst_out {n d:Nat} {s:Sm} {r:List (Sm×Nat)} (h:200 < n + 1∨40 < d):sst ((s,d) :: r) n=(n + 1,1):=by
  have e:swk s d n=(n + 1,1):=by rw [I1,if_pos h]
  show (if (swk s d n).2=0 then _ else swk s d n)=_;rw [e];rfl
theorem W4 {n d:Nat} {s:Sm} {r:List (Sm×Nat)} (h:¬(200 < n + 1∨40 < d)) (ho:¬X1 s):sst ((s,d) :: r) n=(n + 1,5):=by
  have e:swk s d n=(n + 1,5):=by rw [I1,if_neg h,if_neg ho]
  show (if (swk s d n).2=0 then _ else swk s d n)=_;rw [e];rfl
theorem sst_go {n d:Nat} {s:Sm} {r:List (Sm×Nat)} (h:¬(200 < n + 1∨40 < d)) (ho:X1 s):sst ((s,d) :: r) n=sst (s.args.map (fun y=>(y,d + 1)) ++ r) (n + 1):=by
  have e:swk s d n=sst (s.args.map (fun y=>(y,d + 1))) (n + 1):=by rw [I1,if_neg h,if_pos ho,W2]
  rw [W5,← e];rfl
theorem sst_one (s:Sm) (d n:Nat):sst [(s,d)] n=swk s d n:=by
  show (if (swk s d n).2=0 then ((swk s d n).1,0) else swk s d n)=_;by_cases h:(swk s d n).2=0
  · rw [if_pos h,← h]
  · rw [if_neg h]
def smF (s:Sm):Int:=(swk s 1 0).2
inductive Ts where
  | b (t:Bool)
  | f (x y:Ts)
def Ts.sm:Ts→Sm
  | .b t=> .mk (if t then smT else smE) []
  | .f x y=> .mk ⟨#[]⟩ [x.sm,y.sm]
def Ts.size:Ts→Nat
  | .b _=>1
  | .f x y=>x.size + y.size + 1
def Ts.eqb:Ts→Ts→Bool
  | .b s,.b t=>s == t
  | .f x y,.f p q=>x.eqb p && y.eqb q
  | _,_=>false
theorem Ts.eqb_iff:∀ {a b:Ts},a.eqb b=true ↔ a=b
  | .b s,.b t=>by simp [Ts.eqb]
  | .f x y,.f p q=>by simp [Ts.eqb,Ts.eqb_iff (a:=x),Ts.eqb_iff (a:=y)]
  | .b s,.f p q=>by simp [Ts.eqb]
  | .f x y,.b t=>by simp [Ts.eqb]
theorem LJ {s:Sm} (h:X1 s) (hl:s.args.length=0):∃ t,s=(Ts.b t).sm:=by
  rcases h with ⟨hb,_⟩ | ⟨_,h2⟩
  · have ha:s.args= []:=List.length_eq_zero_iff.1 hl
    rcases hb with hb | hb
    · exact⟨false,by rw [Sm.eta s,hb,ha];rfl⟩
    · exact⟨true,by rw [Sm.eta s,hb,ha];rfl⟩
  · omega
mutual
theorem TK:∀ (s:Sm) (d n:Nat),(swk s d n).2=0→∃ τ:Ts,s=τ.sm∧(swk s d n).1=n + τ.size∧n + τ.size≤200
  | .mk b l,d,n,h=>by
    rw [swk] at h ⊢
    by_cases h1:200 < n + 1∨40 < d
    · rw [if_pos h1] at h;cases h
    · rw [if_neg h1] at h ⊢
      by_cases h2:X1 (.mk b l)
      · rw [if_pos h2] at h ⊢
        obtain⟨ts,e1,e2,e3⟩:=W1 l (d + 1) (n + 1) h om
        match l,ts,e1,h2 with
        | [],ts,e1,h2=>
          obtain⟨t,ht⟩:=LJ h2 rfl
          cases ts with
          | nil=>exact⟨.b t,ht,e2,by simp [Ts.size] at e3 ⊢;omega⟩
          | cons a r=>cases e1
        | [x,y],[p,q],e1,h2=>
          simp only [List.map_cons,List.map_nil,List.cons.injEq,and_true] at e1
          rcases h2 with ⟨_,h2⟩ | ⟨h2,_⟩
          · cases h2
          · have h2:b=⟨#[]⟩:=h2
            simp only [List.map_cons,List.map_nil,List.sum_cons,List.sum_nil] at e2 e3
            refine⟨.f p q,?_,?_,?_⟩
            · rw [h2,e1.1,e1.2];rfl
            · rw [e2];show _=n + (p.size + q.size + 1);omega
            · show n + (p.size + q.size + 1)≤200;omega
        | [x],ts,_,h2=>rcases h2 with ⟨_,h2⟩ | ⟨_,h2⟩ <;> cases h2
        | x :: y :: z :: r,ts,_,h2=>rcases h2 with ⟨_,h2⟩ | ⟨_,h2⟩ <;> cases h2
      · rw [if_neg h2] at h;cases h
theorem W1:∀ (l:List Sm) (d n:Nat),(VW l d n).2=0→n≤200→∃ ts:List Ts,l=ts.map Ts.sm∧(VW l d n).1=n + (ts.map Ts.size).sum∧n + (ts.map Ts.size).sum≤200
  | [],d,n,_,hn=>⟨[],rfl,by rw [VW];rfl,hn⟩
  | x :: r,d,n,h,hn=>by
    rw [VW] at h ⊢
    by_cases h1:(swk x d n).2=0
    · rw [if_pos h1] at h ⊢
      obtain⟨τ,e1,e2,e3⟩:=TK x d n h1
      rw [e2] at h ⊢
      obtain⟨ts,k1,k2,k3⟩:=W1 r d (n + τ.size) h e3
      exact⟨τ :: ts,by rw [e1,k1];rfl,by rw [k2];simp;omega,by simp;omega⟩
    · rw [if_neg h1] at h;exact absurd h h1
end
theorem smF_ts {s:Sm} (h:smF s=0):∃ τ:Ts,s=τ.sm∧τ.size≤200:=by
  obtain⟨τ,e,_,e2⟩:=TK s 1 0 h;exact⟨τ,e,by omega⟩
theorem Ts.sm_inj:∀ {a b:Ts},a.sm=b.sm→a=b
  | .b s,.b t,h=>by
    cases s <;> cases t <;> first | rfl | (exfalso;revert h;simp [Ts.sm,smE,smT])
  | .b s,.f x y,h=>by exfalso;revert h;cases s <;> simp [Ts.sm]
  | .f x y,.b t,h=>by exfalso;revert h;cases t <;> simp [Ts.sm]
  | .f x y,.f p q,h=>by
    simp only [Ts.sm,Sm.mk.injEq,List.cons.injEq,and_true,true_and] at h
    rw [Ts.sm_inj h.1,Ts.sm_inj h.2]
def Ts.txt:Ts→List UInt8
  | .b t=>if t then [116] else [101]
  | .f x y=>40 :: (x.txt ++ 32 :: (y.txt ++ [41]))
theorem Ts.txt_le:∀ τ:Ts,τ.txt.length≤4 * τ.size
  | .b t=>by cases t <;> simp [Ts.txt,Ts.size]
  | .f x y=>by
    have h1:=Ts.txt_le x
    have h2:=Ts.txt_le y
    simp [Ts.txt,Ts.size];omega
theorem Ts.txt_pre:∀ {a b:Ts} {p q:List UInt8},a.txt ++ p=b.txt ++ q→a=b∧p=q
  | .b s,.b t,p,q,h=>by cases s <;> cases t <;> simp_all [Ts.txt]
  | .b s,.f x y,p,q,h=>by cases s <;> simp [Ts.txt] at h
  | .f x y,.b t,p,q,h=>by cases t <;> simp [Ts.txt] at h
  | .f x y,.f u v,p,q,h=>by
    simp only [Ts.txt,List.cons_append,List.append_assoc,List.cons.injEq,true_and,List.nil_append] at h
    obtain⟨rfl,h2⟩:=Ts.txt_pre h
    simp only [List.cons.injEq,true_and] at h2
    obtain⟨rfl,h3⟩:=Ts.txt_pre h2
    simp only [List.cons.injEq,true_and] at h3
    exact⟨rfl,h3⟩
theorem Ts.txt_inj {a b:Ts} (h:a.txt=b.txt):a=b:=(Ts.txt_pre (p:=[]) (q:=[]) (by rw [h])).1
end Go.Proofs.YtfkbjncidemcbaaDoor
namespace Go.Proofs.YtfkbjncidemcbaaDoor
open Go.RowKit
def gX (c:UInt8):Bool:=decide (97≤c.toNat∧c.toNat≤122) || decide (48≤c.toNat∧c.toNat≤57) || decide (c.toNat=95) || decide (c.toNat=45)
theorem Z4 (c:UInt8):gX c=true ↔ ((97≤c.toNat∧c.toNat≤122)∨(48≤c.toNat∧c.toNat≤57)∨c.toNat=95∨c.toNat=45):=by simp [gX,or_assoc]
def Rx:List UInt8→Bool
  | []=>false
  | c :: _=>decide (97≤c.toNat∧c.toNat≤122)
def yK (s:ByteArray):Bool:=decide (s.size≤30) && Rx s.data.toList && s.data.toList.all gX
theorem u7 {a b:Bool} (h:a=b):Ending.returned (.bool b)= .returned (.bool a):=by rw [h]
theorem RK (s:ByteArray):∃ c0:Nat,∀ h:0 < s.size,(s[0]'h).toNat=c0:=by
  by_cases h:0 < s.size
  · exact⟨(s[0]'h).toNat,fun _=>rfl⟩
  · exact⟨0,fun h'=>absurd h' h⟩
theorem Ix (s:ByteArray) (c0:Nat) (e0:∀ h:0 < s.size,(s[0]'h).toNat=c0):
    yK s=decide ((s.size≠0∧s.size≤30)∧(97≤c0∧c0≤122)∧(∀ k (hk:k < s.size),gX (s[k]'hk)=true)):=by
  have ha:(s.data.toList.all gX=true) ↔ (∀ k (hk:k < s.size),gX (s[k]'hk)=true):=by
    rw [List.all_eq_true]
    constructor
    · intro h k hk
      exact h _ (List.getElem_mem (l:=s.data.toList) (n:=k) (by simpa using hk))
    · intro h x hx
      obtain⟨k,hk,rfl⟩:=List.mem_iff_getElem.1 hx;exact h k (by simpa using hk)
  have hh:∀ h:0 < s.size,Rx s.data.toList=decide (97≤c0∧c0≤122):=by
    intro h;rw [← e0 h];obtain⟨⟨l⟩⟩:=s;cases l with
    | nil=>exact absurd h dE
    | cons c l=>rfl
  by_cases h0:s.size=0
  · have:s.data.toList= []:=by
      apply List.eq_nil_of_length_eq_zero;simpa using h0
    simp [yK,this,Rx,h0]
  · have h:=hh om
    rw [Bool.eq_iff_iff];simp only [yK,h,Bool.and_eq_true,decide_eq_true_eq,ha]
    constructor
    · rintro ⟨⟨a,b⟩,c⟩;exact⟨⟨h0,a⟩,b,c⟩
    · rintro ⟨⟨_,a⟩,b,c⟩;exact⟨⟨a,b⟩,c⟩
theorem gz:(Tryd.prog.info? 43).map (·.size)=some 2:=by kernel_rfl
theorem ze43:(Tryd.prog.info? 43).map (·.zero)=some (some (.agg #[.int .i64 0,.int .i64 0])):=by kernel_rfl
theorem Kq (s:ByteArray) (w:World):Calls Tryd.prog 37 #[.string s] w fun e w'=>e= .returned (.bool (yK s))∧w=w':=by
 obtain⟨c0,e0⟩:=RK s;have hN:=Lib.hid (Ix s c0 e0);refine enter Tryd.func37 Tryd.ntmps37 rfl (Nat.le_of_ble_eq_true rfl) (zz (z4 (waB rfl (zq (e_S (zz (zz ?_)))))));refine y7 [5,6,7,8,9,10,11,12,13,14,15,16,17,18,19,20,21,22] 22 (.bool (decide (s.size=0∨30 < s.size∨c0 < 97∨122 < c0))) nu ?_ (fun gq=>?_)
 ·refine z4 (wl (qy (v:= .string _) rfl) (wl (jX U9 rfl) (wl (xv rfl rfl) (wmB rfl ?_))));refine zJ 8 rfl (fun g8=>?_) (fun g8=>?_)
  ·refine zy 8 rfl rfl rfl (zy 8 rfl rfl rfl (zy 8 rfl rfl rfl (wl (qw (v:= .bool _) rfl rfl) (wmB rfl (zy 13 rfl rfl rfl (zy 13 rfl rfl rfl (zy 13 rfl rfl rfl (wl (qw (v:= .bool _) rfl rfl) (wmB rfl (zy 18 rfl rfl rfl (zy 18 rfl rfl rfl (zy 18 rfl rfl rfl (wl (qw (v:= .bool _) rfl rfl) ?_)))))))))))));refine zq (e_R ⟨rfl,agA,?_⟩);show Value.bool _=Value.bool _
   try have e0':=e0 om
   first | exact congrArg Value.bool (decide_eq_true om).symm | exact congrArg Value.bool (decide_eq_false om).symm | exact congrArg Value.bool (decide_eq_decide.2 om) | exact congrArg Value.bool ((decide_not).symm.trans (decide_eq_decide.2 om))
  refine zw 8 rfl rfl (wl (qy (v:= .string _) rfl) (zw 8 rfl rfl (wl (jX U9 rfl) (zw 8 rfl rfl (wl (yX rfl rfl) (wl (qV (v:= .bool _) rfl rfl) (wmB rfl ?_)))))));refine zJ 13 rfl (fun g13=>?_) (fun g13=>?_)
  ·refine zy 13 rfl rfl rfl (zy 13 rfl rfl rfl (zy 13 rfl rfl rfl (wl (qw (v:= .bool _) rfl rfl) (wmB rfl (zy 18 rfl rfl rfl (zy 18 rfl rfl rfl (zy 18 rfl rfl rfl (wl (qw (v:= .bool _) rfl rfl) ?_))))))));refine zq (e_R ⟨rfl,agA,?_⟩);show Value.bool _=Value.bool _
   try have e0':=e0 om
   first | exact congrArg Value.bool (decide_eq_true om).symm | exact congrArg Value.bool (decide_eq_false om).symm | exact congrArg Value.bool (decide_eq_decide.2 om) | exact congrArg Value.bool ((decide_not).symm.trans (decide_eq_decide.2 om))
  refine zw 13 rfl rfl (wl (qy (v:= .string _) rfl) (zw 13 rfl rfl (wl (XY (i:=0) U9 rfl rfl om) (zw 13 rfl rfl (wl (x9 rfl rfl) (wl (qV (v:= .bool _) rfl rfl) (wmB rfl ?_)))))));refine zJ 18 rfl (fun g18=>?_) (fun g18=>?_)
  ·refine zy 18 rfl rfl rfl (zy 18 rfl rfl rfl (zy 18 rfl rfl rfl (wl (qw (v:= .bool _) rfl rfl) ?_)));refine zq (e_R ⟨rfl,agA,?_⟩);show Value.bool _=Value.bool _
   try have e0':=e0 om
   first | exact congrArg Value.bool (decide_eq_true om).symm | exact congrArg Value.bool (decide_eq_false om).symm | exact congrArg Value.bool (decide_eq_decide.2 om) | exact congrArg Value.bool ((decide_not).symm.trans (decide_eq_decide.2 om))
  refine zw 18 rfl rfl (wl (qy (v:= .string _) rfl) (zw 18 rfl rfl (wl (XY (i:=0) U9 rfl rfl om) (zw 18 rfl rfl (wl (yX rfl rfl) (wl (qV (v:= .bool _) rfl rfl) ?_))))));refine zq (e_R ⟨rfl,agA,?_⟩);show Value.bool _=Value.bool _
  try have e0':=e0 om
  first | exact congrArg Value.bool (decide_eq_true om).symm | exact congrArg Value.bool (decide_eq_false om).symm | exact congrArg Value.bool (decide_eq_decide.2 om) | exact congrArg Value.bool ((decide_not).symm.trans (decide_eq_decide.2 om))
 refine e_S ?_;refine qx rfl (fun c22=>?_) (fun c22=>?_)
 ·refine zz (z4 (waB rfl (zq (e_S (q8 (qQ (qK (.inl rfl) rfl rfl ?_)))))));exact⟨u7 (by rw [hN.out];exact decide_eq_false (fun h=>by omega)),rfl⟩
 refine zK (e_S (zz (zz (z4 (wl (qy (v:= .string _) rfl) (wl (jX U9 rfl) (wmI rfl (zq (e_S (zY ?_))))))))));refine x8 [2,3,4,25,26,27,28,29,30,31,32,33,34,35,36,37,38,39,40,41,42,43,44,45,46,47,48,49,50,51,52,53,54] (fun m g w'=>∃ k:Nat,k≤s.size∧m=s.size - k∧g 25= .int .i64 k∧w=w'∧(∀ j (hj:j < s.size),j < k→gX (s[j]'hj)=true)) (s.size) ?_ (fun m g4 w1 hI=>?_)
 ·exact⟨0,Nat.zero_le _,rfl,rfl,rfl,fun j hj h=>by omega⟩
 obtain⟨k,hk,hm,h25,rfl,hall⟩:=hI;refine qv 25 (.int .i64 k) h25 nu (zz (z4 (wl (x9 rfl rfl) (zq (e_S (zz ?_))))));refine qx rfl (fun c26=>?_) (fun c26=>?_)
 ·refine zK (e_S (zz (zY (zz (z4 (wmI rfl (waI rfl (zq (e_S (zz (z4 (wl (qy (v:= .string _) rfl) (wmI rfl (wl (XY (i:=k) U9 rfl rfl om) (waI rfl (zq (e_S (zz ?_))))))))))))))))));refine y7 [31,32,33,34,35,36,37,38,39,40,41,42,43,44,45,46,47,48,49,50,51,52,53] 53 (.bool (decide (¬((97≤(s[k]'om).toNat∧(s[k]'om).toNat≤122)∨(48≤(s[k]'om).toNat∧(s[k]'om).toNat≤57)∨(s[k]'om).toNat=95∨(s[k]'om).toNat=45)))) nu ?_ (fun gq=>?_)
  ·refine z4 (wmI rfl (wl (vK rfl rfl) (wmB rfl ?_)));refine zJ 33 rfl (fun g33=>?_) (fun g33=>?_)
   ·refine zw 33 rfl rfl (wmI rfl (zw 33 rfl rfl (wl (uz rfl rfl) (wl (qw (v:= .bool _) rfl rfl) (wmB rfl ?_)))));refine zJ 37 rfl (fun g37=>?_) (fun g37=>?_)
    ·refine zy 37 rfl rfl rfl (zy 37 rfl rfl rfl (zy 37 rfl rfl rfl (yz 40 rfl rfl (yz 40 rfl rfl (zy 37 rfl rfl rfl (wl (qw (v:= .bool _) rfl rfl) (wmB rfl (zy 45 rfl rfl rfl (zy 45 rfl rfl rfl (wl (qw (v:= .bool _) rfl rfl) (wmB rfl (zy 49 rfl rfl rfl (zy 49 rfl rfl rfl (wl (qw (v:= .bool _) rfl rfl) (wl (vY rfl) ?_)))))))))))))));refine zq (e_R ⟨rfl,agA,?_⟩);exact clA
    refine zw 37 rfl rfl (wmI rfl (zw 37 rfl rfl (wl (vK rfl rfl) (zw 37 rfl rfl (wmB rfl ?_)))));refine zJ 40 rfl (fun g40=>?_) (fun g40=>?_)
    ·refine zw 40 rfl rfl (wmI rfl (zw 40 rfl rfl (wl (uz rfl rfl) (zw 37 rfl rfl (wl (qw (v:= .bool _) rfl rfl) (wl (qV (v:= .bool _) rfl rfl) (wmB rfl ?_)))))));refine zJ 45 rfl (fun g45=>?_) (fun g45=>?_)
     ·refine zy 45 rfl rfl rfl (zy 45 rfl rfl rfl (wl (qw (v:= .bool _) rfl rfl) (wmB rfl (zy 49 rfl rfl rfl (zy 49 rfl rfl rfl (wl (qw (v:= .bool _) rfl rfl) (wl (vY rfl) ?_)))))));refine zq (e_R ⟨rfl,agA,?_⟩);exact clA
     refine zw 45 rfl rfl (wmI rfl (zw 45 rfl rfl (wl (xv rfl rfl) (wl (qV (v:= .bool _) rfl rfl) (wmB rfl ?_)))));refine zJ 49 rfl (fun g49=>?_) (fun g49=>?_)
     ·refine zy 49 rfl rfl rfl (zy 49 rfl rfl rfl (wl (qw (v:= .bool _) rfl rfl) (wl (vY rfl) ?_)));refine zq (e_R ⟨rfl,agA,?_⟩);exact clA
     refine zw 49 rfl rfl (wmI rfl (zw 49 rfl rfl (wl (xv rfl rfl) (wl (qV (v:= .bool _) rfl rfl) (wl (Z2 rfl) ?_)))));refine zq (e_R ⟨rfl,agA,?_⟩);exact clA
    refine zy 40 rfl rfl rfl (zy 40 rfl rfl rfl (zw 37 rfl rfl (wl (qV (v:= .bool _) rfl rfl) (wl (qV (v:= .bool _) rfl rfl) (wmB rfl (zw 45 rfl rfl (wmI rfl (zw 45 rfl rfl (wl (xv rfl rfl) (wl (qV (v:= .bool _) rfl rfl) (wmB rfl ?_)))))))))));refine zJ 49 rfl (fun g49=>?_) (fun g49=>?_)
    ·refine zy 49 rfl rfl rfl (zy 49 rfl rfl rfl (wl (qw (v:= .bool _) rfl rfl) (wl (vY rfl) ?_)));refine zq (e_R ⟨rfl,agA,?_⟩);exact clA
    refine zw 49 rfl rfl (wmI rfl (zw 49 rfl rfl (wl (xv rfl rfl) (wl (qV (v:= .bool _) rfl rfl) (wl (Z2 rfl) ?_)))));refine zq (e_R ⟨rfl,agA,?_⟩);exact clA
   refine zy 33 rfl rfl rfl (zy 33 rfl rfl rfl (wl (qV (v:= .bool _) rfl rfl) (wmB rfl (zw 37 rfl rfl (wmI rfl (zw 37 rfl rfl (wl (vK rfl rfl) (zw 37 rfl rfl (wmB rfl ?_)))))))));refine zJ 40 rfl (fun g40=>?_) (fun g40=>?_)
   ·refine zw 40 rfl rfl (wmI rfl (zw 40 rfl rfl (wl (uz rfl rfl) (zw 37 rfl rfl (wl (qw (v:= .bool _) rfl rfl) (wl (qV (v:= .bool _) rfl rfl) (wmB rfl ?_)))))));refine zJ 45 rfl (fun g45=>?_) (fun g45=>?_)
    ·refine zy 45 rfl rfl rfl (zy 45 rfl rfl rfl (wl (qw (v:= .bool _) rfl rfl) (wmB rfl (zy 49 rfl rfl rfl (zy 49 rfl rfl rfl (wl (qw (v:= .bool _) rfl rfl) (wl (vY rfl) ?_)))))));refine zq (e_R ⟨rfl,agA,?_⟩);exact clA
    refine zw 45 rfl rfl (wmI rfl (zw 45 rfl rfl (wl (xv rfl rfl) (wl (qV (v:= .bool _) rfl rfl) (wmB rfl ?_)))));refine zJ 49 rfl (fun g49=>?_) (fun g49=>?_)
    ·refine zy 49 rfl rfl rfl (zy 49 rfl rfl rfl (wl (qw (v:= .bool _) rfl rfl) (wl (vY rfl) ?_)));refine zq (e_R ⟨rfl,agA,?_⟩);exact clA
    refine zw 49 rfl rfl (wmI rfl (zw 49 rfl rfl (wl (xv rfl rfl) (wl (qV (v:= .bool _) rfl rfl) (wl (Z2 rfl) ?_)))));refine zq (e_R ⟨rfl,agA,?_⟩);exact clA
   refine zy 40 rfl rfl rfl (zy 40 rfl rfl rfl (zw 37 rfl rfl (wl (qV (v:= .bool _) rfl rfl) (wl (qV (v:= .bool _) rfl rfl) (wmB rfl (zw 45 rfl rfl (wmI rfl (zw 45 rfl rfl (wl (xv rfl rfl) (wl (qV (v:= .bool _) rfl rfl) (wmB rfl ?_)))))))))));refine zJ 49 rfl (fun g49=>?_) (fun g49=>?_)
   ·refine zy 49 rfl rfl rfl (zy 49 rfl rfl rfl (wl (qw (v:= .bool _) rfl rfl) (wl (vY rfl) ?_)));refine zq (e_R ⟨rfl,agA,?_⟩);exact clA
   refine zw 49 rfl rfl (wmI rfl (zw 49 rfl rfl (wl (xv rfl rfl) (wl (qV (v:= .bool _) rfl rfl) (wl (Z2 rfl) ?_)))));refine zq (e_R ⟨rfl,agA,?_⟩);exact clA
  refine e_S ?_;refine qx rfl (fun c53=>?_) (fun c53=>?_)
  ·refine zz (z4 (waB rfl (zq (e_S (q8 (qW (qQ (y8 (qW (qQ (qK (.inl rfl) rfl rfl ?_)))))))))));exact⟨u7 (by rw [hN.out];exact decide_eq_false (fun h=>c53 ((Z4 _).1 (h.2.2 k om)))),rfl⟩
  have hall':∀ j (hj:j < s.size),j < k + 1→gX (s[j]'hj)=true:=fun j hj h=>by
    by_cases e:j=k
    · subst e;exact(Z4 _).2 om
    · exact hall j hj om
  refine zK (e_B (e_S (z4 (wl (xw rfl rfl rfl om) (wmI rfl (zq (yw (s.size - (k + 1)) om agA ?_)))))));exact⟨k + 1,by omega,rfl,rfl,rfl,fun j hj h=>hall' j hj h⟩
 refine xx (vx (yq (vj (e_S (zz (z4 (waB rfl (zq (e_S (q8 (qK (.inl rfl) rfl rfl ?_)))))))))));exact⟨u7 (by rw [hN.out];exact decide_eq_true ⟨by omega,by omega,fun j hj=>hall j hj om⟩),rfl⟩
theorem kY (a b:Int) (w:World):Calls Tryd.prog 61 #[.int .i64 a,.int .i64 b] w fun e w'=>e= .returned (flV (a,b))∧Bel w w':=by
 refine enter Tryd.func61 Tryd.ntmps61 rfl (Nat.le_of_ble_eq_true rfl) ?_;have hB:Bel w w:=Below.refl _ _;refine zz (z4 ?_);refine xQ (cs:=#[.int .i64 0,.int .i64 0]) ze43 rfl (fun b4 w1 hb4 hs hr=>?_);have lo4:=nLT (Bel.size hB) hr;replace hB:=hB.tr0 hs;refine zq (e_S (zz (z4 (wmI rfl (wmI rfl (wl (vZ (v0:= .int _ _) (v1:= .int _ _) (fun v0 v1=>#[v0,v1]) rfl rfl kR) ?_))))));refine qz hb4 rfl rfl gz rfl qX (fun w2 hq hs=>?_);replace hB:=hB.tr1 hs lo4;replace hb4:=hq;refine zq (e_S (q8 (qK (.inl rfl) rfl (qq U43 rfl rfl hb4.range0 gz) ?_)));exact⟨rfl,hB⟩
end Go.Proofs.YtfkbjncidemcbaaDoor
namespace Go.Proofs.YtfkbjncidemcbaaDoor
open Go.RowKit
inductive Tm where
  | mk (kind:Int) (name:ByteArray) (index:Int) (type:Sm) (args:List Tm)
def Tm.kind:Tm→Int | .mk k _ _ _ _=>k
def Tm.name:Tm→ByteArray | .mk _ n _ _ _=>n
def Tm.index:Tm→Int | .mk _ _ i _ _=>i
def Tm.type:Tm→Sm | .mk _ _ _ t _=>t
def Tm.args:Tm→List Tm | .mk _ _ _ _ a=>a
theorem Tm.eta (t:Tm):t= .mk t.kind t.name t.index t.type t.args:=by cases t;rfl
mutual
inductive TmAt (w:World):Nat→Nat→Tm→Prop
  | mk {b o:Nat} {k i:Int} {nm:ByteArray} {s:Sm} {args:List Tm} {A B:Option Addr} {c d:Nat} (hb:b < w.heap.size) (h:w.rangeAt b o [.int .i64 k,.string nm,.int .i64 i,.string s.base,.slice A s.args.length c,.slice B (List.length args) d]) (hs:SimsIn w A s.args) (ht:TmsIn w B args):TmAt w b o (.mk k nm i s args)
inductive TmsIn (w:World):Option Addr→List Tm→Prop
  | nil {A:Option Addr}:TmsIn w A []
  | more {b o:Nat} {args:List Tm} (hl:args.length≤jJ) (hb:b < w.heap.size) (h:∀ k (hk:k < args.length),TmAt w b (o + k * 6) args[k]):TmsIn w (some ⟨b,o,none⟩) args
end
theorem TmAt.both {w w':World} (hw:Bel w w'):(∀ {b o:Nat} {s:Tm},TmAt w b o s→TmAt w' b o s)∧∀ {A:Option Addr} {l:List Tm},TmsIn w A l→TmsIn w' A l:=by
  have h1:∀ {b o:Nat} {s:Tm} (h:TmAt w b o s),TmAt w' b o s:=fun h=>
    TmAt.rec (motive_1:=fun b o s _=>TmAt w' b o s) (motive_2:=fun A l _=>TmsIn w' A l)
      (fun hb h hs _ ih=> .mk (nLL hb hw.size) (hw.range hb h) (hs.mono hw) ih) .nil (fun hl hb _ ih=> .more hl (nLL hb hw.size) ih) h
  have h2:∀ {A:Option Addr} {l:List Tm} (h:TmsIn w A l),TmsIn w' A l:=fun h=>
    TmsIn.rec (motive_1:=fun b o s _=>TmAt w' b o s) (motive_2:=fun A l _=>TmsIn w' A l)
      (fun hb h hs _ ih=> .mk (nLL hb hw.size) (hw.range hb h) (hs.mono hw) ih) .nil (fun hl hb _ ih=> .more hl (nLL hb hw.size) ih) h
  exact⟨h1,h2⟩
theorem TmAt.mono {w w':World} {b o:Nat} {s:Tm} (h:TmAt w b o s) (hw:Bel w w'):TmAt w' b o s:=(TmAt.both hw).1 h
theorem TmsIn.mono {w w':World} {A:Option Addr} {l:List Tm} (h:TmsIn w A l) (hw:Bel w w'):TmsIn w' A l:=(TmAt.both hw).2 h
theorem TmsIn.le {w:World} {A:Option Addr} {l:List Tm} (h:TmsIn w A l):l.length≤jJ:=by
  cases h with
  | nil=>exact Nat.zero_le _
  | more hl=>exact hl
theorem TmsIn.at_ {w:World} {A:Option Addr} {l:List Tm} (h:TmsIn w A l) {k:Nat} (hk:k < l.length):∃ b o A' c B d,A=some ⟨b,o,none⟩∧b < w.heap.size∧w.rangeAt b (o + k * 6) [Value.int .i64 (l[k]).kind,.string (l[k]).name,.int .i64 (l[k]).index,.string (l[k]).type.base,.slice A' (l[k]).type.args.length c,.slice B (l[k]).args.length d]∧SimsIn w A' (l[k]).type.args∧TmsIn w B (l[k]).args:=by
  cases h with
  | nil=>simp at hk
  | @more b o _ _ hb h=>
    have hx:=h k hk
    generalize l[k]=s at hx
    cases hx with
    | mk _ hr hs ht=>exact⟨b,o,_,_,_,_,rfl,hb,hr,hs,ht⟩
def Y1 (s:Sm):Prop:=s.base=⟨#[]⟩∧s.args.length=0
instance (s:Sm):Decidable (Y1 s):=by unfold Y1;infer_instance
def ndC (b:Nat) (t:Tm):Int:=
  if t.kind=1 then (if t.index=0∧t.args.length=0 then (if yK t.name=true then (if smF t.type=0 then 0 else 12) else 10) else 5)
  else if t.kind=2 then (if t.name=⟨#[]⟩∧Y1 t.type∧t.args.length=0 then (if t.index < 0∨(b:Int)≤t.index then 15 else 0) else 5)
  else if t.kind=3 then (if t.name=⟨#[]⟩∧t.index=0∧t.args.length=1 then (if smF t.type=0 then 0 else 12) else 5)
  else if t.kind=4 then (if t.name=⟨#[]⟩∧t.index=0∧Y1 t.type∧t.args.length=2 then 0 else 5)
  else 4
theorem ndC_mk (b:Nat) (k:Int) (nm:ByteArray) (i:Int) (s:Sm) (l:List Tm):ndC b (.mk k nm i s l) =
  if k=1 then (if i=0∧l.length=0 then (if yK nm=true then (if smF s=0 then 0 else 12) else 10) else 5)
  else if k=2 then (if nm=⟨#[]⟩∧Y1 s∧l.length=0 then (if i < 0∨(b:Int)≤i then 15 else 0) else 5)
  else if k=3 then (if nm=⟨#[]⟩∧i=0∧l.length=1 then (if smF s=0 then 0 else 12) else 5)
  else if k=4 then (if nm=⟨#[]⟩∧i=0∧Y1 s∧l.length=2 then 0 else 5)
  else 4:=rfl
def inB (t:Tm) (b:Nat):Nat:=if t.kind=3 then b + 1 else b
mutual
def twk:Tm→Nat→Nat→Nat→Nat×Fl
  | .mk k nm i s l,d,b,n=>if 200 < n + 1∨40 < d then (n + 1,(1,(n:Int))) else if ndC b (.mk k nm i s l)=0 then Qk l (d + 1) (inB (.mk k nm i s l) b) (n + 1) else (n + 1,(ndC b (.mk k nm i s l),(n:Int)))
def Qk:List Tm→Nat→Nat→Nat→Nat×Fl
  | [],_,_,n=>(n,(0,0))
  | x :: r,d,b,n=>if (twk x d b n).2.1=0 then Qk r d b (twk x d b n).1 else twk x d b n
end
theorem Xz (t:Tm) (d b n:Nat):twk t d b n=if 200 < n + 1∨40 < d then (n + 1,(1,(n:Int))) else if ndC b t=0 then Qk t.args (d + 1) (inB t b) (n + 1) else (n + 1,(ndC b t,(n:Int))):=by
  cases t;rw [twk];rfl
def tst:List (Tm×Nat×Nat)→Nat→Nat×Fl
  | [],n=>(n,(0,0))
  | x :: r,n=>if (twk x.1 x.2.1 x.2.2 n).2.1=0 then tst r (twk x.1 x.2.1 x.2.2 n).1 else twk x.1 x.2.1 x.2.2 n
theorem Fv (d b:Nat):∀ (l:List Tm) (n:Nat),Qk l d b n=tst (l.map (fun y=>(y,d,b))) n
  | [],_=>by rw [Qk];rfl
  | x :: r,n=>by
    rw [Qk,Fv d b r];rfl
theorem FX:∀ (l r:List (Tm×Nat×Nat)) (n:Nat),tst (l ++ r) n=if (tst l n).2.1=0 then tst r (tst l n).1 else tst l n
  | [],_,_=>rfl
  | x :: l,r,n=>by
    show (if (twk x.1 x.2.1 x.2.2 n).2.1=0 then tst (l ++ r) (twk x.1 x.2.1 x.2.2 n).1 else twk x.1 x.2.1 x.2.2 n)=_
    rw [FX l r]
    show _=if (if (twk x.1 x.2.1 x.2.2 n).2.1=0 then tst l (twk x.1 x.2.1 x.2.2 n).1 else twk x.1 x.2.1 x.2.2 n).2.1=0 then tst r (if (twk x.1 x.2.1 x.2.2 n).2.1=0 then tst l (twk x.1 x.2.1 x.2.2 n).1 else twk x.1 x.2.1 x.2.2 n).1 else (if (twk x.1 x.2.1 x.2.2 n).2.1=0 then tst l (twk x.1 x.2.1 x.2.2 n).1 else twk x.1 x.2.1 x.2.2 n)
    by_cases h:(twk x.1 x.2.1 x.2.2 n).2.1=0
    · simp only [if_pos h]
    · simp only [if_neg h]
theorem tst_out {n d b:Nat} {t:Tm} {r:List (Tm×Nat×Nat)} (h:200 < n + 1∨40 < d):tst ((t,d,b) :: r) n=(n + 1,(1,(n:Int))):=by
  have e:twk t d b n=(n + 1,(1,(n:Int))):=by rw [Xz,if_pos h]
  show (if (twk t d b n).2.1=0 then _ else twk t d b n)=_;rw [e];rfl
theorem tst_bad {n d b:Nat} {t:Tm} {r:List (Tm×Nat×Nat)} (h:¬(200 < n + 1∨40 < d)) (ho:ndC b t≠0):tst ((t,d,b) :: r) n=(n + 1,(ndC b t,(n:Int))):=by
  have e:twk t d b n=(n + 1,(ndC b t,(n:Int))):=by rw [Xz,if_neg h,if_neg ho]
  show (if (twk t d b n).2.1=0 then _ else twk t d b n)=_;rw [e,if_neg ho]
theorem twks_z:∀ (l:List Tm) (d b n:Nat),(Qk l d b n).2.1=0→(Qk l d b n).2=(0,0)
  | [],_,_,_,_=>by rw [Qk]
  | .mk k nm i s a :: r,d,b,n,h=>by
    rw [Qk] at h ⊢
    by_cases h1:(twk (.mk k nm i s a) d b n).2.1=0
    · rw [if_pos h1] at h ⊢;exact twks_z r d b _ h
    · rw [if_neg h1] at h;exact absurd h h1
theorem twk_z {t:Tm} {d b n:Nat} (h:(twk t d b n).2.1=0):(twk t d b n).2=(0,0):=by
  rw [Xz] at h ⊢;by_cases h1:200 < n + 1∨40 < d
  · rw [if_pos h1] at h;cases h
  · rw [if_neg h1] at h ⊢
    by_cases h2:ndC b t=0
    · rw [if_pos h2] at h ⊢;exact twks_z _ _ _ _ h
    · rw [if_neg h2] at h;exact absurd h h2
theorem tst_go {n d b:Nat} {t:Tm} {r:List (Tm×Nat×Nat)} (h:¬(200 < n + 1∨40 < d)) (ho:ndC b t=0):tst ((t,d,b) :: r) n=tst (t.args.map (fun y=>(y,d + 1,inB t b)) ++ r) (n + 1):=by
  have e:twk t d b n=tst (t.args.map (fun y=>(y,d + 1,inB t b))) (n + 1):=by rw [Xz,if_neg h,if_pos ho,Fv]
  rw [FX,← e];rfl
theorem tst_one (t:Tm) (d b n:Nat):tst [(t,d,b)] n=twk t d b n:=by
  show (if (twk t d b n).2.1=0 then ((twk t d b n).1,(0,0)) else twk t d b n)=_;by_cases h:(twk t d b n).2.1=0
  · rw [if_pos h,← twk_z h]
  · rw [if_neg h]
inductive Tv where
  | con (nm:ByteArray) (τ:Ts)
  | var (i:Nat)
  | abs (τ:Ts) (x:Tv)
  | app (x y:Tv)
def smZ:Sm:= .mk ⟨#[]⟩ []
def Tv.tm:Tv→Tm
  | .con nm τ=> .mk 1 nm 0 τ.sm []
  | .var i=> .mk 2 ⟨#[]⟩ i smZ []
  | .abs τ x=> .mk 3 ⟨#[]⟩ 0 τ.sm [x.tm]
  | .app x y=> .mk 4 ⟨#[]⟩ 0 smZ [x.tm,y.tm]
def Tv.size:Tv→Nat
  | .con _ _=>1
  | .var _=>1
  | .abs _ x=>x.size + 1
  | .app x y=>x.size + y.size + 1
theorem Tv.pos (v:Tv):0 < v.size:=by cases v <;> simp [Tv.size]
def Tv.ok:Nat→Tv→Prop
  | _,.con _ τ=>τ.size≤200
  | b,.var i=>i < b
  | b,.abs τ x=>τ.size≤200∧x.ok (b + 1)
  | b,.app x y=>x.ok b∧y.ok b
theorem smNo_z {s:Sm} (h:Y1 s):s=smZ:=by
  rw [Sm.eta s,h.1,List.length_eq_zero_iff.1 h.2];rfl
theorem nil_of {α:Type} {l:List α} (h:l.length=0):l= []:=List.length_eq_zero_iff.1 h
mutual
theorem O7:∀ (t:Tm) (d b n:Nat),(twk t d b n).2.1=0→∃ v:Tv,t=v.tm∧v.ok b∧(twk t d b n).1=n + v.size∧n + v.size≤200
  | .mk k nm i s l,d,b,n,h=>by
    rw [twk] at h ⊢
    by_cases h1:200 < n + 1∨40 < d
    · rw [if_pos h1] at h;cases h
    rw [if_neg h1] at h ⊢
    by_cases h2:ndC b (.mk k nm i s l)=0
    · rw [if_pos h2] at h ⊢
      obtain⟨vs,e1,e0,e2,e3⟩:=Fk l (d + 1) (inB (.mk k nm i s l) b) (n + 1) h om
      rw [e2]
      rw [ndC_mk] at h2
      by_cases k1:k=1
      · subst k1
        rw [if_pos rfl] at h2
        by_cases q:i=0∧l.length=0
        · rw [if_pos q] at h2
          obtain⟨rfl,q2⟩:=q
          obtain rfl:=nil_of q2
          by_cases q3:yK nm=true
          · rw [if_pos q3] at h2
            by_cases q4:smF s=0
            · obtain⟨τ,rfl,hτ⟩:=smF_ts q4
              obtain rfl:vs= []:=by cases vs with | nil=>rfl | cons a r=>cases e1
              exact⟨.con nm τ,rfl,hτ,by simp [Tv.size],by simp [Tv.size];omega⟩
            · rw [if_neg q4] at h2;cases h2
          · rw [if_neg q3] at h2;cases h2
        · rw [if_neg q] at h2;cases h2
      rw [if_neg k1] at h2
      by_cases k2:k=2
      · subst k2
        rw [if_pos rfl] at h2
        by_cases q:nm=⟨#[]⟩∧Y1 s∧l.length=0
        · rw [if_pos q] at h2
          obtain⟨rfl,qs,q2⟩:=q
          obtain rfl:=nil_of q2
          obtain rfl:=smNo_z qs
          by_cases q3:i < 0∨(b:Int)≤i
          · rw [if_pos q3] at h2;cases h2
          · obtain⟨j,rfl⟩:∃ j:Nat,i=j:=⟨i.toNat,by omega⟩
            obtain rfl:vs= []:=by cases vs with | nil=>rfl | cons a r=>cases e1
            exact⟨.var j,rfl,show j < b by omega,by simp [Tv.size],by simp [Tv.size];omega⟩
        · rw [if_neg q] at h2;cases h2
      rw [if_neg k2] at h2
      by_cases k3:k=3
      · subst k3
        rw [if_pos rfl] at h2
        by_cases q:nm=⟨#[]⟩∧i=0∧l.length=1
        · rw [if_pos q] at h2
          obtain⟨rfl,rfl,q2⟩:=q
          by_cases q4:smF s=0
          · obtain⟨τ,rfl,hτ⟩:=smF_ts q4
            match l,vs,e1,q2 with
            | [x],[v],e1,_=>
              simp only [List.map_cons,List.map_nil,List.cons.injEq,and_true] at e1
              simp only [List.map_cons,List.map_nil,List.sum_cons,List.sum_nil] at e3 ⊢
              have eb:=e0 v (List.mem_singleton.2 rfl)
              have hin:inB (.mk 3 ⟨#[]⟩ 0 τ.sm [x]) b=b + 1:=rfl
              rw [hin] at eb
              exact⟨.abs τ v,by rw [e1];rfl,⟨hτ,eb⟩,by simp only [Tv.size];omega,by simp only [Tv.size];omega⟩
          · rw [if_neg q4] at h2;cases h2
        · rw [if_neg q] at h2;cases h2
      rw [if_neg k3] at h2
      by_cases k4:k=4
      · subst k4
        rw [if_pos rfl] at h2
        by_cases q:nm=⟨#[]⟩∧i=0∧Y1 s∧l.length=2
        · obtain⟨rfl,rfl,qs,q2⟩:=q
          obtain rfl:=smNo_z qs
          match l,vs,e1,q2 with
          | [x,y],[v,u],e1,_=>
            simp only [List.map_cons,List.map_nil,List.cons.injEq,and_true] at e1
            simp only [List.map_cons,List.map_nil,List.sum_cons,List.sum_nil] at e3 ⊢
            have eb:=e0 v (by simp)
            have eu:=e0 u (by simp)
            have hin:inB (.mk 4 ⟨#[]⟩ 0 smZ [x,y]) b=b:=rfl
            rw [hin] at eb eu
            exact⟨.app v u,by rw [e1.1,e1.2];rfl,⟨eb,eu⟩,by simp only [Tv.size];omega,by simp only [Tv.size];omega⟩
        · rw [if_neg q] at h2;cases h2
      · rw [if_neg k4] at h2;cases h2
    · rw [if_neg h2] at h;exact absurd h h2
theorem Fk:∀ (l:List Tm) (d b n:Nat),(Qk l d b n).2.1=0→n≤200→∃ vs:List Tv,l=vs.map Tv.tm∧(∀ v ∈ vs,v.ok b)∧(Qk l d b n).1=n + (vs.map Tv.size).sum∧n + (vs.map Tv.size).sum≤200
  | [],d,b,n,_,hn=>⟨[],rfl,(fun _ h=>by cases h),(by rw [Qk];rfl),hn⟩
  | x :: r,d,b,n,h,hn=>by
    rw [Qk] at h ⊢
    by_cases h1:(twk x d b n).2.1=0
    · rw [if_pos h1] at h ⊢
      obtain⟨v,e1,e0,e2,e3⟩:=O7 x d b n h1
      rw [e2] at h ⊢
      obtain⟨vs,k1,k0,k2,k3⟩:=Fk r d b (n + v.size) h e3
      refine⟨v :: vs,by rw [e1,k1];rfl,fun u hu=>?_,by rw [k2];simp;omega,by simp;omega⟩
      rcases List.mem_cons.1 hu with rfl | hu
      · exact e0
      · exact k0 u hu
    · rw [if_neg h1] at h;exact absurd h h1
end
theorem Tv.tm_inj:∀ {a b:Tv},a.tm=b.tm→a=b
  | .con n s,.con m t,h=>by
    simp only [Tv.tm,Tm.mk.injEq,and_true,true_and] at h
    rw [h.1,Ts.sm_inj h.2]
  | .var i,.var j,h=>by
    simp only [Tv.tm,Tm.mk.injEq,and_true,true_and] at h
    rw [show i=j by omega]
  | .abs s x,.abs t y,h=>by
    simp only [Tv.tm,Tm.mk.injEq,List.cons.injEq,and_true,true_and] at h
    rw [Ts.sm_inj h.1,Tv.tm_inj h.2]
  | .app x y,.app u v,h=>by
    simp only [Tv.tm,Tm.mk.injEq,List.cons.injEq,and_true,true_and] at h
    rw [Tv.tm_inj h.1,Tv.tm_inj h.2]
  | .con _ _,.var _,h=>by simp [Tv.tm] at h
  | .con _ _,.abs _ _,h=>by simp [Tv.tm] at h
  | .con _ _,.app _ _,h=>by simp [Tv.tm] at h
  | .var _,.con _ _,h=>by simp [Tv.tm] at h
  | .var _,.abs _ _,h=>by simp [Tv.tm] at h
  | .var _,.app _ _,h=>by simp [Tv.tm] at h
  | .abs _ _,.con _ _,h=>by simp [Tv.tm] at h
  | .abs _ _,.var _,h=>by simp [Tv.tm] at h
  | .abs _ _,.app _ _,h=>by simp [Tv.tm] at h
  | .app _ _,.con _ _,h=>by simp [Tv.tm] at h
  | .app _ _,.var _,h=>by simp [Tv.tm] at h
  | .app _ _,.abs _ _,h=>by simp [Tv.tm] at h
def tyv:List Ts→Tv→Option Ts
  | _,.con _ τ=>some τ
  | Γ,.var i=>Γ[i]?
  | Γ,.abs τ x=>(tyv (τ :: Γ) x).map (.f τ)
  | Γ,.app x y=>match tyv Γ x,tyv Γ y with
    | some (.f a r),some z=>if a.eqb z=true then some r else none
    | _,_=>none
theorem MX:∀ {v:Tv} {Γ:List Ts} {τ:Ts},v.ok Γ.length→(∀ σ ∈ Γ,σ.size≤200)→tyv Γ v=some τ→τ.size≤201 * v.size
  | .con _ τ,Γ,τ',h,_,e=>by
    obtain rfl:τ=τ':=Option.some.inj e
    have:τ.size≤200:=h
    simp only [Tv.size];omega
  | .var i,Γ,τ,h,hG,e=>by
    have:=hG τ (List.mem_of_getElem? e)
    simp only [Tv.size];omega
  | .abs σ x,Γ,τ,h,hG,e=>by
    simp only [tyv,Option.map_eq_some_iff] at e
    obtain⟨ρ,e1,rfl⟩:=e
    have h1:=MX (v:=x) (Γ:=σ :: Γ) h.2 (fun q hq=>by
      rcases List.mem_cons.1 hq with rfl | hq
      · exact h.1
      · exact hG q hq) e1
    have:=h.1
    simp only [Tv.size,Ts.size];omega
  | .app x y,Γ,τ,h,hG,e=>by
    simp only [tyv] at e
    split at e
    · rename_i a r z h1 h2
      split at e
      · obtain rfl:r=τ:=Option.some.inj e
        have h3:=MX (v:=x) h.1 hG h1
        simp only [Tv.size,Ts.size] at h3 ⊢;omega
      · cases e
    · cases e
open Classical in
noncomputable def tmF (t:Tm):Fl:=if (twk t 1 0 0).2.1=0 then (if ∃ v τ,t=Tv.tm v∧tyv [] v=some τ then (0,0) else (12,-1)) else (twk t 1 0 0).2
theorem FK {t:Tm} (h:¬(twk t 1 0 0).2.1=0):tmF t=(twk t 1 0 0).2:=by unfold tmF;rw [if_neg h]
theorem tmF_ok {v:Tv} (h:(twk v.tm 1 0 0).2.1=0):tmF v.tm=if (tyv [] v).isSome then (0,0) else (12,-1):=by
  unfold tmF;rw [if_pos h];cases e:tyv [] v with
  | none=>
    rw [if_neg]
    · rfl
    · rintro ⟨u,τ,h1,h2⟩
      rw [← Tv.tm_inj h1,e] at h2;cases h2
  | some τ=>rw [if_pos ⟨v,τ,rfl,e⟩];rfl
end Go.Proofs.YtfkbjncidemcbaaDoor
namespace Go.Proofs.YtfkbjncidemcbaaDoor
open Go.RowKit
def vW (l:List Ty) (i:Nat):Int:=match l[i]? with
  | none=>0
  | some t=>if yK t.name=false then 10 else if ky ((l.take i).map (·.name)) t.name=true then 7 else if (decide (i=0) == t.par.isEmpty)=false then 5 else jK i (-1) t.par
def y9 (l:List Ty):Fl:=if l.length=0∨60 < l.length then (2,-1) else xV (vW l) 0 l.length
theorem Kx (xs:List Int):decide ((xs.length:Int)=0)=xs.isEmpty:=by cases xs <;> simp;omega
theorem Wy {k:Nat} {xs:List Int} (h:(!(decide ((k:Int)=0) == decide ((xs.length:Int)=0)))=true):(decide (k=0) == xs.isEmpty)=false:=by
  rw [Kx] at h
  simpa using h
theorem mal_no {k:Nat} {xs:List Int} (h:(!(decide ((k:Int)=0) == decide ((xs.length:Int)=0)))=false):(decide (k=0) == xs.isEmpty)=true:=by
  rw [Kx] at h
  simpa using h
theorem ty10 (l:List Ty) (k:Nat) (hlt:k < l.length) (h1:yK l[k].name=false):vW l k=10:=by
  simp only [vW,List.getElem?_eq_getElem hlt,h1,if_true]
theorem ty7 (l:List Ty) (k:Nat) (hlt:k < l.length) (h1:yK l[k].name=true) (h2:ky ((l.take k).map (·.name)) l[k].name=true):vW l k=7:=by
  simp only [vW,List.getElem?_eq_getElem hlt,h1,h2,if_true];rfl
theorem ty5 (l:List Ty) (k:Nat) (hlt:k < l.length) (h1:yK l[k].name=true) (h2:ky ((l.take k).map (·.name)) l[k].name=false) (h3:(decide (k=0) == l[k].par.isEmpty)=false):vW l k=5:=by
  simp only [vW,List.getElem?_eq_getElem hlt,h1,h2,h3,if_true];rfl
theorem O6 (l:List Ty) (k:Nat) (hlt:k < l.length) (h1:yK l[k].name=true) (h2:ky ((l.take k).map (·.name)) l[k].name=false) (h3:(decide (k=0) == l[k].par.isEmpty)=true):vW l k=jK k (-1) (l[k].par.drop 0):=by
  simp only [vW,List.getElem?_eq_getElem hlt,h1,h2,h3,List.drop_zero];rfl
theorem fn37:qj Tryd.prog 37=true:=by kernel_rfl
theorem fn61:qj Tryd.prog 61=true:=by kernel_rfl
theorem Y7:(Tryd.prog.info? 122).map (·.size)=some 2:=by kernel_rfl
theorem sz3:(Tryd.prog.info? 3).map (·.size)=some 1:=by kernel_rfl
theorem HQ:(Tryd.prog.info? 73).map (·.size)=some 1:=by kernel_rfl
theorem sz9:(Tryd.prog.info? 9).map (·.size)=some 1:=by kernel_rfl
theorem ze122:(Tryd.prog.info? 122).map (·.zero)=some (some (.agg #[.string ⟨#[]⟩,.slice none 0 0])):=by kernel_rfl
theorem ze3:(Tryd.prog.info? 3).map (·.zero)=some (some (.int .i64 0)):=by kernel_rfl
theorem Hv (A:Option Addr) (c:Nat) (l:List Ty) (w:World) (hT:TypesIn w A l):Calls Tryd.prog 62 #[.slice A l.length c] w fun e w'=>e= .returned (flV (y9 l))∧Bel w w':=by
 refine enter Tryd.func62 Tryd.ntmps62 rfl (Nat.le_of_ble_eq_true rfl) ?_;have hB:Bel w w:=Below.refl _ _;refine zz (z4 ?_);refine xQ (cs:=#[.int .i64 0,.int .i64 0]) ze43 rfl (fun b2 w1 hb2 hs hr=>?_);have lo2:=nLT (Bel.size hB) hr;replace hB:=hB.tr0 hs;refine zq (e_S (zz (zz ?_)));refine y7 [11,12,13,14,15,16,17,18] 18 (.bool (decide (l.length=0∨60 < l.length))) nu ?_ (fun gq=>?_)
 ·refine z4 (wmS rfl (wl (x6 U22 rfl) (wl (xv rfl rfl) (wmB rfl ?_))));refine zJ 14 rfl (fun g14=>?_) (fun g14=>?_)
  ·refine zy 14 rfl rfl rfl (zy 14 rfl rfl rfl (zy 14 rfl rfl rfl (wl (qw (v:= .bool _) rfl rfl) ?_)));refine zq (e_R ⟨rfl,agA,?_⟩);exact clA
  refine zw 14 rfl rfl (wmS rfl (zw 14 rfl rfl (wl (x6 U22 rfl) (zw 14 rfl rfl (wl (yX rfl rfl) (wl (qV (v:= .bool _) rfl rfl) ?_))))));refine zq (e_R ⟨rfl,agA,?_⟩);exact clA
 refine e_S ?_;refine qx rfl (fun c18=>?_) (fun c18=>?_)
 ·refine zz (z4 ?_);refine qJ fn61 (kY _ _ _) rfl (fun e' w2 hr=>?_);obtain⟨rfl,hs⟩:=hr;replace hs:=sB hs;replace hB:=hB.tr0 hs;replace hb2:=hb2.tr0 hs;refine⟨_,rfl,?_⟩;refine qz hb2 rfl rfl gz rfl qX (fun w3 hq hs=>?_);replace hB:=hB.tr1 hs lo2;replace hb2:=hq;refine zq (e_S (q8 (qQ (qK (.inl rfl) rfl (qq U43 rfl rfl hb2.range0 gz) ?_))));exact⟨xj (by simp only [y9,if_pos c18]),hB⟩
 have hR:=Lib.hid (show y9 l=xV (vW l) 0 (l.length - 0) by simp only [y9,if_neg c18,Nat.sub_zero]);refine zK (e_S (zz (z4 ?_)));refine wl_mm (fun b20 w4 hb20 hs hr=>?_);have:=nLL hb2.lt hr;have lo20:=nLT (Bel.size hB) hr;replace hB:=hB.tr0 hs;replace hb2:=hb2.tr0 hs;refine wl (oy (v:= .map _) rfl) (zq (e_S (zz (zz (z4 (wmS rfl (wl (x6 U22 rfl) (wmI rfl (zq (e_S (zY ?_)))))))))));refine x8 [4,5,6,7,8,10,23,24,25,26,27,28,29,30,31,32,33,34,35,36,37,38,39,40,41,42,43,44,45,46,47,48,49,50,51,52,53,54,55,56,57,58,59,60,61,62,63,64,65,66,67,68,69,70,71,72,73,74,75,76,77,78,79,80] (fun m g w'=>∃ (k:Nat) (mp:List (ByteArray×Value)),k≤l.length∧m=l.length - k∧g 23= .int .i64 k∧Bel w w'∧Blk w' b2 43 #[.int .i64 0,.int .i64 0]∧MapS w' b20 mp∧(∀ s,lkB mp s=ky ((l.take k).map (·.name)) s)∧y9 l=xV (vW l) k (l.length - k)) (l.length) ?_ (fun m g5 w5 hI=>?_)
 ·exact⟨0,[],Nat.zero_le _,rfl,rfl,hB,hb2,hb20,fun s=>rfl,hR.out⟩
 obtain⟨k,mp,hk,hm,h23,hB,hb2,hb20,hmp,hR'⟩:=hI;refine qv 23 (.int .i64 k) h23 nu (zz (z4 (wl (x9 rfl rfl) (zq (e_S (zz ?_))))));refine qx rfl (fun c24=>?_) (fun c24=>?_)
 ·have hlt:k < l.length:=by omega
  obtain⟨tb,to,A',cp,rfl,htb,htr,hpar⟩:=hT.at_ hB hlt;refine zK (e_S (zz (zY (zz (z4 (wmI rfl (wl (xX (i:=k) U22 Y7 rfl rfl om rfl) (wl (zW QJ rfl rfl htr Y7) ?_))))))));refine xQ (cs:=#[.string ⟨#[]⟩,.slice none 0 0]) ze122 rfl (fun b5 w6 hb5 hs hr=>?_);have:=nLL hb2.lt hr;have:=nLL hb20.lt hr;have lo5:=nLT (Bel.size hB) hr;replace hB:=hB.tr0 hs;replace hb2:=hb2.tr0 hs;replace hb20:=hb20.tr0 hs;refine waI rfl ?_;refine qz hb5 rfl rfl Y7 rfl qX (fun w7 hq hs=>?_);replace hB:=hB.tr1 hs lo5;replace hb2:=hb2.tr1 hs om;replace hb20:=hb20.tr1 hs om;replace hb5:=hq;refine zq (e_S (zz (zz (z4 (wl (zV QJ sz9 dE rfl rfl rfl) (wl (zQ (v:= .string _) U9 rfl rfl (hb5.cell rfl)) ?_))))));refine qJ fn37 (Kq _ _) rfl (fun e' w8 hr=>?_);obtain⟨rfl,rfl⟩:=hr;refine⟨_,rfl,?_⟩;refine wl (vY rfl) (zq (e_S ?_));refine kZ rfl (fun c31=>?_) (fun c31=>?_)
  ·have hty:=ty10 l k hlt (by simpa using c31);refine zz (z4 (wmI rfl ?_));refine qJ fn61 (kY _ _ _) rfl (fun e' w9 hr=>?_);obtain⟨rfl,hs⟩:=hr;replace hs:=sB hs;replace hB:=hB.tr0 hs;replace hb2:=hb2.tr0 hs;refine⟨_,rfl,?_⟩;refine qz hb2 rfl rfl gz rfl qX (fun w10 hq hs=>?_);replace hB:=hB.tr1 hs lo2;replace hb2:=hq;refine zq (e_S (q8 (qQ (qW (qQ (y8 (qW (qQ (qK (.inl rfl) rfl (qq U43 rfl rfl hb2.range0 gz) ?_)))))))));exact⟨xj (hR'.trans (xy (c:=10) om hty dE)),hB⟩
  have hnm:yK (l[k]'hlt).name=true:=by simpa using c31
  refine zK (e_S (zz (zz (z4 (wl (qy (v:= .map _) rfl) (wl (zV QJ sz9 dE rfl rfl rfl) (wl (zQ (v:= .string _) U9 rfl rfl (hb5.cell rfl)) (wl (r_lkS hb20 U91 U9 ze3 rfl rfl) (wmT rfl (wl (uk (v:=_) rfl rfl) (wl (uk (v:= .bool _) rfl rfl) (wl (oy (v:=_) rfl) (waB rfl (zq (e_S (zz (z4 (wmB rfl (zq (e_S ?_))))))))))))))))))));refine kZ rfl (fun c41=>?_) (fun c41=>?_)
  ·have hty:=ty7 l k hlt hnm ((hmp _).symm.trans c41);refine zz (z4 (wmI rfl ?_));refine qJ fn61 (kY _ _ _) rfl (fun e' w11 hr=>?_);obtain⟨rfl,hs⟩:=hr;replace hs:=sB hs;replace hB:=hB.tr0 hs;replace hb2:=hb2.tr0 hs;refine⟨_,rfl,?_⟩;refine qz hb2 rfl rfl gz rfl qX (fun w12 hq hs=>?_);replace hB:=hB.tr1 hs lo2;replace hb2:=hq;refine zq (e_S (q8 (qQ (qW (qQ (y8 (qW (qQ (qK (.inl rfl) rfl (qq U43 rfl rfl hb2.range0 gz) ?_)))))))));exact⟨xj (hR'.trans (xy (c:=7) om hty dE)),hB⟩
  have hsn:ky ((l.take k).map (·.name)) (l[k]'hlt).name=false:=by rw [← hmp];exact c41
  have hmp':∀ s,lkB (I3 mp (l[k]'hlt).name (.int .i64 k)) s=ky ((l.take (k + 1)).map (·.name)) s:=fun s=>by
    rw [o7 _ _ _ c41,oQ l hlt,List.map_append,List.map_cons,List.map_nil,ZJ,← hmp];simp [lkB]
  refine zK (e_S (zz (z4 (wl (qy (v:= .map _) rfl) (wl (zV QJ sz9 dE rfl rfl rfl) (wl (zQ (v:= .string _) U9 rfl rfl (hb5.cell rfl)) (wmI rfl ?_)))))));refine T7 (v:= .int _ _) hb20 U91 U9 rfl rfl rfl (fun w13 hq hs=>?_);replace hB:=hB.tr1 hs lo20;replace hb2:=hb2.tr1 hs om;replace hb5:=hb5.tr1 hs om;replace hb20:=hq;refine zq (e_S (zz (zz (z4 (wmI rfl (wl (xv rfl rfl) (wl (zV QJ HQ dE rfl rfl rfl) (wl (zQ (v:= .slice _ _ _) U73 rfl rfl (hb5.cell rfl)) (wl (x6 U73 rfl) (wl (xv rfl rfl) (wl (Ow U4 rfl rfl) (zq (e_S ?_)))))))))))));refine kZ rfl (fun c54=>?_) (fun c54=>?_)
  ·have hty:=ty5 l k hlt hnm hsn (Wy c54);refine zz (z4 (wmI rfl ?_));refine qJ fn61 (kY _ _ _) rfl (fun e' w14 hr=>?_);obtain⟨rfl,hs⟩:=hr;replace hs:=sB hs;replace hB:=hB.tr0 hs;replace hb2:=hb2.tr0 hs;refine⟨_,rfl,?_⟩;refine qz hb2 rfl rfl gz rfl qX (fun w15 hq hs=>?_);replace hB:=hB.tr1 hs lo2;replace hb2:=hq;refine zq (e_S (q8 (qQ (qW (qQ (y8 (qW (qQ (qK (.inl rfl) rfl (qq U43 rfl rfl hb2.range0 gz) ?_)))))))));exact⟨xj (hR'.trans (xy (c:=5) om hty dE)),hB⟩
  have hmal:=mal_no c54;refine zK (e_S (zz (z4 (waI rfl (zq (e_S (zz (z4 (wl (zV QJ HQ dE rfl rfl rfl) (wl (zQ (v:= .slice _ _ _) U73 rfl rfl (hb5.cell rfl)) (wl (x6 U73 rfl) (wmI rfl (zq (e_S (zY ?_)))))))))))))));refine x8 [8,10,60,61,62,63,64,65,66,67,68,69,70,71,72,73,74,75,76,77,78,79] (fun m g w'=>∃ (j:Nat) (last:Int),j≤(l[k]'hlt).par.length∧m=(l[k]'hlt).par.length - j∧g 60= .int .i64 j∧g 8= .int .i64 last∧w13=w'∧vW l k=jK k last ((l[k]'hlt).par.drop j)) ((l[k]'hlt).par.length) ?_ (fun m g17 w16 hI=>?_)
  ·exact⟨0,-1,Nat.zero_le _,rfl,rfl,rfl,rfl,O6 l k hlt hnm hsn hmal⟩
  obtain⟨j,last,hj,hmj,h60,h8,rfl,hP⟩:=hI;refine qv 60 (.int .i64 j) h60 nu (qv 8 (.int .i64 last) h8 nu (zz (z4 (wl (x9 rfl rfl) (zq (e_S (zz ?_)))))));refine qx rfl (fun c61=>?_) (fun c61=>?_)
  ·have hlj:j < (l[k]'hlt).par.length:=by omega
   have hmx:=hpar.1;unfold jJ at hmx;obtain⟨pb,po,rfl,hpb,hpc⟩:=hpar.at_ hlj;replace hpc:=hB.cell hpb hpc;refine zK (e_S (zz (zY (zz (z4 (wl (xX (i:=j) U73 sz3 rfl rfl om rfl) (wl (zQ (v:= .int _ _) U3 rfl rfl hpc) (waI rfl (zq (e_S (zz (zz ?_))))))))))));refine y7 [64,65,66,67,68,69,70] 70 (.bool (decide ((l[k]'hlt).par[j] < 0∨(k:Int)≤(l[k]'hlt).par[j]))) nu ?_ (fun gq=>?_)
   ·refine z4 (wmI rfl (wl (x9 rfl rfl) (wmB rfl ?_)));refine zJ 66 rfl (fun g66=>?_) (fun g66=>?_)
    ·refine zy 66 rfl rfl rfl (zy 66 rfl rfl rfl (zy 66 rfl rfl rfl (wl (qw (v:= .bool _) rfl rfl) ?_)));refine zq (e_R ⟨rfl,agA,?_⟩);exact clA
    refine zw 66 rfl rfl (wmI rfl (zw 66 rfl rfl (wmI rfl (zw 66 rfl rfl (wl (vK rfl rfl) (wl (qV (v:= .bool _) rfl rfl) ?_))))));refine zq (e_R ⟨rfl,agA,?_⟩);exact clA
   refine e_S ?_;refine qx rfl (fun c70=>?_) (fun c70=>?_)
   ·have hty:vW l k=3:=by rw [hP,List.drop_eq_getElem_cons hlj];simp only [jK,if_pos c70]
    refine zz (z4 (wmI rfl ?_));refine qJ fn61 (kY _ _ _) rfl (fun e' w17 hr=>?_);obtain⟨rfl,hs⟩:=hr;replace hs:=sB hs;replace hB:=hB.tr0 hs;replace hb2:=hb2.tr0 hs;refine⟨_,rfl,?_⟩;refine qz hb2 rfl rfl gz rfl qX (fun w18 hq hs=>?_);replace hB:=hB.tr1 hs lo2;replace hb2:=hq;refine zq (e_S (q8 (qQ (qW (qQ (y8 (qW (qW (qQ (y8 (qW (qQ (qK (.inl rfl) rfl (qq U43 rfl rfl hb2.range0 gz) ?_)))))))))))));exact⟨xj (hR'.trans (xy (c:=3) om hty dE)),hB⟩
   refine zK (e_S (zz (zz (z4 (wmI rfl (wmI rfl (wl (uz rfl rfl) (zq (e_S ?_)))))))));refine qx rfl (fun c75=>?_) (fun c75=>?_)
   ·have hty:vW l k=13:=by rw [hP,List.drop_eq_getElem_cons hlj];simp only [jK,if_neg c70,if_pos c75]
    refine zz (z4 (wmI rfl ?_));refine qJ fn61 (kY _ _ _) rfl (fun e' w19 hr=>?_);obtain⟨rfl,hs⟩:=hr;replace hs:=sB hs;replace hB:=hB.tr0 hs;replace hb2:=hb2.tr0 hs;refine⟨_,rfl,?_⟩;refine qz hb2 rfl rfl gz rfl qX (fun w20 hq hs=>?_);replace hB:=hB.tr1 hs lo2;replace hb2:=hq;refine zq (e_S (q8 (qQ (qW (qQ (y8 (qW (qW (qQ (y8 (qW (qQ (qK (.inl rfl) rfl (qq U43 rfl rfl hb2.range0 gz) ?_)))))))))))));exact⟨xj (hR'.trans (xy (c:=13) om hty dE)),hB⟩
   have hP':vW l k=jK k (l[k]'hlt).par[j] ((l[k]'hlt).par.drop (j + 1)):=by rw [hP,List.drop_eq_getElem_cons hlj];simp only [jK,if_neg c70,if_neg c75]
   refine zK (e_S (z4 (wmI rfl (waI rfl (zq (e_B (e_S (z4 (wl (xw rfl rfl rfl om) (wmI rfl (zq (yw ((l[k]'hlt).par.length - (j + 1)) om agA ?_))))))))))));exact⟨j + 1,(l[k]'hlt).par[j],by omega,rfl,rfl,rfl,rfl,hP'⟩
  have hty:=Lib.hid (show vW l k=0 by rw [hP,List.drop_eq_nil_of_le om];rfl);refine xx (vx (yq (vj (e_B (e_S (z4 (wl (xw rfl rfl rfl om) (wmI rfl (zq (yw (l.length - (k + 1)) om agA ?_))))))))));exact⟨k + 1,I3 mp (l[k]'hlt).name (.int .i64 k),by omega,rfl,rfl,hB,hb2,hb20,hmp',hR'.trans (vV hlt hty.out)⟩
 refine xx (vx (yq (vj (e_S (zz (z4 (wl (gZ (vs:=#[]) (cs:=#[.int .i64 0,.int .i64 0]) (by simp) kR) ?_)))))));refine qz hb2 rfl rfl gz rfl qX (fun w21 hq hs=>?_);replace hB:=hB.tr1 hs lo2;replace hb2:=hq;refine zq (e_S (q8 (qK (.inl rfl) rfl (qq U43 rfl rfl hb2.range0 gz) ?_)));exact⟨xj (hR'.trans (jz om)),hB⟩
end Go.Proofs.YtfkbjncidemcbaaDoor
