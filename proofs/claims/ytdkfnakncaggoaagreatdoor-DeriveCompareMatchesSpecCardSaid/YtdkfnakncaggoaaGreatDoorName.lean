/- Arguments opened: slices of ints and of structs, as the readings of data give them. Nothing here speaks of one program. Steps that need no hint. Simple types as plain trees, how a world holds them, and what is wrong with them. No program in sight. What these functions of the program compute, at every world: glosswright/term.Name, glosswright/hierarchy.fault. -/
import Derived.Test.YtdkfnakncaggoaaGreatDoorData
import Derived.ChangeSame
import Derived.ChangeArms
import Derived.Clock
import Derived.Carry
import Derived.OpenShut
import Derived.Deep.Slices
import Derived.Deep.Strs
import Derived.Lib.SmallJoins
import Derived.Test.YtdkfnakncaggoaaGreatDoorU
import Derived.Test.YtdkfnakncaggoaaGreatDoorProg
namespace Go.Proofs.YtdkfnakncaggoaaGreatDoor
open Go.RowKit Go.ChangeShapes Go.WideShapes Go.Deep Go.Joins
theorem vV {α:Type} {n:Nat} {p:Nat→α→Prop} (h:∀ i,i < n→∃ x,p i x):∃ l:List α,l.length=n∧∀ k (hk:k < l.length),p k l[k]:=by
  induction n with
  | zero=>exact⟨[],rfl,fun k hk=>by simp at hk⟩
  | succ n ih=>
    obtain⟨l,hl,hp⟩:=ih (fun i hi=>h i om);obtain⟨x,hx⟩:=h n om;refine⟨l ++ [x],by simp [hl],fun k hk=>?_⟩;by_cases e:k < l.length
    · rw [List.getElem_append_left e];exact hp k e
    · have e2:k=l.length:=by simp at hk;omega
      subst e2;have e3:(l ++ [x])[l.length]'hk=x:=by simp
      rw [e3,hl];exact hx
section
variable {H:Type} {enc:TypeId×Value→H} {P:Program} {w:World} {base:Nat} {spare:Nat→Bool} {held:Bool}
theorem vZ {v v':Value} (h:[v]= [v']):v=v':=by cases h;rfl
theorem J9 {t e:TypeId} {sz fuel:Nat} {v:Value} {x:DataW H×List MemPlace} (ht:P.underlying t=some (.slice e)) (hsz:P.cellsOf e=sz) (hpos:0 < sz) (h:DataW.trod enc P w base spare held fuel t [v]=some x):
    ∃ A len c,v= .slice A len c∧len≤c∧c≤yJ∧(len≠0→∃ b o,A=some ⟨b,o,none⟩∧b < w.heap.size∧∀ i,i < len→∃ cs k y,cs.length=sz∧w.rangeAt b (o + i * sz) cs∧DataW.trod enc P w base spare held k e cs=some y):=by
  rcases open_slice ht h with ⟨hc,_⟩ | ⟨a,len,cap,m,n,D,Pl,hc,hb,hl,hm,hmm,_,hi⟩
  · rw [vZ hc]
    exact⟨none,0,0,rfl,Nat.le_refl _,Nat.zero_le _,fun h=>absurd rfl h⟩
  · rw [vZ hc]
    rw [hsz] at hi;refine⟨some a,len,cap,rfl,hl,hm,fun h0=>?_⟩;have hlm:len≤m:=by rw [hmm];split <;> omega
    obtain⟨b,o,s⟩:=a;have hsp:s=none∧b < w.heap.size:=by
      obtain⟨cs,h1,_⟩:=hi 0 om;obtain⟨_,h3,h4⟩:=World.cells?_some h1;have h5:=h4 0 hpos;have h6:cs[0]? =some (cs[0]'om):=List.getElem?_eq_getElem om;have h7:(Addr.add (Addr.add ⟨b,o,s⟩ (0 * sz)) 0)=⟨b,o,s⟩:=by simp [Addr.add]
      rw [h7,h6] at h5;exact⟨World.cell?_spot h5,Go.Clock.block_lt h5⟩
    obtain⟨rfl,hlt⟩:=hsp;refine⟨b,o,rfl,hlt,fun i hil=>?_⟩;obtain⟨cs,h1,h2⟩:=hi i om;obtain⟨_,h3,h4⟩:=World.cells?_some h1;refine⟨cs,n,_,h3,fun j v hj=>?_,h2⟩;have hjl:=(List.getElem?_eq_some_iff.1 hj).1;have h5:=h4 j om;rw [Addr.add_mid,Addr.add_mid] at h5;rw [h5];exact hj
theorem ints_open {t e:TypeId} {fuel:Nat} {v:Value} {x:DataW H×List MemPlace} (ht:P.underlying t=some (.slice e)) (he:P.underlying e=some (.int .i64)) (hsz:P.cellsOf e=1) (h:DataW.trod enc P w base spare held fuel t [v]=some x):
    ∃ A xs c,v= .slice A (List.length xs) c∧xs.length≤c∧IntsIn w A xs:=by
  obtain⟨A,len,c,rfl,hl,hm,hx⟩:=J9 ht hsz dE h;by_cases h0:len=0
  · subst h0
    exact⟨A,[],c,rfl,Nat.zero_le _,Nat.zero_le _,fun h=>absurd rfl h⟩
  · obtain⟨b,o,rfl,hlt,hc⟩:=hx h0
    obtain⟨xs,hxl,hxs⟩:=vV (p:=fun i (z:Int)=>w.cell? ⟨b,o + i * 1,none⟩=some (.int .i64 z)) (n:=len) (fun i hi=>by
      obtain⟨cs,k,y,h1,h2,h3⟩:=hc i hi;obtain⟨z,rfl,_,_⟩:=DataW.trod_int he h3
      exact⟨z,h2 0 _ rfl⟩)
    subst hxl;exact⟨_,xs,c,rfl,hl,nLT hl hm,fun _=>⟨b,o,rfl,hlt,hxs⟩⟩
theorem Kq {e:TypeId} {f0 f1:Field} {fuel:Nat} {cs:List Value} {x:DataW H×List MemPlace} (he:P.underlying e=some (.struct #[f0,f1])) (hl:cs.length=2) (o0:f0.offset=0) (o1:f1.offset=1) (c0:P.cellsOf f0.type=1) (c1:P.cellsOf f1.type=1) (h:DataW.trod enc P w base spare held fuel e cs=some x):
    ∃ v0 v1 n y0 y1,cs= [v0,v1]∧DataW.trod enc P w base spare held n f0.type [v0]=some y0∧DataW.trod enc P w base spare held n f1.type [v1]=some y1:=by
  obtain⟨y0,y1,n,_,_,h0,h1⟩:=trod_struct2 he h
  match cs,hl with
  | [v0,v1],_=>
    simp [o0,o1,c0,c1] at h0 h1;exact⟨v0,v1,n,y0,y1,rfl,h0,h1⟩
theorem B3 {e:TypeId} {f0 f1 f2:Field} {fuel:Nat} {cs:List Value} {x:DataW H×List MemPlace} (he:P.underlying e=some (.struct #[f0,f1,f2])) (hl:cs.length=3) (o0:f0.offset=0) (o1:f1.offset=1) (o2:f2.offset=2) (c0:P.cellsOf f0.type=1) (c1:P.cellsOf f1.type=1) (c2:P.cellsOf f2.type=1) (h:DataW.trod enc P w base spare held fuel e cs=some x):
    ∃ v0 v1 v2 n y0 y1 y2,cs= [v0,v1,v2]∧DataW.trod enc P w base spare held n f0.type [v0]=some y0∧DataW.trod enc P w base spare held n f1.type [v1]=some y1∧DataW.trod enc P w base spare held n f2.type [v2]=some y2:=by
  obtain⟨y0,y1,y2,n,_,_,h0,h1,h2⟩:=trod_struct3 he h
  match cs,hl with
  | [v0,v1,v2],_=>
    simp [o0,o1,o2,c0,c1,c2] at h0 h1 h2;exact⟨v0,v1,v2,n,y0,y1,y2,rfl,h0,h1,h2⟩
theorem TW {t e ts ti tis:TypeId} {f0 f1:Field} {fuel:Nat} {v:Value} {x:DataW H×List MemPlace} (ht:P.underlying t=some (.slice e)) (he:P.underlying e=some (.struct #[f0,f1])) (hsz:P.cellsOf e=2) (o0:f0.offset=0) (o1:f1.offset=1) (e0:f0.type=ts) (e1:f1.type=tis) (hs:P.underlying ts=some .string) (hcs:P.cellsOf ts=1) (hci:P.cellsOf tis=1)
    (hti:P.underlying tis=some (.slice ti)) (hi:P.underlying ti=some (.int .i64)) (hc1:P.cellsOf ti=1) (h:DataW.trod enc P w base spare held fuel t [v]=some x):
    ∃ A l c,v= .slice A (List.length l) c∧l.length≤c∧TypesIn w A l:=by
  subst e0 e1;obtain⟨A,len,c,rfl,hl,hm,hx⟩:=J9 ht hsz dE h;by_cases h0:len=0
  · subst h0
    exact⟨A,[],c,rfl,Nat.zero_le _,Nat.zero_le _,fun h=>absurd rfl h⟩
  · obtain⟨b,o,rfl,hlt,hc⟩:=hx h0
    obtain⟨l,hxl,hxs⟩:=vV (p:=fun i (z:Ty)=>TyIn w b (o + i * 2) z) (n:=len) (fun i hi'=>by
      obtain⟨cs,k,y,h1,h2,h3⟩:=hc i hi';obtain⟨v0,v1,n,y0,y1,rfl,g0,g1⟩:=Kq he h1 o0 o1 hcs hci h3;obtain⟨s,h4,_,_⟩:=DataW.trod_string hs g0;obtain⟨A',xs,c',rfl,_,hin⟩:=ints_open hti hi hc1 g1;rw [vZ h4] at h2
      exact⟨⟨s,xs⟩,A',c',h2,hin⟩)
    subst hxl;exact⟨_,l,c,rfl,hl,nLT hl hm,fun _=>⟨b,o,rfl,hlt,hxs⟩⟩
theorem FX {t e ts ti:TypeId} {f0 f1 f2:Field} {fuel:Nat} {v:Value} {x:DataW H×List MemPlace} (ht:P.underlying t=some (.slice e)) (he:P.underlying e=some (.struct #[f0,f1,f2])) (hsz:P.cellsOf e=3) (o0:f0.offset=0) (o1:f1.offset=1) (o2:f2.offset=2) (e0:f0.type=ts) (e1:f1.type=ti) (e2:f2.type=ti) (hs:P.underlying ts=some .string) (hcs:P.cellsOf ts=1)
    (hi:P.underlying ti=some (.int .i64)) (hc1:P.cellsOf ti=1) (h:DataW.trod enc P w base spare held fuel t [v]=some x):
    ∃ A l c,v= .slice A (List.length l) c∧l.length≤c∧FeatsIn w A l:=by
  subst e0;obtain⟨A,len,c,rfl,hl,hm,hx⟩:=J9 ht hsz dE h;by_cases h0:len=0
  · subst h0
    exact⟨A,[],c,rfl,Nat.zero_le _,Nat.zero_le _,fun h=>absurd rfl h⟩
  · obtain⟨b,o,rfl,hlt,hc⟩:=hx h0
    obtain⟨l,hxl,hxs⟩:=vV (p:=fun i (z:Ft)=>FtIn w b (o + i * 3) z) (n:=len) (fun i hi'=>by
      obtain⟨cs,k,y,h1,h2,h3⟩:=hc i hi';obtain⟨v0,v1,v2,n,y0,y1,y2,rfl,g0,g1,g2⟩:=B3 he h1 o0 o1 o2 hcs (by rw [e1];exact hc1) (by rw [e2];exact hc1) h3;rw [e1] at g1;rw [e2] at g2;obtain⟨s,h4,_,_⟩:=DataW.trod_string hs g0;obtain⟨z1,h5,_,_⟩:=DataW.trod_int hi g1;obtain⟨z2,h6,_,_⟩:=DataW.trod_int hi g2;rw [vZ h4,vZ h5,vZ h6] at h2
      exact⟨⟨s,z1,z2⟩,h2⟩)
    subst hxl;exact⟨_,l,c,rfl,hl,nLT hl hm,fun _=>⟨b,o,rfl,hlt,hxs⟩⟩
theorem post_bel {f:Func} {s:ChangeSpec} {apart fresh handsOn again:Bool} {W W':World} {args:Array Value} {v:Value} {ds gs:List (DataW H)} {before pa pv:List MemPlace} (hW:DataW.Whole enc P f.params.toList s.vars apart W args.toList ds gs before)
    (hres:∀ (b:Nat) (sp:Nat→Bool) (hd:Bool),DataW.TrodAll enc P W' b sp hd f.resultTypes.toList (v.resultList f.resultTypes.size) (s.fn H (ds ++ gs)).results [])
    (hargs:∀ sp:Nat→Bool,(∀ p ∈ before,sp p.block=true)→DataW.TrodAll enc P W' 0 sp true f.params.toList args.toList (s.fn H (ds ++ gs)).args pa)
    (hvars:∀ sp:Nat→Bool,(∀ p ∈ before,sp p.block=true)→DataW.TrodVars enc P W' sp s.vars (s.fn H (ds ++ gs)).vars pv)
    (hps:before=pa ++ pv) (hb:Bel W W')
    (hok:∀ (j:Nat) (t:TypeId) (r:Value),f.resultTypes[j]? =some t→(v.resultList f.resultTypes.size)[j]? =some r→Value.okWide P W' .any 0 t r):
    s.post enc P f apart fresh handsOn again W args v W':=by
  have hlt:=fun p hp=>hW.lt p hp
  have hold:∀ p ∈ before,(fun b=>decide (b < W.heap.size)) p.block=true:=fun p hp=>by simpa using hlt p hp
  refine⟨ds,gs,before,[],pa,pv,hW,hres _ _ _,hargs _ hold,hvars _ hold,World.keptBut_mono (fun p hp=>⟨hp,?_⟩) (hb.frame (· ∈ before)),fun _=>?_⟩
  · rw [hps,List.mem_append] at hp;exact .inr hp
  obtain⟨_,_,_,_,_,hz,hn⟩:=hW;refine⟨hok,_,_,([] ++ pa) ++ pv,⟨[] ++ pa,pv,trodAll_append (hargs _ (fun _ _=>rfl)) (hres _ _ _),hvars _ (fun _ _=>rfl),rfl,fun b off hp=>?_,fun ha=>?_⟩,fun p hp _=>?_⟩
  · have hin:MemPlace.cell b off ∈ before:=by rw [hps];simpa using hp
    rw [hb.frozen (hlt _ hin)];exact hz b off hin
  · have:=hn ha
    rw [hps] at this;simpa using this
  · rw [hps];simpa using hp
end
end Go.Proofs.YtdkfnakncaggoaaGreatDoor
namespace Go.Proofs.YtdkfnakncaggoaaGreatDoor
open Go.RowKit
class UndC (P:Program) (t:TypeId) (u:outParam TypeDesc):Prop where
  h:P.underlying t=some u
class SzC (P:Program) (t:TypeId) (n:outParam Nat):Prop where
  h:(P.info? t).map (·.size)=some n
abbrev y7 {P:Program} {t:TypeId} {u:TypeDesc} (_:P.underlying t=some u):TypeDesc:=u
instance:UndC Tryz.prog 3 (y7 U3):=⟨U3⟩
instance:UndC Tryz.prog 4 (y7 U4):=⟨U4⟩
instance:UndC Tryz.prog 5 (y7 U5):=⟨U5⟩
instance:UndC Tryz.prog 9 (y7 U9):=⟨U9⟩
instance:UndC Tryz.prog 21 (y7 Tryz.underlying21):=⟨Tryz.underlying21⟩
instance:UndC Tryz.prog 22 (y7 U22):=⟨U22⟩
instance:UndC Tryz.prog 23 (y7 U23):=⟨U23⟩
instance:UndC Tryz.prog 25 (y7 U25):=⟨U25⟩
instance:UndC Tryz.prog 26 (y7 U26):=⟨U26⟩
instance:UndC Tryz.prog 27 (y7 U27):=⟨U27⟩
instance:UndC Tryz.prog 28 (y7 U28):=⟨U28⟩
instance:UndC Tryz.prog 30 (y7 U30):=⟨U30⟩
instance:UndC Tryz.prog 32 (y7 U32):=⟨U32⟩
instance:UndC Tryz.prog 33 (y7 U33):=⟨U33⟩
instance:UndC Tryz.prog 35 (y7 U35):=⟨U35⟩
instance:UndC Tryz.prog 37 (y7 U37):=⟨U37⟩
instance:UndC Tryz.prog 50 (y7 U50):=⟨U50⟩
instance:UndC Tryz.prog 52 (y7 U52):=⟨U52⟩
instance:UndC Tryz.prog 53 (y7 U53):=⟨U53⟩
instance:UndC Tryz.prog 55 (y7 U55):=⟨U55⟩
instance:UndC Tryz.prog 57 (y7 U57):=⟨U57⟩
instance:UndC Tryz.prog 60 (y7 U60):=⟨U60⟩
instance:UndC Tryz.prog 68 (y7 Tryz.underlying68):=⟨Tryz.underlying68⟩
instance:UndC Tryz.prog 69 (y7 U69):=⟨U69⟩
instance:UndC Tryz.prog 71 (y7 U71):=⟨U71⟩
instance:UndC Tryz.prog 74 (y7 U74):=⟨U74⟩
instance:UndC Tryz.prog 92 (y7 U92):=⟨U92⟩
instance:UndC Tryz.prog 94 (y7 U94):=⟨U94⟩
instance:UndC Tryz.prog 98 (y7 U98):=⟨U98⟩
instance:UndC Tryz.prog 100 (y7 YK):=⟨YK⟩
instance:UndC Tryz.prog 103 (y7 X3):=⟨X3⟩
instance:UndC Tryz.prog 109 (y7 Tryz.underlying109):=⟨Tryz.underlying109⟩
instance:UndC Tryz.prog 113 (y7 C9):=⟨C9⟩
instance:UndC Tryz.prog 116 (y7 Tryz.underlying116):=⟨Tryz.underlying116⟩
instance:UndC Tryz.prog 118 (y7 Tj):=⟨Tj⟩
instance:UndC Tryz.prog 122 (y7 X2):=⟨X2⟩
instance:UndC Tryz.prog 126 (y7 Y5):=⟨Y5⟩
instance:UndC Tryz.prog 131 (y7 Tryz.underlying131):=⟨Tryz.underlying131⟩
instance:UndC Tryz.prog 132 (y7 Tryz.underlying132):=⟨Tryz.underlying132⟩
instance:UndC Tryz.prog 143 (y7 W2):=⟨W2⟩
instance:UndC Tryz.prog 144 (y7 W1):=⟨W1⟩
instance:UndC Tryz.prog 150 (y7 Tryz.underlying150):=⟨Tryz.underlying150⟩
instance:UndC Tryz.prog 165 (y7 C8):=⟨C8⟩
instance:UndC Tryz.prog 166 (y7 W0):=⟨W0⟩
instance:UndC Tryz.prog 167 (y7 U167):=⟨U167⟩
instance:UndC Tryz.prog 170 (y7 I1):=⟨I1⟩
instance:UndC Tryz.prog 173 (y7 Tryz.underlying173):=⟨Tryz.underlying173⟩
instance:UndC Tryz.prog 174 (y7 Tryz.underlying174):=⟨Tryz.underlying174⟩
instance:UndC Tryz.prog 175 (y7 Tryz.underlying175):=⟨Tryz.underlying175⟩
instance:UndC Tryz.prog 177 (y7 Tryz.underlying177):=⟨Tryz.underlying177⟩
instance:UndC Tryz.prog 179 (y7 Iw):=⟨Iw⟩
instance:UndC Tryz.prog 180 (y7 Tryz.underlying180):=⟨Tryz.underlying180⟩
instance:UndC Tryz.prog 189 (y7 U189):=⟨U189⟩
class FaC (P:Program) (t:TypeId) (i:Nat) (off:outParam Nat):Prop where
  h:∃ fs ft sz,P.underlying t=some (.struct fs)∧(P.info? ft).map (·.size)=some sz∧(sz == 0)=false∧(fs[i]?).map (fun x=>(x.type,x.offset))=some (ft,off)
theorem faM {P:Program} {t:TypeId} {i off ft sz:Nat} {fs:Array Field} (hu:P.underlying t=some (.struct fs)) (hs:(P.info? ft).map (·.size)=some sz) (h0:(sz == 0)=false) (hf:(fs[i]?).map (fun x=>(x.type,x.offset))=some (ft,off)):FaC P t i off:=⟨fs,ft,sz,hu,hs,h0,hf⟩
instance:SzC Tryz.prog 3 1:=⟨by kernel_rfl⟩
instance:SzC Tryz.prog 4 1:=⟨by kernel_rfl⟩
instance:SzC Tryz.prog 5 1:=⟨by kernel_rfl⟩
instance:SzC Tryz.prog 9 1:=⟨by kernel_rfl⟩
instance:SzC Tryz.prog 22 1:=⟨by kernel_rfl⟩
instance:SzC Tryz.prog 23 1:=⟨by kernel_rfl⟩
instance:SzC Tryz.prog 25 2:=⟨by kernel_rfl⟩
instance:SzC Tryz.prog 26 1:=⟨by kernel_rfl⟩
instance:SzC Tryz.prog 27 1:=⟨by kernel_rfl⟩
instance:SzC Tryz.prog 28 1:=⟨by kernel_rfl⟩
instance:SzC Tryz.prog 30 1:=⟨by kernel_rfl⟩
instance:SzC Tryz.prog 32 5:=⟨by kernel_rfl⟩
instance:SzC Tryz.prog 33 1:=⟨by kernel_rfl⟩
instance:SzC Tryz.prog 35 3:=⟨by kernel_rfl⟩
instance:SzC Tryz.prog 37 2:=⟨by kernel_rfl⟩
instance:SzC Tryz.prog 50 1:=⟨by kernel_rfl⟩
instance:SzC Tryz.prog 52 2:=⟨by kernel_rfl⟩
instance:SzC Tryz.prog 53 1:=⟨by kernel_rfl⟩
instance:SzC Tryz.prog 55 6:=⟨by kernel_rfl⟩
instance:SzC Tryz.prog 57 9:=⟨by kernel_rfl⟩
instance:SzC Tryz.prog 60 10:=⟨by kernel_rfl⟩
instance:SzC Tryz.prog 69 1:=⟨by kernel_rfl⟩
instance:SzC Tryz.prog 71 3:=⟨by kernel_rfl⟩
instance:SzC Tryz.prog 92 1:=⟨by kernel_rfl⟩
instance:SzC Tryz.prog 94 2:=⟨by kernel_rfl⟩
instance:SzC Tryz.prog 98 1:=⟨by kernel_rfl⟩
instance:SzC Tryz.prog 100 2:=⟨by kernel_rfl⟩
instance:SzC Tryz.prog 103 2:=⟨by kernel_rfl⟩
instance:SzC Tryz.prog 109 1:=⟨by kernel_rfl⟩
instance:SzC Tryz.prog 113 2:=⟨by kernel_rfl⟩
instance:SzC Tryz.prog 122 1:=⟨by kernel_rfl⟩
instance:SzC Tryz.prog 126 1:=⟨by kernel_rfl⟩
instance:SzC Tryz.prog 131 1:=⟨by kernel_rfl⟩
instance:SzC Tryz.prog 143 8:=⟨by kernel_rfl⟩
instance:SzC Tryz.prog 150 1:=⟨by kernel_rfl⟩
instance:SzC Tryz.prog 165 3:=⟨by kernel_rfl⟩
instance:SzC Tryz.prog 170 7:=⟨by kernel_rfl⟩
instance:SzC Tryz.prog 175 1:=⟨by kernel_rfl⟩
instance:SzC Tryz.prog 179 2:=⟨by kernel_rfl⟩
instance:SzC Tryz.prog 189 256:=⟨by kernel_rfl⟩
instance:FaC Tryz.prog 25 0 0:=faM U25 (SzC.h (t:=22)) rfl rfl
instance:FaC Tryz.prog 25 1 1:=faM U25 (SzC.h (t:=23)) rfl rfl
instance:FaC Tryz.prog 30 0 0:=faM U30 (SzC.h (t:=28)) rfl rfl
instance:FaC Tryz.prog 32 0 0:=faM U32 (SzC.h (t:=25)) rfl rfl
instance:FaC Tryz.prog 32 1 2:=faM U32 (SzC.h (t:=26)) rfl rfl
instance:FaC Tryz.prog 32 2 3:=faM U32 (SzC.h (t:=27)) rfl rfl
instance:FaC Tryz.prog 32 3 4:=faM U32 (SzC.h (t:=30)) rfl rfl
instance:FaC Tryz.prog 35 0 0:=faM U35 (SzC.h (t:=3)) rfl rfl
instance:FaC Tryz.prog 35 1 1:=faM U35 (SzC.h (t:=3)) rfl rfl
instance:FaC Tryz.prog 35 2 2:=faM U35 (SzC.h (t:=33)) rfl rfl
instance:FaC Tryz.prog 37 0 0:=faM U37 (SzC.h (t:=3)) rfl rfl
instance:FaC Tryz.prog 37 1 1:=faM U37 (SzC.h (t:=3)) rfl rfl
instance:FaC Tryz.prog 52 0 0:=faM U52 (SzC.h (t:=9)) rfl rfl
instance:FaC Tryz.prog 52 1 1:=faM U52 (SzC.h (t:=50)) rfl rfl
instance:FaC Tryz.prog 55 0 0:=faM U55 (SzC.h (t:=3)) rfl rfl
instance:FaC Tryz.prog 55 1 1:=faM U55 (SzC.h (t:=9)) rfl rfl
instance:FaC Tryz.prog 55 2 2:=faM U55 (SzC.h (t:=3)) rfl rfl
instance:FaC Tryz.prog 55 3 3:=faM U55 (SzC.h (t:=52)) rfl rfl
instance:FaC Tryz.prog 55 4 5:=faM U55 (SzC.h (t:=53)) rfl rfl
instance:FaC Tryz.prog 57 0 0:=faM U57 (SzC.h (t:=9)) rfl rfl
instance:FaC Tryz.prog 57 1 1:=faM U57 (SzC.h (t:=30)) rfl rfl
instance:FaC Tryz.prog 57 2 2:=faM U57 (SzC.h (t:=3)) rfl rfl
instance:FaC Tryz.prog 57 3 3:=faM U57 (SzC.h (t:=55)) rfl rfl
instance:FaC Tryz.prog 60 0 0:=faM U60 (SzC.h (t:=9)) rfl rfl
instance:FaC Tryz.prog 60 1 1:=faM U60 (SzC.h (t:=30)) rfl rfl
instance:FaC Tryz.prog 60 2 2:=faM U60 (SzC.h (t:=3)) rfl rfl
instance:FaC Tryz.prog 60 3 3:=faM U60 (SzC.h (t:=3)) rfl rfl
instance:FaC Tryz.prog 60 4 4:=faM U60 (SzC.h (t:=55)) rfl rfl
instance:FaC Tryz.prog 71 0 0:=faM U71 (SzC.h (t:=9)) rfl rfl
instance:FaC Tryz.prog 71 1 1:=faM U71 (SzC.h (t:=3)) rfl rfl
instance:FaC Tryz.prog 71 2 2:=faM U71 (SzC.h (t:=3)) rfl rfl
instance:FaC Tryz.prog 94 0 0:=faM U94 (SzC.h (t:=92)) rfl rfl
instance:FaC Tryz.prog 94 1 1:=faM U94 (SzC.h (t:=92)) rfl rfl
instance:FaC Tryz.prog 100 0 0:=faM YK (SzC.h (t:=3)) rfl rfl
instance:FaC Tryz.prog 100 1 1:=faM YK (SzC.h (t:=98)) rfl rfl
instance:FaC Tryz.prog 103 0 0:=faM X3 (SzC.h (t:=3)) rfl rfl
instance:FaC Tryz.prog 103 1 1:=faM X3 (SzC.h (t:=3)) rfl rfl
instance:FaC Tryz.prog 113 0 0:=faM C9 (SzC.h (t:=9)) rfl rfl
instance:FaC Tryz.prog 113 1 1:=faM C9 (SzC.h (t:=69)) rfl rfl
instance:FaC Tryz.prog 143 0 0:=faM W2 (SzC.h (t:=55)) rfl rfl
instance:FaC Tryz.prog 143 1 6:=faM W2 (SzC.h (t:=3)) rfl rfl
instance:FaC Tryz.prog 143 2 7:=faM W2 (SzC.h (t:=3)) rfl rfl
instance:FaC Tryz.prog 165 0 0:=faM C8 (SzC.h (t:=52)) rfl rfl
instance:FaC Tryz.prog 165 1 2:=faM C8 (SzC.h (t:=3)) rfl rfl
instance:FaC Tryz.prog 170 0 0:=faM I1 (SzC.h (t:=3)) rfl rfl
instance:FaC Tryz.prog 170 1 1:=faM I1 (SzC.h (t:=9)) rfl rfl
instance:FaC Tryz.prog 170 2 2:=faM I1 (SzC.h (t:=52)) rfl rfl
instance:FaC Tryz.prog 170 3 4:=faM I1 (SzC.h (t:=3)) rfl rfl
instance:FaC Tryz.prog 170 4 5:=faM I1 (SzC.h (t:=69)) rfl rfl
instance:FaC Tryz.prog 170 5 6:=faM I1 (SzC.h (t:=3)) rfl rfl
instance:FaC Tryz.prog 179 0 0:=faM Iw (SzC.h (t:=5)) rfl rfl
instance:FaC Tryz.prog 179 1 1:=faM Iw (SzC.h (t:=5)) rfl rfl
variable {P:Program} {Q:Exit→Act→World→Prop} {n:Nat} {f:Fr} {w:World} {ops:Array Oper} {rest:List Oper} {d:Nat} {dst:Option Tmp} {gd:Option (Nat×Bool)} {ty t:TypeId} {pos:String} {af:Array Edge} {x y z:Operand}
theorem r_mvI {a1:_} {b1:_} (h:ev n f x= .int a1 b1):RV P n f w ⟨dst,.move x,ty,pos,af,gd⟩ (.int a1 b1) w:=x9 h
theorem r_asI {a1:_} {b1:_} (h:ev n f x= .int a1 b1):RV P n f w ⟨dst,.assign x,ty,pos,af,gd⟩ (.int a1 b1) w:=u7 h
theorem r_ptI {a1:_} {b1:_} (hc:ev n f x= .bool true) (h:ev n f y= .int a1 b1):RV P n f w ⟨dst,.pick x y z,ty,pos,af,gd⟩ (.int a1 b1) w:=Q9 hc h
theorem r_pfI {a1:_} {b1:_} (hc:ev n f x= .bool false) (h:ev n f z= .int a1 b1):RV P n f w ⟨dst,.pick x y z,ty,pos,af,gd⟩ (.int a1 b1) w:=Qz hc h
theorem r_mvB {a1:_} (h:ev n f x= .bool a1):RV P n f w ⟨dst,.move x,ty,pos,af,gd⟩ (.bool a1) w:=x9 h
theorem r_asB {a1:_} (h:ev n f x= .bool a1):RV P n f w ⟨dst,.assign x,ty,pos,af,gd⟩ (.bool a1) w:=u7 h
theorem r_ptB {a1:_} (hc:ev n f x= .bool true) (h:ev n f y= .bool a1):RV P n f w ⟨dst,.pick x y z,ty,pos,af,gd⟩ (.bool a1) w:=Q9 hc h
theorem r_pfB {a1:_} (hc:ev n f x= .bool false) (h:ev n f z= .bool a1):RV P n f w ⟨dst,.pick x y z,ty,pos,af,gd⟩ (.bool a1) w:=Qz hc h
theorem r_mvS {a1:_} {b1:_} {c1:_} (h:ev n f x= .slice a1 b1 c1):RV P n f w ⟨dst,.move x,ty,pos,af,gd⟩ (.slice a1 b1 c1) w:=x9 h
theorem r_asS {a1:_} {b1:_} {c1:_} (h:ev n f x= .slice a1 b1 c1):RV P n f w ⟨dst,.assign x,ty,pos,af,gd⟩ (.slice a1 b1 c1) w:=u7 h
theorem r_ptS {a1:_} {b1:_} {c1:_} (hc:ev n f x= .bool true) (h:ev n f y= .slice a1 b1 c1):RV P n f w ⟨dst,.pick x y z,ty,pos,af,gd⟩ (.slice a1 b1 c1) w:=Q9 hc h
theorem r_pfS {a1:_} {b1:_} {c1:_} (hc:ev n f x= .bool false) (h:ev n f z= .slice a1 b1 c1):RV P n f w ⟨dst,.pick x y z,ty,pos,af,gd⟩ (.slice a1 b1 c1) w:=Qz hc h
theorem r_mvT {a1:_} (h:ev n f x= .string a1):RV P n f w ⟨dst,.move x,ty,pos,af,gd⟩ (.string a1) w:=x9 h
theorem r_asT {a1:_} (h:ev n f x= .string a1):RV P n f w ⟨dst,.assign x,ty,pos,af,gd⟩ (.string a1) w:=u7 h
theorem r_ptT {a1:_} (hc:ev n f x= .bool true) (h:ev n f y= .string a1):RV P n f w ⟨dst,.pick x y z,ty,pos,af,gd⟩ (.string a1) w:=Q9 hc h
theorem r_pfT {a1:_} (hc:ev n f x= .bool false) (h:ev n f z= .string a1):RV P n f w ⟨dst,.pick x y z,ty,pos,af,gd⟩ (.string a1) w:=Qz hc h
theorem r_mvF {a1:_} {b1:_} {c1:_} (h:ev n f x= .func a1 b1 c1):RV P n f w ⟨dst,.move x,ty,pos,af,gd⟩ (.func a1 b1 c1) w:=x9 h
theorem r_asF {a1:_} {b1:_} {c1:_} (h:ev n f x= .func a1 b1 c1):RV P n f w ⟨dst,.assign x,ty,pos,af,gd⟩ (.func a1 b1 c1) w:=u7 h
theorem r_ptF {a1:_} {b1:_} {c1:_} (hc:ev n f x= .bool true) (h:ev n f y= .func a1 b1 c1):RV P n f w ⟨dst,.pick x y z,ty,pos,af,gd⟩ (.func a1 b1 c1) w:=Q9 hc h
theorem r_pfF {a1:_} {b1:_} {c1:_} (hc:ev n f x= .bool false) (h:ev n f z= .func a1 b1 c1):RV P n f w ⟨dst,.pick x y z,ty,pos,af,gd⟩ (.func a1 b1 c1) w:=Qz hc h
theorem r_mvU {a1:_} (h:ev n f x= .tuple a1):RV P n f w ⟨dst,.move x,ty,pos,af,gd⟩ (.tuple a1) w:=x9 h
theorem r_asU {a1:_} (h:ev n f x= .tuple a1):RV P n f w ⟨dst,.assign x,ty,pos,af,gd⟩ (.tuple a1) w:=u7 h
theorem r_ptU {a1:_} (hc:ev n f x= .bool true) (h:ev n f y= .tuple a1):RV P n f w ⟨dst,.pick x y z,ty,pos,af,gd⟩ (.tuple a1) w:=Q9 hc h
theorem r_pfU {a1:_} (hc:ev n f x= .bool false) (h:ev n f z= .tuple a1):RV P n f w ⟨dst,.pick x y z,ty,pos,af,gd⟩ (.tuple a1) w:=Qz hc h
theorem r_mvG {a1:_} (h:ev n f x= .agg a1):RV P n f w ⟨dst,.move x,ty,pos,af,gd⟩ (.agg a1) w:=x9 h
theorem r_asG {a1:_} (h:ev n f x= .agg a1):RV P n f w ⟨dst,.assign x,ty,pos,af,gd⟩ (.agg a1) w:=u7 h
theorem r_ptG {a1:_} (hc:ev n f x= .bool true) (h:ev n f y= .agg a1):RV P n f w ⟨dst,.pick x y z,ty,pos,af,gd⟩ (.agg a1) w:=Q9 hc h
theorem r_pfG {a1:_} (hc:ev n f x= .bool false) (h:ev n f z= .agg a1):RV P n f w ⟨dst,.pick x y z,ty,pos,af,gd⟩ (.agg a1) w:=Qz hc h
theorem r_ldC {b o:Nat} {dd:TypeDesc} {tb:TypeId} {cs:Array Value} {v:Value} [hu:UndC P t dd] (hd:dd.isRow=false) (hx:ev n f x= .pointer (some ⟨b,o,none⟩)) (hb:Blk w b tb cs) (hc:cs[o]? =some v):RV P n f w ⟨dst,.load t x,ty,pos,af,gd⟩ v w:=qk hu.h hd hx (hb.cell hc)
theorem r_ldD {b o:Nat} {dd:TypeDesc} {cs:List Value} [hu:UndC P t dd] (hd:dd.isRow=true) (hx:ev n f x= .pointer (some ⟨b,o,none⟩)) (hc:w.rangeAt b o cs) (hi:(P.info? t).map (·.size)=some cs.length):RV P n f w ⟨dst,.load t x,ty,pos,af,gd⟩ (.agg cs.toArray) w:=zW hu.h hd hx hc hi
theorem r_faC {b o o' i off:Nat} [hu:FaC P t i off] (hx:ev n f x= .pointer (some ⟨b,o,none⟩)) (ho:o + off=o'):RV P n f w ⟨dst,.fieldAddr t x i,ty,pos,af,gd⟩ (.pointer (some ⟨b,o',none⟩)) w:=by
  obtain⟨fs,ft,sz,h1,h2,h3,h4⟩:=hu.h;exact vX h1 h2 (by simpa using h3) h4 hx ho
theorem r_lnC {A:Option Addr} {m c:Nat} {e:TypeId} [hu:UndC P t (.slice e)] (hx:ev n f x= .slice A m c):RV P n f w ⟨dst,.call { callee:= .builtin .len,args:=#[x],argTypes:=#[t] },ty,pos,af,gd⟩ (.int .i64 (m:Int)) w:=I6 hu.h hx
theorem r_lsC {p:ByteArray} [hu:UndC P t .string] (hx:ev n f x= .string p):RV P n f w ⟨dst,.call { callee:= .builtin .len,args:=#[x],argTypes:=#[t] },ty,pos,af,gd⟩ (.int .i64 (p.size:Int)) w:=MX hu.h hx
theorem r_iaC {b o o' m c i sz:Nat} {e:TypeId} [hu:UndC P t (.slice e)] [hs:SzC P e sz] (hx:ev n f x= .slice (some ⟨b,o,none⟩) m c) (hy:ev n f y= .int .i64 (i:Int)) (ho:o + i * sz=o') (hi:i < m):RV P n f w ⟨dst,.indexAddr t x y,ty,pos,af,gd⟩ (.pointer (some ⟨b,o',none⟩)) w:=yQ hu.h hs.h hx hy hi ho
theorem rvA {o:Oper} {v:Value} {w2:World} (h:RV P n f w o v w2:=by first | (apply r_mvI;exact rfl) | (apply r_mvB;exact rfl) | (apply r_asI;exact rfl) | (apply r_asB;exact rfl) | (apply r_ldC;exact rfl;exact rfl;assumption;exact rfl) | (apply r_faC;exact rfl;exact rfl) | (apply r_mvS;exact rfl) | (apply r_mvT;exact rfl) | (apply r_ptB;exact rfl;exact rfl) | (apply r_pfB;exact rfl;exact rfl) | (apply ZJ;exact rfl;exact rfl) | (apply r_eql;exact rfl;exact rfl) | (apply r_lnC;exact rfl) | (apply r_ldD;exact rfl;exact rfl;(first | (apply Blk.range0;assumption) | (apply Bel.range <;> assumption));exact SzC.h.trans rfl) | (apply kK;exact rfl;exact rfl;exact rfl;omega) | (apply r_iaC;exact rfl;exact rfl;exact rfl;omega) | (apply H4;exact rfl;exact rfl) | (apply S4;exact rfl;exact rfl) | (apply r_geq;exact rfl;exact rfl) | (apply r_leq;exact rfl;exact rfl) | (apply r_lsC;exact rfl) | (apply r_notd;exact rfl) | (apply gJ;exact rfl) | (apply r_eqlS;exact rfl;exact rfl) | (apply RW;exact rfl;exact rfl) | (apply r_asS;exact rfl) | (apply r_asT;exact rfl) | (apply r_asF;exact rfl) | (apply r_asU;exact rfl) | (apply r_asG;exact rfl) | (apply r_mvF;exact rfl) | (apply r_mvU;exact rfl) | (apply r_mvG;exact rfl) | (apply r_ptI;exact rfl;exact rfl) | (apply r_ptS;exact rfl;exact rfl) | (apply r_ptT;exact rfl;exact rfl) | (apply r_ptF;exact rfl;exact rfl) | (apply r_ptU;exact rfl;exact rfl) | (apply r_ptG;exact rfl;exact rfl) | (apply r_pfI;exact rfl;exact rfl) | (apply r_pfS;exact rfl;exact rfl) | (apply r_pfT;exact rfl;exact rfl) | (apply r_pfF;exact rfl;exact rfl) | (apply r_pfU;exact rfl;exact rfl) | (apply r_pfG;exact rfl;exact rfl)):RV P n f w o v w2:=h
theorem zc {A B C:Prop} (h:B→C:=by intro k;first | exact e_S k | exact xX k | exact zZ k | exact Y1 k | (apply wl;(case K=>exact k);exact rvA) | (apply wlgn;(case K=>exact k);exact rfl;exact rfl;exact rfl) | (apply wlgu;(case K=>exact k);exact rfl;exact rfl) | (apply wl_gd;(case K=>exact k);exact rfl;exact rfl) | (apply x5;(case hR=>exact k);exact .inl rfl;exact rfl;exact rfl) | exact uY k | exact e_Sr k | exact c_ret k | exact e_B k | exact c_block k | exact e_Br k | exact c_exit k | exact e_LSr k | exact e_LSx k | exact e_Sx k | exact e_Bx k | exact c_yes rfl k | exact c_no rfl k | (apply ws;(case hk=>exact k);exact rvA) | (apply wsgn;(case hk=>exact k);exact rfl;exact rfl;exact rfl)) (g:A→B):A→C:=fun a=>h (g a)
theorem zn1 {A B:Prop} (k:A) (h:A→B:=by exact zc (g:=fun k=>k)):B:=h k
theorem zn2 {A B:Prop} (k:A) (h:A→B:=by exact zc (g:=zc (g:=fun k=>k))):B:=h k
theorem zn3 {A B:Prop} (k:A) (h:A→B:=by exact zc (g:=zc (g:=zc (g:=fun k=>k)))):B:=h k
theorem zn4 {A B:Prop} (k:A) (h:A→B:=by exact zc (g:=zc (g:=zc (g:=zc (g:=fun k=>k))))):B:=h k
theorem zn5 {A B:Prop} (k:A) (h:A→B:=by exact zc (g:=zc (g:=zc (g:=zc (g:=zc (g:=fun k=>k)))))):B:=h k
theorem zn6 {A B:Prop} (k:A) (h:A→B:=by exact zc (g:=zc (g:=zc (g:=zc (g:=zc (g:=zc (g:=fun k=>k))))))):B:=h k
theorem zn7 {A B:Prop} (k:A) (h:A→B:=by exact zc (g:=zc (g:=zc (g:=zc (g:=zc (g:=zc (g:=zc (g:=fun k=>k)))))))):B:=h k
theorem zn8 {A B:Prop} (k:A) (h:A→B:=by exact zc (g:=zc (g:=zc (g:=zc (g:=zc (g:=zc (g:=zc (g:=zc (g:=fun k=>k))))))))):B:=h k
theorem zn9 {A B:Prop} (k:A) (h:A→B:=by exact zc (g:=zc (g:=zc (g:=zc (g:=zc (g:=zc (g:=zc (g:=zc (g:=zc (g:=fun k=>k)))))))))):B:=h k
theorem yq {A B:Prop} (k:A) (h:A→B:=by exact zc (g:=zc (g:=zc (g:=zc (g:=zc (g:=zc (g:=zc (g:=zc (g:=zc (g:=zc (g:=fun k=>k))))))))))):B:=h k
theorem vx {A B:Prop} (k:A) (h:A→B:=by exact zc (g:=zc (g:=zc (g:=zc (g:=zc (g:=zc (g:=zc (g:=zc (g:=zc (g:=zc (g:=zc (g:=fun k=>k)))))))))))):B:=h k
theorem yj {A B:Prop} (k:A) (h:A→B:=by exact zc (g:=zc (g:=zc (g:=zc (g:=zc (g:=zc (g:=zc (g:=zc (g:=zc (g:=zc (g:=zc (g:=zc (g:=fun k=>k))))))))))))):B:=h k
theorem jq {A B:Prop} (k:A) (h:A→B:=by exact zc (g:=zc (g:=zc (g:=zc (g:=zc (g:=zc (g:=zc (g:=zc (g:=zc (g:=zc (g:=zc (g:=zc (g:=zc (g:=fun k=>k)))))))))))))):B:=h k
theorem oY {A B:Prop} (k:A) (h:A→B:=by exact zc (g:=zc (g:=zc (g:=zc (g:=zc (g:=zc (g:=zc (g:=zc (g:=zc (g:=zc (g:=zc (g:=zc (g:=zc (g:=zc (g:=fun k=>k))))))))))))))):B:=h k
theorem Zk {A B:Prop} (k:A) (h:A→B:=by exact zc (g:=zc (g:=zc (g:=zc (g:=zc (g:=zc (g:=zc (g:=zc (g:=zc (g:=zc (g:=zc (g:=zc (g:=zc (g:=zc (g:=zc (g:=fun k=>k)))))))))))))))):B:=h k
theorem M1 {A B:Prop} (k:A) (h:A→B:=by exact zc (g:=zc (g:=zc (g:=zc (g:=zc (g:=zc (g:=zc (g:=zc (g:=zc (g:=zc (g:=zc (g:=zc (g:=zc (g:=zc (g:=zc (g:=zc (g:=fun k=>k))))))))))))))))):B:=h k
theorem M0 {A B:Prop} (k:A) (h:A→B:=by exact zc (g:=zc (g:=zc (g:=zc (g:=zc (g:=zc (g:=zc (g:=zc (g:=zc (g:=zc (g:=zc (g:=zc (g:=zc (g:=zc (g:=zc (g:=zc (g:=zc (g:=fun k=>k)))))))))))))))))):B:=h k
theorem zn18 {A B:Prop} (k:A) (h:A→B:=by exact zc (g:=zc (g:=zc (g:=zc (g:=zc (g:=zc (g:=zc (g:=zc (g:=zc (g:=zc (g:=zc (g:=zc (g:=zc (g:=zc (g:=zc (g:=zc (g:=zc (g:=zc (g:=fun k=>k))))))))))))))))))):B:=h k
theorem zn19 {A B:Prop} (k:A) (h:A→B:=by exact zc (g:=zc (g:=zc (g:=zc (g:=zc (g:=zc (g:=zc (g:=zc (g:=zc (g:=zc (g:=zc (g:=zc (g:=zc (g:=zc (g:=zc (g:=zc (g:=zc (g:=zc (g:=zc (g:=fun k=>k)))))))))))))))))))):B:=h k
theorem zn20 {A B:Prop} (k:A) (h:A→B:=by exact zc (g:=zc (g:=zc (g:=zc (g:=zc (g:=zc (g:=zc (g:=zc (g:=zc (g:=zc (g:=zc (g:=zc (g:=zc (g:=zc (g:=zc (g:=zc (g:=zc (g:=zc (g:=zc (g:=zc (g:=fun k=>k))))))))))))))))))))):B:=h k
theorem zn21 {A B:Prop} (k:A) (h:A→B:=by exact zc (g:=zc (g:=zc (g:=zc (g:=zc (g:=zc (g:=zc (g:=zc (g:=zc (g:=zc (g:=zc (g:=zc (g:=zc (g:=zc (g:=zc (g:=zc (g:=zc (g:=zc (g:=zc (g:=zc (g:=zc (g:=fun k=>k)))))))))))))))))))))):B:=h k
theorem zn22 {A B:Prop} (k:A) (h:A→B:=by exact zc (g:=zc (g:=zc (g:=zc (g:=zc (g:=zc (g:=zc (g:=zc (g:=zc (g:=zc (g:=zc (g:=zc (g:=zc (g:=zc (g:=zc (g:=zc (g:=zc (g:=zc (g:=zc (g:=zc (g:=zc (g:=zc (g:=fun k=>k))))))))))))))))))))))):B:=h k
theorem zn23 {A B:Prop} (k:A) (h:A→B:=by exact zc (g:=zc (g:=zc (g:=zc (g:=zc (g:=zc (g:=zc (g:=zc (g:=zc (g:=zc (g:=zc (g:=zc (g:=zc (g:=zc (g:=zc (g:=zc (g:=zc (g:=zc (g:=zc (g:=zc (g:=zc (g:=zc (g:=zc (g:=fun k=>k)))))))))))))))))))))))):B:=h k
theorem zn25 {A B:Prop} (k:A) (h:A→B:=by exact zc (g:=zc (g:=zc (g:=zc (g:=zc (g:=zc (g:=zc (g:=zc (g:=zc (g:=zc (g:=zc (g:=zc (g:=zc (g:=zc (g:=zc (g:=zc (g:=zc (g:=zc (g:=zc (g:=zc (g:=zc (g:=zc (g:=zc (g:=zc (g:=zc (g:=fun k=>k)))))))))))))))))))))))))):B:=h k
theorem zn26 {A B:Prop} (k:A) (h:A→B:=by exact zc (g:=zc (g:=zc (g:=zc (g:=zc (g:=zc (g:=zc (g:=zc (g:=zc (g:=zc (g:=zc (g:=zc (g:=zc (g:=zc (g:=zc (g:=zc (g:=zc (g:=zc (g:=zc (g:=zc (g:=zc (g:=zc (g:=zc (g:=zc (g:=zc (g:=zc (g:=fun k=>k))))))))))))))))))))))))))):B:=h k
theorem zn27 {A B:Prop} (k:A) (h:A→B:=by exact zc (g:=zc (g:=zc (g:=zc (g:=zc (g:=zc (g:=zc (g:=zc (g:=zc (g:=zc (g:=zc (g:=zc (g:=zc (g:=zc (g:=zc (g:=zc (g:=zc (g:=zc (g:=zc (g:=zc (g:=zc (g:=zc (g:=zc (g:=zc (g:=zc (g:=zc (g:=zc (g:=fun k=>k)))))))))))))))))))))))))))):B:=h k
theorem zn30 {A B:Prop} (k:A) (h:A→B:=by exact zc (g:=zc (g:=zc (g:=zc (g:=zc (g:=zc (g:=zc (g:=zc (g:=zc (g:=zc (g:=zc (g:=zc (g:=zc (g:=zc (g:=zc (g:=zc (g:=zc (g:=zc (g:=zc (g:=zc (g:=zc (g:=zc (g:=zc (g:=zc (g:=zc (g:=zc (g:=zc (g:=zc (g:=zc (g:=zc (g:=fun k=>k))))))))))))))))))))))))))))))):B:=h k
end Go.Proofs.YtdkfnakncaggoaaGreatDoor
namespace Go.Proofs.YtdkfnakncaggoaaGreatDoor
open Go.RowKit
inductive Sm where
  | mk (base:ByteArray) (args:List Sm)
def Sm.base:Sm→ByteArray | .mk b _=>b
def Sm.args:Sm→List Sm | .mk _ a=>a
theorem Sm.eta (s:Sm):s= .mk s.base s.args:=by cases s;rfl
mutual
inductive SimAt (w:World):Nat→Nat→Sm→Prop
  | mk {b o:Nat} {base:ByteArray} {args:List Sm} {A:Option Addr} {c:Nat} (hb:b < w.heap.size) (h:w.rangeAt b o [.string base,.slice A (List.length args) c]) (hs:SimsIn w A args):SimAt w b o (.mk base args)
inductive SimsIn (w:World):Option Addr→List Sm→Prop
  | nil {A:Option Addr}:SimsIn w A []
  | more {b o:Nat} {args:List Sm} (hl:args.length≤yJ) (hb:b < w.heap.size) (h:∀ k (hk:k < args.length),SimAt w b (o + k * 2) args[k]):SimsIn w (some ⟨b,o,none⟩) args
end
theorem SimAt.both {w w':World} (hw:Bel w w'):(∀ {b o:Nat} {s:Sm},SimAt w b o s→SimAt w' b o s)∧∀ {A:Option Addr} {l:List Sm},SimsIn w A l→SimsIn w' A l:=by
  have h1:∀ {b o:Nat} {s:Sm} (h:SimAt w b o s),SimAt w' b o s:=fun h=>
    SimAt.rec (motive_1:=fun b o s _=>SimAt w' b o s) (motive_2:=fun A l _=>SimsIn w' A l)
      (fun hb h _ ih=> .mk (nLL hb hw.size) (hw.range hb h) ih) .nil (fun hl hb _ ih=> .more hl (nLL hb hw.size) ih) h
  have h2:∀ {A:Option Addr} {l:List Sm} (h:SimsIn w A l),SimsIn w' A l:=fun h=>
    SimsIn.rec (motive_1:=fun b o s _=>SimAt w' b o s) (motive_2:=fun A l _=>SimsIn w' A l)
      (fun hb h _ ih=> .mk (nLL hb hw.size) (hw.range hb h) ih) .nil (fun hl hb _ ih=> .more hl (nLL hb hw.size) ih) h
  exact⟨h1,h2⟩
theorem SimAt.mono {w w':World} {b o:Nat} {s:Sm} (h:SimAt w b o s) (hw:Bel w w'):SimAt w' b o s:=(SimAt.both hw).1 h
theorem SimsIn.mono {w w':World} {A:Option Addr} {l:List Sm} (h:SimsIn w A l) (hw:Bel w w'):SimsIn w' A l:=(SimAt.both hw).2 h
theorem SimsIn.le {w:World} {A:Option Addr} {l:List Sm} (h:SimsIn w A l):l.length≤yJ:=by
  cases h with
  | nil=>exact Nat.zero_le _
  | more hl=>exact hl
theorem SimsIn.at_ {w:World} {A:Option Addr} {l:List Sm} (h:SimsIn w A l) {k:Nat} (hk:k < l.length):∃ b o A' c,A=some ⟨b,o,none⟩∧b < w.heap.size∧w.rangeAt b (o + k * 2) [Value.string (l[k]).base,.slice A' (l[k]).args.length c]∧SimsIn w A' (l[k]).args:=by
  cases h with
  | nil=>simp at hk
  | @more b o _ _ hb h=>
    have hx:=h k hk
    generalize l[k]=s at hx
    cases hx with
    | mk _ hr hs=>exact⟨b,o,_,_,rfl,hb,hr,hs⟩
def smE:ByteArray:=⟨#[101]⟩
def smT:ByteArray:=⟨#[116]⟩
def Zy (s:Sm):Prop:=((s.base=smE∨s.base=smT)∧s.args.length=0)∨(s.base=⟨#[]⟩∧s.args.length=2)
instance (s:Sm):Decidable (Zy s):=by unfold Zy;infer_instance
mutual
def swk:Sm→Nat→Nat→Nat×Int
  | .mk b l,d,n=>if 200 < n + 1∨40 < d then (n + 1,1) else if Zy (.mk b l) then V6 l (d + 1) (n + 1) else (n + 1,5)
def V6:List Sm→Nat→Nat→Nat×Int
  | [],_,n=>(n,0)
  | x :: r,d,n=>if (swk x d n).2=0 then V6 r d (swk x d n).1 else swk x d n
end
theorem Kk (s:Sm) (d n:Nat):swk s d n=if 200 < n + 1∨40 < d then (n + 1,1) else if Zy s then V6 s.args (d + 1) (n + 1) else (n + 1,5):=by
  cases s;rw [swk];rfl
def sst:List (Sm×Nat)→Nat→Nat×Int
  | [],n=>(n,0)
  | x :: r,n=>if (swk x.1 x.2 n).2=0 then sst r (swk x.1 x.2 n).1 else swk x.1 x.2 n
theorem WK (d:Nat):∀ (l:List Sm) (n:Nat),V6 l d n=sst (l.map (fun y=>(y,d))) n
  | [],_=>by rw [V6];rfl
  | x :: r,n=>by
    rw [V6,WK d r];rfl
theorem H0:∀ (l r:List (Sm×Nat)) (n:Nat),sst (l ++ r) n=if (sst l n).2=0 then sst r (sst l n).1 else sst l n
  | [],_,_=>rfl
  | x :: l,r,n=>by
    show (if (swk x.1 x.2 n).2=0 then sst (l ++ r) (swk x.1 x.2 n).1 else swk x.1 x.2 n)=_
    rw [H0 l r]
    show _=if (if (swk x.1 x.2 n).2=0 then sst l (swk x.1 x.2 n).1 else swk x.1 x.2 n).2=0 then sst r (if (swk x.1 x.2 n).2=0 then sst l (swk x.1 x.2 n).1 else swk x.1 x.2 n).1 else (if (swk x.1 x.2 n).2=0 then sst l (swk x.1 x.2 n).1 else swk x.1 x.2 n)
    by_cases h:(swk x.1 x.2 n).2=0
    · simp only [if_pos h]
    · simp only [if_neg h]
theorem sst_out {n d:Nat} {s:Sm} {r:List (Sm×Nat)} (h:200 < n + 1∨40 < d):sst ((s,d) :: r) n=(n + 1,1):=by
  have e:swk s d n=(n + 1,1):=by rw [Kk,if_pos h]
  show (if (swk s d n).2=0 then _ else swk s d n)=_;rw [e];rfl
theorem WY {n d:Nat} {s:Sm} {r:List (Sm×Nat)} (h:¬(200 < n + 1∨40 < d)) (ho:¬Zy s):sst ((s,d) :: r) n=(n + 1,5):=by
  have e:swk s d n=(n + 1,5):=by rw [Kk,if_neg h,if_neg ho]
  show (if (swk s d n).2=0 then _ else swk s d n)=_;rw [e];rfl
theorem sst_go {n d:Nat} {s:Sm} {r:List (Sm×Nat)} (h:¬(200 < n + 1∨40 < d)) (ho:Zy s):sst ((s,d) :: r) n=sst (s.args.map (fun y=>(y,d + 1)) ++ r) (n + 1):=by
  have e:swk s d n=sst (s.args.map (fun y=>(y,d + 1))) (n + 1):=by rw [Kk,if_neg h,if_pos ho,WK]
  rw [H0,← e];rfl
theorem sst_one (s:Sm) (d n:Nat):sst [(s,d)] n=swk s d n:=by
  show (if (swk s d n).2=0 then ((swk s d n).1,0) else swk s d n)=_;by_cases h:(swk s d n).2=0
  · rw [if_pos h,← h]
  · rw [if_neg h]
def smF (s:Sm):Int:=(swk s 1 0).2
inductive Ts where
  | b (t:Bool)
  | f (x y:Ts)
def Ts.sm:Ts→Sm
  | .b t=> .mk (if t then smT else smE) []
  | .f x y=> .mk ⟨#[]⟩ [x.sm,y.sm]
def Ts.size:Ts→Nat
  | .b _=>1
  | .f x y=>x.size + y.size + 1
def Ts.eqb:Ts→Ts→Bool
  | .b s,.b t=>s == t
  | .f x y,.f p q=>x.eqb p && y.eqb q
  | _,_=>false
theorem Ts.eqb_iff:∀ {a b:Ts},a.eqb b=true ↔ a=b
  | .b s,.b t=>by simp [Ts.eqb]
  | .f x y,.f p q=>by simp [Ts.eqb,Ts.eqb_iff (a:=x),Ts.eqb_iff (a:=y)]
  | .b s,.f p q=>by simp [Ts.eqb]
  | .f x y,.b t=>by simp [Ts.eqb]
theorem GQ {s:Sm} (h:Zy s) (hl:s.args.length=0):∃ t,s=(Ts.b t).sm:=by
  rcases h with ⟨hb,_⟩ | ⟨_,h2⟩
  · have ha:s.args= []:=List.length_eq_zero_iff.1 hl
    rcases hb with hb | hb
    · exact⟨false,by rw [Sm.eta s,hb,ha];rfl⟩
    · exact⟨true,by rw [Sm.eta s,hb,ha];rfl⟩
  · omega
mutual
theorem Rq:∀ (s:Sm) (d n:Nat),(swk s d n).2=0→∃ τ:Ts,s=τ.sm∧(swk s d n).1=n + τ.size∧n + τ.size≤200
  | .mk b l,d,n,h=>by
    rw [swk] at h ⊢
    by_cases h1:200 < n + 1∨40 < d
    · rw [if_pos h1] at h;cases h
    · rw [if_neg h1] at h ⊢
      by_cases h2:Zy (.mk b l)
      · rw [if_pos h2] at h ⊢
        obtain⟨ts,e1,e2,e3⟩:=WJ l (d + 1) (n + 1) h om
        match l,ts,e1,h2 with
        | [],ts,e1,h2=>
          obtain⟨t,ht⟩:=GQ h2 rfl
          cases ts with
          | nil=>exact⟨.b t,ht,e2,by simp [Ts.size] at e3 ⊢;omega⟩
          | cons a r=>cases e1
        | [x,y],[p,q],e1,h2=>
          simp only [List.map_cons,List.map_nil,List.cons.injEq,and_true] at e1
          rcases h2 with ⟨_,h2⟩ | ⟨h2,_⟩
          · cases h2
          · have h2:b=⟨#[]⟩:=h2
            simp only [List.map_cons,List.map_nil,List.sum_cons,List.sum_nil] at e2 e3
            refine⟨.f p q,?_,?_,?_⟩
            · rw [h2,e1.1,e1.2];rfl
            · rw [e2];show _=n + (p.size + q.size + 1);omega
            · show n + (p.size + q.size + 1)≤200;omega
        | [x],ts,_,h2=>rcases h2 with ⟨_,h2⟩ | ⟨_,h2⟩ <;> cases h2
        | x :: y :: z :: r,ts,_,h2=>rcases h2 with ⟨_,h2⟩ | ⟨_,h2⟩ <;> cases h2
      · rw [if_neg h2] at h;cases h
theorem WJ:∀ (l:List Sm) (d n:Nat),(V6 l d n).2=0→n≤200→∃ ts:List Ts,l=ts.map Ts.sm∧(V6 l d n).1=n + (ts.map Ts.size).sum∧n + (ts.map Ts.size).sum≤200
  | [],d,n,_,hn=>⟨[],rfl,by rw [V6];rfl,hn⟩
  | x :: r,d,n,h,hn=>by
    rw [V6] at h ⊢
    by_cases h1:(swk x d n).2=0
    · rw [if_pos h1] at h ⊢
      obtain⟨τ,e1,e2,e3⟩:=Rq x d n h1
      rw [e2] at h ⊢
      obtain⟨ts,k1,k2,k3⟩:=WJ r d (n + τ.size) h e3
      exact⟨τ :: ts,by rw [e1,k1];rfl,by rw [k2];simp;omega,by simp;omega⟩
    · rw [if_neg h1] at h;exact absurd h h1
end
theorem smF_ts {s:Sm} (h:smF s=0):∃ τ:Ts,s=τ.sm∧τ.size≤200:=by
  obtain⟨τ,e,_,e2⟩:=Rq s 1 0 h;exact⟨τ,e,by omega⟩
theorem Ts.sm_inj:∀ {a b:Ts},a.sm=b.sm→a=b
  | .b s,.b t,h=>by
    cases s <;> cases t <;> first | rfl | (exfalso;revert h;simp [Ts.sm,smE,smT])
  | .b s,.f x y,h=>by exfalso;revert h;cases s <;> simp [Ts.sm]
  | .f x y,.b t,h=>by exfalso;revert h;cases t <;> simp [Ts.sm]
  | .f x y,.f p q,h=>by
    simp only [Ts.sm,Sm.mk.injEq,List.cons.injEq,and_true,true_and] at h
    rw [Ts.sm_inj h.1,Ts.sm_inj h.2]
def Ts.txt:Ts→List UInt8
  | .b t=>if t then [116] else [101]
  | .f x y=>40 :: (x.txt ++ 32 :: (y.txt ++ [41]))
theorem Ts.txt_le:∀ τ:Ts,τ.txt.length≤4 * τ.size
  | .b t=>by cases t <;> simp [Ts.txt,Ts.size]
  | .f x y=>by
    have h1:=Ts.txt_le x
    have h2:=Ts.txt_le y
    simp [Ts.txt,Ts.size];omega
theorem Ts.txt_pre:∀ {a b:Ts} {p q:List UInt8},a.txt ++ p=b.txt ++ q→a=b∧p=q
  | .b s,.b t,p,q,h=>by cases s <;> cases t <;> simp_all [Ts.txt]
  | .b s,.f x y,p,q,h=>by cases s <;> simp [Ts.txt] at h
  | .f x y,.b t,p,q,h=>by cases t <;> simp [Ts.txt] at h
  | .f x y,.f u v,p,q,h=>by
    simp only [Ts.txt,List.cons_append,List.append_assoc,List.cons.injEq,true_and,List.nil_append] at h
    obtain⟨rfl,h2⟩:=Ts.txt_pre h
    simp only [List.cons.injEq,true_and] at h2
    obtain⟨rfl,h3⟩:=Ts.txt_pre h2
    simp only [List.cons.injEq,true_and] at h3
    exact⟨rfl,h3⟩
theorem Ts.txt_inj {a b:Ts} (h:a.txt=b.txt):a=b:=(Ts.txt_pre (p:=[]) (q:=[]) (by rw [h])).1
end Go.Proofs.YtdkfnakncaggoaaGreatDoor
namespace Go.Proofs.YtdkfnakncaggoaaGreatDoor
open Go.RowKit
def uJ (c:UInt8):Bool:=decide (97≤c.toNat∧c.toNat≤122) || decide (48≤c.toNat∧c.toNat≤57) || decide (c.toNat=95) || decide (c.toNat=45)
theorem oq (c:UInt8):uJ c=true ↔ ((97≤c.toNat∧c.toNat≤122)∨(48≤c.toNat∧c.toNat≤57)∨c.toNat=95∨c.toNat=45):=by simp [uJ,or_assoc]
def F3:List UInt8→Bool
  | []=>false
  | c :: _=>decide (97≤c.toNat∧c.toNat≤122)
def y6 (s:ByteArray):Bool:=decide (s.size≤30) && F3 s.data.toList && s.data.toList.all uJ
theorem jK {a b:Bool} (h:a=b):Ending.returned (.bool b)= .returned (.bool a):=by rw [h]
theorem Fj (s:ByteArray):∃ c0:Nat,∀ h:0 < s.size,(s[0]'h).toNat=c0:=by
  by_cases h:0 < s.size
  · exact⟨(s[0]'h).toNat,fun _=>rfl⟩
  · exact⟨0,fun h'=>absurd h' h⟩
theorem KV (s:ByteArray) (c0:Nat) (e0:∀ h:0 < s.size,(s[0]'h).toNat=c0):
    y6 s=decide ((s.size≠0∧s.size≤30)∧(97≤c0∧c0≤122)∧(∀ k (hk:k < s.size),uJ (s[k]'hk)=true)):=by
  have ha:(s.data.toList.all uJ=true) ↔ (∀ k (hk:k < s.size),uJ (s[k]'hk)=true):=by
    rw [List.all_eq_true]
    constructor
    · intro h k hk
      exact h _ (List.getElem_mem (l:=s.data.toList) (n:=k) (by simpa using hk))
    · intro h x hx
      obtain⟨k,hk,rfl⟩:=List.mem_iff_getElem.1 hx;exact h k (by simpa using hk)
  have hh:∀ h:0 < s.size,F3 s.data.toList=decide (97≤c0∧c0≤122):=by
    intro h;rw [← e0 h];obtain⟨⟨l⟩⟩:=s;cases l with
    | nil=>exact absurd h dE
    | cons c l=>rfl
  by_cases h0:s.size=0
  · have:s.data.toList= []:=by
      apply List.eq_nil_of_length_eq_zero;simpa using h0
    simp [y6,this,F3,h0]
  · have h:=hh om
    rw [Bool.eq_iff_iff];simp only [y6,h,Bool.and_eq_true,decide_eq_true_eq,ha]
    constructor
    · rintro ⟨⟨a,b⟩,c⟩;exact⟨⟨h0,a⟩,b,c⟩
    · rintro ⟨⟨_,a⟩,b,c⟩;exact⟨⟨a,b⟩,c⟩
theorem uk:(Tryz.prog.info? 37).map (·.size)=some 2:=by kernel_rfl
theorem ze37:(Tryz.prog.info? 37).map (·.zero)=some (some (.agg #[.int .i64 0,.int .i64 0])):=by kernel_rfl
theorem JK (s:ByteArray) (w:World):Calls Tryz.prog 62 #[.string s] w fun e w'=>e= .returned (.bool (y6 s))∧w=w':=by
 obtain⟨c0,e0⟩:=Fj s;have hN:=Lib.hid (KV s c0 e0);refine enter Tryz.func62 Tryz.ntmps62 rfl (Nat.le_of_ble_eq_true rfl) (zn7 ?_);refine x7 [5,6,7,8,9,10,11,12,13,14,15,16,17,18,19,20,21,22] 22 (.bool (decide (s.size=0∨30 < s.size∨c0 < 97∨122 < c0))) nu ?_ (fun gq=>?_)
 ·refine zn5 ?_;refine zj 8 rfl (fun g8=>?_) (fun g8=>?_)
  ·refine oY ?_;refine zZ (e_R ⟨rfl,agA,?_⟩);show Value.bool _=Value.bool _
   try have e0':=e0 om
   first | exact congrArg Value.bool (decide_eq_true om).symm | exact congrArg Value.bool (decide_eq_false om).symm | exact congrArg Value.bool (decide_eq_decide.2 om) | exact congrArg Value.bool ((decide_not).symm.trans (decide_eq_decide.2 om))
  refine zn8 ?_;refine zj 13 rfl (fun g13=>?_) (fun g13=>?_)
  ·refine zn9 ?_;refine zZ (e_R ⟨rfl,agA,?_⟩);show Value.bool _=Value.bool _
   try have e0':=e0 om
   first | exact congrArg Value.bool (decide_eq_true om).symm | exact congrArg Value.bool (decide_eq_false om).symm | exact congrArg Value.bool (decide_eq_decide.2 om) | exact congrArg Value.bool ((decide_not).symm.trans (decide_eq_decide.2 om))
  refine zn3 ?_;refine wl (QX (i:=0) U9 rfl rfl om) (zn4 ?_);refine zj 18 rfl (fun g18=>?_) (fun g18=>?_)
  ·refine zn4 ?_;refine zZ (e_R ⟨rfl,agA,?_⟩);show Value.bool _=Value.bool _
   try have e0':=e0 om
   first | exact congrArg Value.bool (decide_eq_true om).symm | exact congrArg Value.bool (decide_eq_false om).symm | exact congrArg Value.bool (decide_eq_decide.2 om) | exact congrArg Value.bool ((decide_not).symm.trans (decide_eq_decide.2 om))
  refine zn3 ?_;refine wl (QX (i:=0) U9 rfl rfl om) (zn3 ?_);refine zZ (e_R ⟨rfl,agA,?_⟩);show Value.bool _=Value.bool _
  try have e0':=e0 om
  first | exact congrArg Value.bool (decide_eq_true om).symm | exact congrArg Value.bool (decide_eq_false om).symm | exact congrArg Value.bool (decide_eq_decide.2 om) | exact congrArg Value.bool ((decide_not).symm.trans (decide_eq_decide.2 om))
 refine e_S ?_;refine zw rfl (fun c22=>?_) (fun c22=>?_)
 ·refine zn8 ?_;exact⟨jK (by rw [hN.out];exact decide_eq_false (fun h=>by omega)),rfl⟩
 refine vx ?_;refine q8 [2,3,4,25,26,27,28,29,30,31,32,33,34,35,36,37,38,39,40,41,42,43,44,45,46,47,48,49,50,51,52,53,54] (fun m g w'=>∃ k:Nat,k≤s.size∧m=s.size - k∧g 25= .int .i64 k∧w=w'∧(∀ j (hj:j < s.size),j < k→uJ (s[j]'hj)=true)) (s.size) ?_ (fun m g4 w1 hI=>?_)
 ·exact⟨0,Nat.zero_le _,rfl,rfl,rfl,fun j hj h=>by omega⟩
 obtain⟨k,hk,hm,h25,rfl,hall⟩:=hI;refine zJ 25 (.int .i64 k) h25 nu (zn6 ?_);refine zw rfl (fun c26=>?_) (fun c26=>?_)
 ·refine oY ?_;refine wl (QX (i:=k) U9 rfl rfl om) (zn4 ?_);refine x7 [31,32,33,34,35,36,37,38,39,40,41,42,43,44,45,46,47,48,49,50,51,52,53] 53 (.bool (decide (¬((97≤(s[k]'om).toNat∧(s[k]'om).toNat≤122)∨(48≤(s[k]'om).toNat∧(s[k]'om).toNat≤57)∨(s[k]'om).toNat=95∨(s[k]'om).toNat=45)))) nu ?_ (fun gq=>?_)
  ·refine zn4 ?_;refine zj 33 rfl (fun g33=>?_) (fun g33=>?_)
   ·refine zn6 ?_;refine zj 37 rfl (fun g37=>?_) (fun g37=>?_)
    ·refine M1 ?_;refine zZ (e_R ⟨rfl,agA,?_⟩);exact clA
    refine zn6 ?_;refine zj 40 rfl (fun g40=>?_) (fun g40=>?_)
    ·refine zn8 ?_;refine zj 45 rfl (fun g45=>?_) (fun g45=>?_)
     ·refine zn8 ?_;refine zZ (e_R ⟨rfl,agA,?_⟩);exact clA
     refine zn6 ?_;refine zj 49 rfl (fun g49=>?_) (fun g49=>?_)
     ·refine zn4 ?_;refine zZ (e_R ⟨rfl,agA,?_⟩);exact clA
     refine zn6 ?_;refine zZ (e_R ⟨rfl,agA,?_⟩);exact clA
    refine yj ?_;refine zj 49 rfl (fun g49=>?_) (fun g49=>?_)
    ·refine zn4 ?_;refine zZ (e_R ⟨rfl,agA,?_⟩);exact clA
    refine zn6 ?_;refine zZ (e_R ⟨rfl,agA,?_⟩);exact clA
   refine yq ?_;refine zj 40 rfl (fun g40=>?_) (fun g40=>?_)
   ·refine zn8 ?_;refine zj 45 rfl (fun g45=>?_) (fun g45=>?_)
    ·refine zn8 ?_;refine zZ (e_R ⟨rfl,agA,?_⟩);exact clA
    refine zn6 ?_;refine zj 49 rfl (fun g49=>?_) (fun g49=>?_)
    ·refine zn4 ?_;refine zZ (e_R ⟨rfl,agA,?_⟩);exact clA
    refine zn6 ?_;refine zZ (e_R ⟨rfl,agA,?_⟩);exact clA
   refine yj ?_;refine zj 49 rfl (fun g49=>?_) (fun g49=>?_)
   ·refine zn4 ?_;refine zZ (e_R ⟨rfl,agA,?_⟩);exact clA
   refine zn6 ?_;refine zZ (e_R ⟨rfl,agA,?_⟩);exact clA
  refine e_S ?_;refine zw rfl (fun c53=>?_) (fun c53=>?_)
  ·refine yj ?_;exact⟨jK (by rw [hN.out];exact decide_eq_false (fun h=>c53 ((oq _).1 (h.2.2 k om)))),rfl⟩
  have hall':∀ j (hj:j < s.size),j < k + 1→uJ (s[j]'hj)=true:=fun j hj h=>by
    by_cases e:j=k
    · subst e;exact(oq _).2 om
    · exact hall j hj om
  refine zn7 ?_;refine xv (s.size - (k + 1)) om agA ?_;exact⟨k + 1,by omega,rfl,rfl,rfl,fun j hj h=>hall' j hj h⟩
 refine yj ?_;exact⟨jK (by rw [hN.out];exact decide_eq_true ⟨by omega,by omega,fun j hj=>hall j hj om⟩),rfl⟩
theorem jZ (a b:Int) (w:World):Calls Tryz.prog 78 #[.int .i64 a,.int .i64 b] w fun e w'=>e= .returned (flV (a,b))∧Bel w w':=by
 refine enter Tryz.func78 Tryz.ntmps78 rfl (Nat.le_of_ble_eq_true rfl) ?_;have hB:Bel w w:=Below.refl _ _;refine zn2 ?_;refine qZ (cs:=#[.int .i64 0,.int .i64 0]) ze37 rfl (fun b4 w1 hb4 hs hr=>?_);have lo4:=nLT (Bel.size hB) hr;replace hB:=hB.tr0 hs;refine zn6 ?_;refine wl (yz (v0:= .int _ _) (v1:= .int _ _) (fun v0 v1=>#[v0,v1]) rfl rfl kR) ?_;refine zk hb4 rfl rfl uk rfl zK (fun w2 hq hs=>?_);replace hB:=hB.tr1 hs lo4;replace hb4:=hq;refine zn3 ?_;refine x5 (.inl rfl) rfl (zy U37 rfl rfl hb4.range0 uk) ?_;exact⟨rfl,hB⟩
end Go.Proofs.YtdkfnakncaggoaaGreatDoor
