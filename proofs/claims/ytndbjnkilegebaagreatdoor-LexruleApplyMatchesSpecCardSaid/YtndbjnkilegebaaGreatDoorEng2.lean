/- The engine's second part: regions that draw their order and end in operations whose order is forced; append; values by their shape; closures. -/
import Derived.Test.YtndbjnkilegebaaGreatDoorEng
import Derived.Deep.AppendLies
import Derived.Laws.StructEq
namespace Go.Proofs.YtndbjnkilegebaaGreatDoor
open Go.RowKit
variable {A:Option Addr}{S:List Nat}{a d':Int}{a1 b base c cap g i id j k m sz:Nat}{cs:Array Value}{e t ti ty:TypeId}{f f':Fr}{l:List Oper}{listed:Array Bool}{o:Oper}{op:Op}{v zv:Value}{w w':World}{x y:Operand}{xs:List Value}
section mono
variable {P:Program} {Q:Exit->Act->World->Prop} {n:Nw} {f:Fr} {w:World}
def Vx(l:List Oper)(m i:Nat):Bool:=decide (i<m)||(match l[i]? with
 | some o=>(kw o).all (fun j=>decide (j<i))&&(List.range i).all (fun j=>(kw o).contains j||(List.range i).any (fun k=>decide (j<k)&&(match l[k]? with|some o'=>(kw o').contains j|none=>false)))
 | none=>false)
def Dn(l:List Oper)(listed:Array Bool):Prop:=∀ j o,l[j]? =some o->listed.getD j false=true->∀ k∈kw o,listed.getD k false=true
theorem Dn.set(h:Dn l listed)(hi:i<listed.size)(ho:l[i]? =some o)(hd:∀ j∈kw o,listed.getD j false=true):Dn l (listed.setIfInBounds i true):=by
 have up:∀ k,listed.getD k false=true->(listed.setIfInBounds i true).getD k false=true:=fun k hk=>by
  by_cases e:i=k
  ·subst e;simp[hi]
  ·simp only[Array.getD_eq_getD_getElem?,Array.getElem?_setIfInBounds_ne e]at hk ⊢;exact hk
 intro j o' a1 hj k hk;by_cases e:i=j
 ·subst e
  rw[ho]at a1;cases a1;exact up k (hd k hk)
 ·simp only[Array.getD_eq_getD_getElem?,Array.getElem?_setIfInBounds_ne e]at hj
  exact up k (h j o' a1 (by simpa only[Array.getD_eq_getD_getElem?]using hj) k hk)
theorem tail_dep(h:Vx l m i=true)(hm:¬i<m)(ho:l[i]? =some o):∀ j∈kw o,j<i:=by
 simp only[Vx,hm,decide_false,Bool.false_or,ho,Bool.and_eq_true,List.all_eq_true,decide_eq_true_eq]at h;exact h.1
theorem G3(h:Vx l m i=true)(hm:¬i<m)(ho:l[i]? =some o)(hD:Dn l listed)(hd:∀ j∈kw o,listed.getD j false=true):∀ j,j<i->listed.getD j false=true:=by
 simp only[Vx,hm,decide_false,Bool.false_or,ho,Bool.and_eq_true,List.all_eq_true,List.mem_range,Bool.or_eq_true,List.any_eq_true,decide_eq_true_eq]at h;have key:∀ t j,i<=j+t->j<i->listed.getD j false=true:=by
  intro t
  induction t with
  | zero=>intro j h1 h2;omega
  | succ t ih=>
   intro j h1 h2;rcases h.2 j h2 with h3|⟨k,hk,hjk,h3⟩
   ·exact hd j (by simpa using h3)
   ·cases hok:l[k]? with
    | none=>rw[hok]at h3;cases h3
    | some o'=>
     rw[hok]at h3;exact hD k o' hok (ih k oG hk) j (by simpa using h3)
 intro j hj;exact key i j oG hj
theorem Qy(listed:Array Bool)(i:Nat)(hi:i∈Region.ready .any l.toArray listed):∃ o,l[i]? =some o/\listed.getD i false=false/\∀ j∈kw o,listed.getD j false=true:=by
 simp only[Region.ready,List.mem_filter,List.mem_range,Bool.and_eq_true,Bool.not_eq_true']at hi;obtain⟨hi,hn,hd⟩:=hi;have hi':i<l.length:=by simpa using hi
 refine⟨l[i],aN hi',?_,?_⟩
 ·simp only[Array.getD_eq_getD_getElem?]at hn ⊢
  cases hq:listed[i]? with
  | none=>rfl
  | some b=>simpa[hq]using hn
 ·simp only[List.getElem?_toArray,List.getElem?_eq_getElem hi',Option.map_some,Option.getD_some]at hd
  exact deps_mem hd
theorem RK(listed:Array Bool)(i:Nat)(o:Oper)(hs:listed.size=l.length)(ho:l[i]? =some o)(hn:listed.getD i false=false)(hd:∀ j∈kw o,listed.getD j false=true):i∈Region.ready .any l.toArray listed:=by
 have hi:i<l.length:=(aC.1 ho).1;simp only[Region.ready,List.mem_filter,List.mem_range,Bool.and_eq_true,Bool.not_eq_true'];refine⟨by simpa using hi,?_,?_⟩
 ·simp only[Array.getD_eq_getD_getElem?]at hn ⊢
  have:i<listed.size:=by omega
  simp only[Array.getElem?_eq_getElem this,Option.getD_some]at hn ⊢;exact hn
 ·simp only[List.getElem?_toArray,ho,Option.map_some,Option.getD_some]
  exact all_of_deps hd
theorem any_tail(hl:∀ i,i<l.length->Vx l m i=true):∀(k a1 i:Nat) (listed:Array Bool) (a:Act) (w:World),i+k=l.length->k<=a1->m<=i->listed.size=l.length->Dn l listed->(∀ j,j<i->listed.getD j false=true)->(∀ t,i<=t->listed.getD t false=false)->wpList P l.toArray Q (l.drop i) a w->wpAny P .any l.toArray Q a1 listed a w:=by
 intro k
 induction k with
 | zero=>
  intro a1 i listed a w hik hkf hmi hs hD a2 a4 hW;rw[List.drop_eq_nil_of_le oG]at hW;have hr:Region.ready .any l.toArray listed= []:=by
   cases hr:Region.ready .any l.toArray listed with
   | nil=>rfl
   | cons x r=>
    obtain⟨o,ho,hn,_⟩:=Qy listed x (by rw[hr];simp);have:x<l.length:=(aC.1 ho).1;rw[a2 x oG]at hn;cases hn
  cases a1 with
  | zero=>exact⟨hr,hW⟩
  | succ a1=>exact⟨fun _=>hW,fun x hx=>by rw[hr]at hx;cases hx⟩
 | succ k ih=>
  intro a1 i listed a w hik hkf hmi hs hD a2 a4 hW;obtain⟨a1,rfl⟩:∃ fu,a1=fu+1:=⟨a1-1,by omega⟩
  have a5:i<l.length:=by omega
  have ho:l[i]? =some l[i]:=aN a5;have hd:∀ j∈kw l[i],listed.getD j false=true:=fun j hj=>a2 j (tail_dep (hl i a5) oG ho j hj)
  refine⟨fun hr=>?_,fun x hx=>?_⟩
  ·have:=RK listed i _ hs ho (a4 i (ai _)) hd
   rw[hr]at this;cases this
  ·obtain⟨o,a3,hn,hxd⟩:=Qy listed x hx
   have hxl:x<l.length:=(aC.1 a3).1;have hxi:x=i:=by
    rcases Nat.lt_or_ge x i with h|h
    ·rw[a2 x h]at hn;cases hn
    ·rcases Nat.lt_or_ge i x with h2|h2
     ·have:=G3 (hl x hxl) oG a3 hD hxd i h2
      rw[a4 i (Nat.le_refl _)]at this;cases this
     ·omega
   subst hxi;rw[ho]at a3;cases a3;rw[List.drop_eq_getElem_cons a5]at hW;unfold wpOp;simp only[List.getElem?_toArray,ho];have next:∀ a' w',wpList P l.toArray Q (l.drop (x+1)) a' w'->wpAny P .any l.toArray Q a1 (listed.setIfInBounds x true) a' w':=fun a' w' h=>by
    refine ih a1 (x+1) _ a' w' oG oG oG (by simpa using hs) (hD.set oG ho hd) (fun j hj=>?_) (fun t ht=>?_) h
    ·by_cases e:x=j
     ·subst e;have:x<listed.size:=by omega
      simp[this]
     ·simp only[Array.getD_eq_getD_getElem?,Array.getElem?_setIfInBounds_ne e]
      simpa only[Array.getD_eq_getD_getElem?]using a2 j oG
    ·have e:x≠t:=by omega
     simp only[Array.getD_eq_getD_getElem?,Array.getElem?_setIfInBounds_ne e]
     simpa only[Array.getD_eq_getD_getElem?]using a4 t oG
   unfold wpList at hW;by_cases hwt:Region.wanted l[x] (yielded l.toArray a.tmps)=true
   ·rw[if_pos hwt]at hW ⊢
    exact hW.imp (Oper.wp_mono (fun a w h=>next a w h)) (fun h=>h)
   ·rw[if_neg hwt]at hW ⊢
    exact next _ _ hW
theorem gse(h:i≠j):(listed.setIfInBounds i true).getD j false=listed.getD j false:=by
 simp only[Array.getD_eq_getD_getElem?,Array.getElem?_setIfInBounds_ne h]
theorem gss(h:i<listed.size):(listed.setIfInBounds i true).getD i false=true:=by simp[h]
theorem no_rep:¬(Array.replicate k false).getD i false=true:=by
 simp only[Array.getD_eq_getD_getElem?,Array.getElem?_replicate]
 split<;>simp
def unl(l:List Oper)(listed:Array Bool):Nat:=(List.range l.length).countP (fun i=>!listed.getD i false)
theorem cnt_tail{p:Nat->Bool}(hm:m<=k)(h:∀ t,m<=t->p t=true):(List.range k).countP p=(List.range m).countP p+(k-m):=by
 obtain⟨d,rfl⟩:∃ d,k=m+d:=⟨k-m,by omega⟩
 induction d with
 | zero=>simp
 | succ d ih=>
  rw[show m+(d+1)=m+d+1 by omega,List.range_succ,List.countP_append,ih oG];simp[h (m+d) oG];omega
theorem ready_ex(hs:listed.size=l.length)(hlt:∀ i o,i<m->l[i]? =some o->∀ j∈kw o,j<i)(hm:m<=l.length):∀ i,i<m->listed.getD i false=false->Region.ready .any l.toArray listed≠[]:=by
 intro i
 induction i using Nat.strongRecOn with
 | ind i ih=>
  intro hi hn hr;have ho:l[i]? =some l[i]:=aN oG;by_cases h:∀ j∈kw l[i],listed.getD j false=true
  ·have:=RK listed i _ hs ho hn h
   rw[hr]at this;cases this
  ·obtain⟨j,h⟩:=Classical.not_forall.1 h
   obtain⟨hj,h⟩:=Classical.not_imp.1 h;have hji:=hlt i _ hi ho j hj;exact ih j hji oG (by simpa using h) hr
theorem any_ind(J:Array Bool->Fr->World->Prop)(hm:P.follows .mixedOrders=true)(h0:∀ w',Same [] w w'->J (Array.replicate l.length false) f w')
  (H:∀ listed f' w',J listed f' w'->listed.size=l.length->Dn l listed->(∀ a1,unl l listed<=a1->wpAny P .any l.toArray Q a1 listed (AF n f') w')\/(Region.ready .any l.toArray listed≠[]/\∀ i o,i<l.length->l[i]? =some o->listed.getD i false=false->(∀ j∈kw o,listed.getD j false=true)->(Region.wanted o (yielded l.toArray (AF n f').tmps)=true->OS P n f' w' o (fun v w''=>J (listed.setIfInBounds i true) (KK f' o.dst v) w''))/\(Region.wanted o (yielded l.toArray (AF n f').tmps)=false->J (listed.setIfInBounds i true) (KK f' o.dst undef) w'))):WC P (.region id l.toArray true) Q n f w:=by
 unfold WC;refine wp_region_any hm ?_;have key:∀(a1:Nat) (listed:Array Bool) (f':Fr) (w':World),J listed f' w'->listed.size=l.length->Dn l listed->unl l listed<=a1->wpAny P .any l.toArray Q a1 listed (AF n f') w':=by
  intro a1
  induction a1 with
  | zero=>
   intro listed f' w' hJ hs hD hc;rcases H listed f' w' hJ hs hD with h|⟨h,_⟩
   ·exact h 0 hc
   ·obtain⟨i,r,hr⟩:=List.exists_cons_of_ne_nil h
    obtain⟨o,ho,hn,_⟩:=Qy listed i (by rw[hr];simp);have h1:=List.countP_eq_zero.1 (Nat.le_zero.1 hc) i (az.2 (aC.1 ho).1);rw[hn]at h1;exact absurd rfl h1
  | succ a1 ih=>
   intro listed f' w' hJ hs hD hc;rcases H listed f' w' hJ hs hD with h|⟨h,h2⟩
   ·exact h _ hc
   ·refine⟨fun hr=>absurd hr h,fun i hi=>?_⟩
    obtain⟨o,ho,hn,hd⟩:=Qy listed i hi;have hil:i<l.length:=(aC.1 ho).1;have hc2:unl l (listed.setIfInBounds i true)<=a1:=by
     have:=QJ (p:=fun i=>!listed.getD i false) (q:=fun k=>!(listed.setIfInBounds i true).getD k false) (fun x hx=>by
      by_cases hix:i=x
      ·subst hix;simp[hn]
      ·rw[gse hix]at hx;exact hx) (List.range l.length) i (az.2 hil) (by simp[hn]) (by rw[gss oG];rfl)
     unfold unl at hc ⊢;omega
    unfold wpOp;simp only[List.getElem?_toArray,ho];have h3:=h2 i o hil ho hn hd;have nx:∀ v w'',J (listed.setIfInBounds i true) (KK f' o.dst v) w''->wpAny P .any l.toArray Q a1 (listed.setIfInBounds i true) ((AF n f').put o.dst v) w'':=fun v w'' hj=>by
     rw[EK];exact ih _ _ _ hj (by simpa using hs) (hD.set oG ho hd) hc2
    by_cases a2:Region.wanted o (yielded l.toArray (AF n f').tmps)=true
    ·rw[if_pos a2]
     have h4:=h3.1 a2;unfold OS at h4;exact .inl (h4 _ _ nx)
    ·rw[if_neg a2]
     exact nx _ _ (h3.2 (by simpa using a2))
 have h1:=key l.length (Array.replicate l.length false) f { w with drawn:=w.drawn+1 } (h0 _ (Same.drew w 1)) (by simp) (fun j o _ h=>absurd h no_rep) (by
  have:=List.countP_le_length (p:=fun i=>!(Array.replicate l.length false).getD i false) (l:=List.range l.length);simp only[List.length_range]at this
  exact this)
 simpa using h1
theorem any_done(a2:∀ i,i<l.length->listed.getD i false=true)(h:WL P l.toArray Q [] n f' w'):∀ a1,unl l listed<=a1->wpAny P .any l.toArray Q a1 listed (AF n f') w':=fun a1 _=>by
 have hr:Region.ready .any l.toArray listed= []:=by
  cases hr:Region.ready .any l.toArray listed with
  | nil=>rfl
  | cons i r=>
   obtain⟨o,ho,hn,_⟩:=Qy listed i (by rw[hr];simp);rw[a2 i (List.getElem?_eq_some_iff.1 ho).1]at hn;cases hn
 unfold WL at h;cases a1 with
 | zero=>exact⟨hr,h⟩
 | succ a1=>exact⟨fun _=>h,fun x hx=>by rw[hr]at hx;cases hx⟩
def vO(f:Fr)(o:Oper):Value:=match o.dst with
 | some d=>f d
 | none=>undef
def rO(R:Nat->Value->World->Prop)(i:Nat)(o:Oper)(v:Value)(w:World):Prop:=match o.dst with
 | some _=>R i v w
 | none=>R i undef w
def vl(l:List Oper)(f:Fr)(i:Nat):Value:=match l[i]? with
 | some o=>vO f o
 | none=>undef
theorem NQ{f:Fr}(h:l[i]? =some o):vl l f i=vO f o:=by unfold vl;rw[h]
def kQ{α:Type}(val:Nat->α)(i:Nat)(v:α)(k:Nat):α:=if k=i then v else val k
def rv(o:Oper)(v:Value):Value:=match o.dst with
 | some _=>v
 | none=>undef
theorem Ev(h:o.dst.isSome=true):rv o v=v:=by
 unfold rv;cases e:o.dst with
 | none=>rw[e]at h;cases h
 | some _=>rfl
theorem rv_undef(o:Oper):rv o undef=undef:=by unfold rv;cases o.dst<;>rfl
theorem rO_rv{R:Nat->Value->World->Prop}{w:World}(h:rO R i o v w):R i (rv o v) w:=by
 unfold rO at h;unfold rv;cases e:o.dst<;>simpa only[e]using h
def J5(l:List Oper)(m:Nat)(S:List Nat)(ok:Oper->Bool):Bool:=
 decide (m<=l.length)&&(List.range m).all (fun i=>match l[i]? with
  | some o=>ok o&&(kw o).all (fun j=>decide (j<i))&&(match o.dst with
   | some d=>mem S d&&(List.range m).all (fun j=>decide (i=j)||(match l[j]? with|some o'=>!(o'.dst==some d)|none=>true))
   | none=>true)
  | none=>false)
theorem O0{ok:Oper->Bool}(h:J5 l m S ok=true):m<=l.length/\∀ i o,i<m->l[i]? =some o->ok o=true/\∀ j∈kw o,j<i:=by
 simp only[J5,Bool.and_eq_true,List.all_eq_true,List.mem_range,decide_eq_true_eq]at h;refine⟨h.1,fun i o hi ho=>?_⟩;have h:=h.2 i hi;simp only[ho,Bool.and_eq_true]at h;exact⟨h.1.1,fun j hj=>by simpa using aF.1 h.1.2 j hj⟩
theorem mono_imp{ok ok2:Oper->Bool}(h:J5 l m S ok=true)(k:∀ o,ok o=true->ok2 o=true):J5 l m S ok2=true:=by
 simp only[J5,Bool.and_eq_true,List.all_eq_true,List.mem_range]at h ⊢;refine⟨h.1,fun i hi=>?_⟩;have h:=h.2 i hi;cases ho:l[i]? with
 | none=>rw[ho]at h;cases h
 | some o=>
  rw[ho]at h;simp only[Bool.and_eq_true]at h ⊢;exact⟨⟨k o h.1.1,h.1.2⟩,h.2⟩
theorem Vk{A B:Value->World->Prop}(h:OS P n f w o A)(k:∀ v w',A v w'->B v w'):OS P n f w o B:=by
 unfold OS at h ⊢;exact fun K Q' hK=>h K Q' (fun v w'' h=>hK v w'' (k v w'' h))
theorem X2{α:Type}{d:Nat->Bool}{val val':Nat->α}{v:α}{p q:Nat->α->Prop}(hv:∀ k,k<m->val' k=kQ val i v k)(h:∀ j,j<m->d j=true->p j (val j))(hpq:∀ j x,j≠i->p j x->q j x)(hi:q i v):∀ j,j<m->kQ d i true j=true->q j (val' j):=fun j hj hd=>by
 rw[hv j hj]
 unfold kQ at hd ⊢
 by_cases e:j=i
 ·subst e;rw[if_pos rfl];exact hi
 ·rw[if_neg e]at hd ⊢;exact hpq j _ e (h j hj hd)
theorem Bk{α:Type}{d:Nat->Bool}{val val':Nat->α}{v:α}{D:Nat->α->Nat->α->Prop}(hv:∀ k,k<m->val' k=kQ val i v k)(h:∀ a b,a<m->b<m->a≠b->d a=true->d b=true->D a (val a) b (val b))(hi:∀ j,j<m->d j=true->D i v j (val j)/\D j (val j) i v):∀ a b,a<m->b<m->a≠b->kQ d i true a=true->kQ d i true b=true->D a (val' a) b (val' b):=fun a b ha hb hab a2 a1=>by
 rw[hv a ha,hv b hb]
 unfold kQ at a2 a1 ⊢
 by_cases e:a=i
 ·subst e
  rw[if_neg (Ne.symm hab)]at a1 ⊢
  rw[if_pos rfl];exact(hi b hb a1).1
 ·rw[if_neg e]at a2 ⊢
  by_cases e2:b=i
  ·subst e2;rw[if_pos rfl];exact(hi a ha a2).2
  ·rw[if_neg e2]at a1 ⊢;exact h a b ha hb hab a2 a1
def RW(l:List Oper):Nat->Nat->Nat->Bool
 | 0,_,_=>false
 | k+1,s,i=>match l[s]? with
  | some o=>(kw o).any (fun j=>Nat.beq j i||RW l k j i)
  | none=>false
theorem reach_dn{l:List Oper}{listed:Array Bool}(hD:Dn l listed):∀ {k s i:Nat},RW l k s i=true->listed.getD s false=true->listed.getD i false=true
 | 0,_,_,h,_=>by cases h
 | k+1,s,i,h,hs=>by
  unfold RW at h
  cases ho:l[s]? with
  | none=>rw[ho]at h;cases h
  | some o=>
   rw[ho]at h
   obtain⟨j,hj,h2⟩:=List.any_eq_true.1 h
   have hjl:=hD s o ho hs j hj
   rw[Bool.or_eq_true]at h2
   rcases h2 with h2|h2
   ·rw[<- Nat.eq_of_beq_eq_true h2];exact hjl
   ·exact reach_dn hD h2 hjl
theorem any_m{ok:Oper->Bool}(m:Nat)(S fl:List Nat)(I:(Nat->Bool)->(Nat->Value)->World->Prop)(hm:P.follows .mixedOrders=true)(hB:J5 l m S ok=true)
  (ht:∀ listed i o,¬i<m->i<l.length->l[i]? =some o->Dn l listed->(∀ j∈kw o,listed.getD j false=true)->∀ a,a<m->fl.contains a=false->listed.getD a false=true)
  (h0:∀ val w',Same [] w w'->I (fun _=>false) val w')
  (step:∀ i o d g w',i<m->l[i]? =some o->ok o=true->d i=false->(∀ j∈kw o,j<m/\d j=true)->(∀ s k,RW l k s i=true->d s=false)->I d (vl l g) w'->
   (Region.wanted o (yielded l.toArray (AF n (ovr S g f)).tmps)=true->OS P n (ovr S g f) w' o (fun v w''=>∀ val,(∀ k,k<m->val k=kQ (vl l g) i (rv o v) k)->I (kQ d i true) val w''))/\(Region.wanted o (yielded l.toArray (AF n (ovr S g f)).tmps)=false->∀ val,(∀ k,k<m->val k=kQ (vl l g) i (rv o undef) k)->I (kQ d i true) val w'))
  (fin:∀ listed g w',listed.size=l.length->Dn l listed->(∀ t,m<=t->listed.getD t false=false)->(∀ a,a<m->fl.contains a=false->listed.getD a false=true)->I (fun k=>listed.getD k false) (vl l g) w'->∀ fuel,unl l listed<=fuel->wpAny P .any l.toArray Q fuel listed (AF n (ovr S g f)) w'):WC P (.region id l.toArray true) Q n f w:=by
 simp only[J5,Bool.and_eq_true,List.all_eq_true,List.mem_range,decide_eq_true_eq]at hB;obtain⟨a3,hB⟩:=hB;have a1:∀ i o,i<m->l[i]? =some o->ok o=true/\(∀ j∈kw o,j<i)/\(∀ v f',Ag S f' f->Ag S (KK f' o.dst v) f)/\∀ f' v k,k<m->vl l (KK f' o.dst v) k=kQ (vl l f') i (rv o v) k:=fun i o hi ho=>by
  have h:=hB i hi;simp only[ho,Bool.and_eq_true]at h;obtain⟨⟨h1,h2⟩,h3⟩:=h;refine⟨h1,(fun j hj=>by simpa using aF.1 h2 j hj),?_⟩;cases hd:o.dst with
  | none=>
   refine⟨fun v f' h=>h,fun f' v k hk=>?_⟩;unfold kQ rv;rw[hd]
   split
   ·rename_i e;subst e;rw[NQ ho];unfold vO;rw[hd]
   ·rfl
  | some d=>
   simp only[hd,Bool.and_eq_true]at h3;refine⟨fun v f' h=>L4 h3.1 h,fun f' v k hk=>?_⟩;unfold kQ rv;rw[hd]
   split
   ·rename_i e;subst e;rw[NQ ho];unfold vO;rw[hd];simp[KK,upd]
   ·rename_i e
    unfold vl;cases ho':l[k]? with
    | none=>rfl
    | some o'=>
     have h4:=aF.1 h3.2 k (az.2 hk);unfold vO;cases hd':o'.dst with
     | none=>simp[hd']
     | some d'=>
      simp only[ho',hd']at h4;have hb:Nat.beq d' d=false:=by
       cases hb:Nat.beq d' d
       ·rfl
       ·rw[Nat.eq_of_beq_eq_true hb]at h4;simp[Ne.symm e]at h4
      simp only[hd',KK,upd,hb,cond_false]
 let J:Array Bool->Fr->World->Prop:=fun listed f' w'=>Ag S f' f/\(∀ t,m<=t->listed.getD t false=false)/\I (fun k=>listed.getD k false) (vl l f') w'
 refine any_ind J hm (fun w' hs=>⟨Ok,fun t _=>by simpa using no_rep (i:=t),by
  have:=h0 (vl l f) w' hs
  rwa[show (fun _=>false)=fun k=>(Array.replicate l.length false).getD k false from funext fun k=>by simpa using (no_rep (k:=l.length) (i:=k))]at this⟩) ?_
 rintro listed f' w' ⟨hag,ht',hI⟩ hs hD
 by_cases a2:∀ a,a<m->fl.contains a=false->listed.getD a false=true
 ·refine .inl ?_
  have:=fin listed f' w' hs hD ht' a2 hI
  rwa[<- T4 hag]at this
 ·obtain⟨a,hb⟩:=Classical.not_forall.1 a2
  obtain⟨ha,hb⟩:=Classical.not_imp.1 hb;obtain⟨hf,hb⟩:=Classical.not_imp.1 hb;refine .inr ⟨ready_ex hs (fun i o hi ho=>(a1 i o hi ho).2.1) a3 a ha (by simpa using hb),fun i o hil ho hn hd=>?_⟩;have a4:i<m:=aK (fun h=>hb (ht listed i o h hil ho hD hd a ha hf));obtain⟨hok,hdl,hau,hvl⟩:=a1 i o a4 ho
  have nx:∀ v w'',(∀ val,(∀ k,k<m->val k=kQ (vl l f') i (rv o v) k)->I (kQ (fun k=>listed.getD k false) i true) val w'')->J (listed.setIfInBounds i true) (KK f' o.dst v) w'':=fun v w'' h=>⟨hau v f' hag,fun t h=>by rw[gse oG];exact ht' t h,by
   have:=h (vl l (KK f' o.dst v)) (hvl f' v)
   rwa[show kQ (fun k=>listed.getD k false) i true=fun k=>(listed.setIfInBounds i true).getD k false from funext fun k=>by
    unfold kQ
    split
    ·rename_i e;subst e;rw[gss oG]
    ·rename_i e;rw[gse (Ne.symm e)]]at this⟩
  have h:=step i o (fun k=>listed.getD k false) f' w' a4 ho hok hn (fun j hj=>⟨Nat.lt_trans (hdl j hj) a4,hd j hj⟩) (fun s k h=>by
   cases e:listed.getD s false with
   | false=>rfl
   | true=>rw[reach_dn hD h e]at hn;cases hn) hI
  rw[<- T4 hag]at h;exact⟨fun hw=>Vk (h.1 hw) nx,fun hw=>nx _ _ (h.2 hw)⟩
theorem tail_a{fl:List Nat}(hl:(List.range l.length).all (Vx l m)=true):∀ listed i o,¬i<m->i<l.length->l[i]? =some o->Dn l listed->(∀ j∈kw o,listed.getD j false=true)->∀ a,a<m->fl.contains a=false->listed.getD a false=true:=fun _ i _ hi hil ho hD hd a ha _=>
 G3 (aF.1 hl i (az.2 hil)) hi ho hD hd a oG
theorem L0{ok:Oper->Bool}(hB:J5 l m S ok=true)(hl:(List.range l.length).all (Vx l m)=true)(hs:listed.size=l.length)(hD:Dn l listed)(ht:∀ t,m<=t->listed.getD t false=false)(a2:∀ a,a<m->[].contains a=false->listed.getD a false=true)(h:WL P l.toArray Q (l.drop m) n f' w'):∀ a1,unl l listed<=a1->wpAny P .any l.toArray Q a1 listed (AF n f') w':=fun a1 hc=>by
 have hm:=(O0 hB).1
 unfold unl at hc
 rw[cnt_tail hm (fun t h=>by rw[ht t h];rfl)]at hc
 unfold WL at h
 exact any_tail (fun i hi=>aF.1 hl i (az.2 hi)) (l.length-m) a1 m listed _ _ oG oG (ai _) hs hD (fun a ha=>a2 a ha rfl) ht h
def monoT(l:List Oper)(m:Nat)(S:List Nat):Bool:=J5 l m S (fun o=>o.dst.isSome&&o.guard.isNone)&&(List.range l.length).all (Vx l m)
def monoG(l:List Oper)(m:Nat)(S:List Nat):Bool:=J5 l m S (·.dst.isSome)&&(List.range l.length).all (Vx l m)
theorem N7{ys:Nat->Option Bool}{p:Prop}(h:o.guard.isNone=true)(hw:Region.wanted o ys=false):p:=by
 rw[Option.isNone_iff_eq_none]at h;simp[Region.wanted,h]at hw
theorem c_monoGO(m:Nat)(S:List Nat)(fr:Nat->Bool)(R:Nat->Value->World->Prop)(hm:P.follows .mixedOrders=true)(hB:monoG l m S=true)
  (hst:∀ i v w1 w2,R i v w1->Same [] w1 w2->R i v w2)
  (step:∀ i o,i<m->l[i]? =some o->∀ g w',Same [] w w'->(∀ j∈kw o,R j (vl l g j) w')->(∀ j k b,j∈kw o->k∈kw o->j≠k->fr j=true->fr k=true->ky (vl l g j)=some b->ky (vl l g k)≠some b)->(Region.wanted o (yielded l.toArray (AF n (ovr S g f)).tmps)=true->OS P n (ovr S g f) w' o (fun v w''=>Same [] w' w''/\R i v w''/\Frsh (fr i) w' w'' v))/\(Region.wanted o (yielded l.toArray (AF n (ovr S g f)).tmps)=false->R i undef w'))
  (fin:∀ g w',Same [] w w'->(∀ i,i<m->R i (vl l g i) w')->(∀ i j b,i<m->j<m->i≠j->fr i=true->fr j=true->ky (vl l g i)=some b->ky (vl l g j)≠some b)->WL P l.toArray Q (l.drop m) n (ovr S g f) w'):WC P (.region id l.toArray true) Q n f w:=by
 obtain⟨hB,hl⟩:=aJ.1 hB
 let I:(Nat->Bool)->(Nat->Value)->World->Prop:=fun d val w'=>Same [] w w'/\(∀ i,i<m->d i=true->R i (val i) w'/\(fr i=true->∀ g,ky (val i)=some g->g<w'.heap.size))/\∀ a b,a<m->b<m->a≠b->d a=true->d b=true->fr a=true->fr b=true->∀ g,ky (val a)=some g->ky (val b)≠some g
 refine any_m m S [] I hm hB (tail_a hl) (fun val w' hs=>⟨hs,fun _ _ h=>(aQ h).elim,fun _ _ _ _ _ h=>(aQ h).elim⟩) (fun i o d g w' hi ho hok hn hd _ hI=>?_) (fun listed g w' hz hD ht a1 hI=>L0 hB hl hz hD ht a1 (fin g w' hI.1 (fun i hi=>(hI.2.1 i hi (a1 i hi rfl)).1) (fun i j b hi hj a3 h1 h2=>hI.2.2 i j hi hj a3 (a1 i hi rfl) (a1 j hj rfl) h1 h2 b)));obtain⟨hs,hR,a2⟩:=hI;have h:=step i o hi ho g w' hs (fun j hj=>(hR j (hd j hj).1 (hd j hj).2).1) (fun j k b hj hk a3 h1 h2=>a2 j k (hd j hj).1 (hd k hk).1 a3 (hd j hj).2 (hd k hk).2 h1 h2 b);have nx:∀ v w'',Same [] w' w''/\R i v w''/\Frsh (fr i) w' w'' v->∀ val,(∀ k,k<m->val k=kQ (vl l g) i (rv o v) k)->I (kQ d i true) val w'':=fun v w'' ⟨h1,h2,h3⟩ val hv=>by
  rw[Ev hok]at hv
  exact⟨hs.t h1,X2 (p:=fun i v=>R i v w'/\(fr i=true->∀ g,ky v=some g->g<w'.heap.size)) (q:=fun i v=>R i v w''/\(fr i=true->∀ g,ky v=some g->g<w''.heap.size)) hv hR (fun j x _ h=>⟨hst _ _ _ _ h.1 h1,fun hf g hg=>nLL (h.2 hf g hg) h1.size⟩) ⟨h2,fun hf g hg=>(h3 hf g hg).2⟩,Bk (D:=fun a x b y=>fr a=true->fr b=true->∀ g,ky x=some g->ky y≠some g) hv a2 (fun j hj hdj=>⟨fun hf a4 b hb a5=>by
   have:=(hR j hj hdj).2 a4 b a5;have:=(h3 hf b hb).1;omega,fun hf a4 b hb a5=>by
   have:=(hR j hj hdj).2 hf b hb;have:=(h3 a4 b a5).1;omega⟩)⟩
 exact⟨fun hw=>Vk (h.1 hw) nx,fun hw=>nx undef w' ⟨Same.refl _ _,h.2 hw,fun _ g hg=>nomatch hg⟩⟩
theorem uX(m:Nat)(S:List Nat)(fr:Nat->Bool)(R:Nat->Value->World->Prop)(hm:P.follows .mixedOrders=true)(hB:monoT l m S=true)
  (hst:∀ i v w1 w2,R i v w1->Same [] w1 w2->R i v w2)
  (step:∀ i o,i<m->l[i]? =some o->∀ g w',Same [] w w'->(∀ j∈kw o,R j (vl l g j) w')->(∀ j k b,j∈kw o->k∈kw o->j≠k->fr j=true->fr k=true->ky (vl l g j)=some b->ky (vl l g k)≠some b)->OS P n (ovr S g f) w' o (fun v w''=>Same [] w' w''/\R i v w''/\Frsh (fr i) w' w'' v))
  (fin:∀ g w',Same [] w w'->(∀ i,i<m->R i (vl l g i) w')->(∀ i j b,i<m->j<m->i≠j->fr i=true->fr j=true->ky (vl l g i)=some b->ky (vl l g j)≠some b)->WL P l.toArray Q (l.drop m) n (ovr S g f) w'):WC P (.region id l.toArray true) Q n f w:=by
 obtain⟨hB,hl⟩:=aJ.1 hB;exact c_monoGO m S fr R hm (aJ.2 ⟨mono_imp hB (fun o h=>(aJ.1 h).1),hl⟩) hst (fun i o hi ho g w' hs hd a1=>⟨fun _=>step i o hi ho g w' hs hd a1,fun hw=>N7 (aJ.1 ((O0 hB).2 i o hi ho).1).2 hw⟩) fin
theorem J9(m:Nat)(S:List Nat)(X:List Nat)(s:Nat)(R:Nat->Value->World->Prop)(P1:World->Prop)(hm:P.follows .mixedOrders=true)(hB:monoT l m S=true)
  (hst:∀ i v w1 w2,R i v w1->Same [] w1 w2->R i v w2) (hP1:∀ w1 w2,P1 w1->Same [] w1 w2->P1 w2)
  (step:∀ i o,i<m->i≠s->l[i]? =some o->∀ g w',Same X w w'->(∀ j∈kw o,R j (vl l g j) w')->OS P n (ovr S g f) w' o (fun v w''=>Same [] w' w''/\R i v w''))
  (a2:∀ o,l[s]? =some o->∀ g w',Same [] w w'->(∀ j∈kw o,R j (vl l g j) w')->OS P n (ovr S g f) w' o (fun v w''=>Same X w' w''/\R s v w''/\P1 w''/\∀ k v,k≠s->R k v w'->R k v w''))
  (hsm:s<m)
  (fin:∀ g w',Same X w w'->P1 w'->(∀ i,i<m->R i (vl l g i) w')->WL P l.toArray Q (l.drop m) n (ovr S g f) w'):WC P (.region id l.toArray true) Q n f w:=by
 obtain⟨hB,hl⟩:=aJ.1 hB
 let I:(Nat->Bool)->(Nat->Value)->World->Prop:=fun d val w'=>(d s=false->Same [] w w')/\Same X w w'/\(d s=true->P1 w')/\∀ i,i<m->d i=true->R i (val i) w'
 refine any_m m S [] I hm hB (tail_a hl) (fun val w' hs=>⟨fun _=>hs,hs.weak (by simp),fun h=>(aQ h).elim,fun _ _ h=>(aQ h).elim⟩) (fun i o d g w' hi ho a3 hn hd _ hI=>?_) (fun listed g w' hz hD ht a1 hI=>L0 hB hl hz hD ht a1 (fin g w' hI.2.1 (hI.2.2.1 (a1 s hsm rfl)) (fun i hi=>hI.2.2.2 i hi (a1 i hi rfl))));obtain⟨hS0,a4,hPP,hR⟩:=hI;obtain⟨a3,hg⟩:=aJ.1 a3;refine⟨fun _=>?_,fun hw=>N7 hg hw⟩;have hdR:=fun j hj=>hR j (hd j hj).1 (hd j hj).2
 by_cases e:i=s
 ·subst e
  exact Vk (a2 o ho g w' (hS0 hn) hdR) (fun v w'' ⟨h1,h2,h3,h4⟩ val hv=>by
   rw[Ev a3]at hv
   exact⟨fun h=>by simp[kQ]at h,a4.trans h1,fun _=>h3,X2 (p:=fun i v=>R i v w') (q:=fun i v=>R i v w'') hv hR h4 h2⟩)
 ·have e2:kQ d i true s=d s:=by unfold kQ;rw[if_neg (Ne.symm e)]
  exact Vk (step i o hi e ho g w' a4 hdR) (fun v w'' ⟨h1,h2⟩ val hv=>by
   rw[Ev a3]at hv
   exact⟨fun h=>(hS0 (e2 ▸ h)).trans h1,a4.trans (h1.weak (by simp)),fun h=>hP1 _ _ (hPP (e2 ▸ h)) h1,X2 (p:=fun i v=>R i v w') (q:=fun i v=>R i v w'') hv hR (fun j x _ h=>hst _ _ _ _ h h1) h2⟩)
def stU(st:Nat->Bool)(i k:Nat):Bool:=if k=i then true else st k
def monoN(l:List Oper)(m:Nat)(S:List Nat):Bool:=J5 l m S (·.guard.isNone)&&(List.range l.length).all (Vx l m)
theorem SV(m:Nat)(S X:List Nat)(sp:Nat->Bool)(R:(Nat->Bool)->Nat->Value->Nat->Nat->World->Prop)(hm:P.follows .mixedOrders=true)(hB:monoN l m S=true)(hsp:(List.range m).all (fun i=>match l[i]? with|some o=>o.dst.isSome||sp i|none=>true)=true)
  (hst:∀ st i v la ha w1 w2,R st i v la ha w1->Same [] w1 w2->R st i v la ha w2)
  (step:∀ st i o,i<m->l[i]? =some o->(∀ s,sp s=true->RW l m s i=true->st s=false)->∀ g w' (la ha:Nat->Nat),Same X w w'->(∀ j o',j∈kw o->l[j]? =some o'->R st j (vO g o') (la j) (ha j) w')->bif sp i then st i=false->(∀ j k,j∈kw o->k∈kw o->j≠k->ha j<=la k\/ha k<=la j)->OS P n (ovr S g f) w' o (fun v w''=>Same X w w''/\w'.heap.size<=w''.heap.size/\rO (fun i v w''=>R (stU st i) i v w'.heap.size w''.heap.size w'') i o v w''/\∀ k o',k≠i->l[k]? =some o'->R st k (vO g o') (la k) (ha k) w'->R (stU st i) k (vO g o') (la k) (ha k) w'')else OS P n (ovr S g f) w' o (fun v w''=>Same [] w' w''/\R st i v w'.heap.size w''.heap.size w''))
  (fin:∀ st g w' (la ha:Nat->Nat),(∀ k,k<m->sp k=true->st k=true)->Same X w w'->(∀ i o,i<m->l[i]? =some o->R st i (vO g o) (la i) (ha i) w')->(∀ i j,i<m->j<m->i≠j->ha i<=la j\/ha j<=la i)->WL P l.toArray Q (l.drop m) n (ovr S g f) w'):WC P (.region id l.toArray true) Q n f w:=by
 obtain⟨hB,hl⟩:=aJ.1 hB
 let I:(Nat->Bool)->(Nat->Value)->World->Prop:=fun d val w'=>Same X w w'/\∃ la ha:Nat->Nat,(∀ i,i<m->d i=true->R (fun k=>d k&&sp k) i (val i) (la i) (ha i) w'/\ha i<=w'.heap.size)/\∀ a b,a<m->b<m->a≠b->d a=true->d b=true->ha a<=la b\/ha b<=la a
 refine any_m m S [] I hm hB (tail_a hl) (fun val w' hs=>⟨hs.weak (by simp),fun _=>0,fun _=>0,fun _ _ h=>(aQ h).elim,fun _ _ _ _ _ h=>(aQ h).elim⟩) (fun i o d g w' hi ho hg hn hd hre hI=>?_) (fun listed g w' hz hD ht a1 hI=>?_)
 ·obtain⟨hs,la,ha,hR,a2⟩:=hI
  refine⟨fun _=>?_,fun hw=>N7 hg hw⟩;have h:=step (fun k=>d k&&sp k) i o hi ho (fun s _ hr=>by rw[hre s m hr];rfl) g w' la ha hs (fun j o' hj a5=>by have:=(hR j (hd j hj).1 (hd j hj).2).1;rwa[NQ a5]at this);have nx:∀ v w'' (a4:Nat->Bool),Same X w w''->w'.heap.size<=w''.heap.size->a4=(fun k=>kQ d i true k&&sp k)->R a4 i (rv o v) w'.heap.size w''.heap.size w''->(∀ k,k<m->k≠i->R (fun k=>d k&&sp k) k (vl l g k) (la k) (ha k) w'->R a4 k (vl l g k) (la k) (ha k) w'')->∀ val,(∀ k,k<m->val k=kQ (vl l g) i (rv o v) k)->I (kQ d i true) val w'':=fun v w'' a4 h1 h2 e h3 h4 val hv=>by
   subst e;have hv2:∀ k,k<m->(fun k=>(val k,kQ la i w'.heap.size k,kQ ha i w''.heap.size k)) k=kQ (fun k=>(vl l g k,la k,ha k)) i (rv o v,w'.heap.size,w''.heap.size) k:=fun k hk=>by
    simp only[hv k hk];unfold kQ;split<;>rfl
   exact⟨h1,kQ la i w'.heap.size,kQ ha i w''.heap.size,X2 (p:=fun j x=>(j<m/\x=(vl l g j,la j,ha j))/\R (fun k=>d k&&sp k) j x.1 x.2.1 x.2.2 w'/\x.2.2<=w'.heap.size) (q:=fun j x=>R (fun k=>kQ d i true k&&sp k) j x.1 x.2.1 x.2.2 w''/\x.2.2<=w''.heap.size) hv2 (fun j hj a8=>⟨⟨hj,rfl⟩,hR j hj a8⟩) (fun j x a3 ⟨⟨hj,e⟩,k1,k2⟩=>by
    subst e;exact⟨h4 j hj a3 k1,nLT k2 h2⟩) ⟨h3,ai _⟩,Bk (D:=fun _ x _ y=>x.2.2<=y.2.1\/y.2.2<=x.2.1) hv2 a2 (fun j hj a8=>⟨.inr (hR j hj a8).2,.inl (hR j hj a8).2⟩)⟩
  cases hse:sp i with
  | false=>
   rw[hse,cond_false]at h;have hds:o.dst.isSome=true:=by
    have:=aF.1 hsp i (az.2 hi)
    simpa[ho,hse]using this
   exact Vk h (fun v w'' ⟨h1,h2⟩=>nx v w'' _ (hs.t (h1.weak (by simp))) h1.size (funext fun k=>by
    unfold kQ;split
    ·rename_i e;rw[e,hse,Bool.and_false,Bool.and_false]
    ·rfl) (by rw[Ev hds];exact h2) (fun k _ _ h=>hst _ _ _ _ _ _ _ h h1))
  | true=>
   rw[hse,cond_true]at h
   exact Vk (h (by rw[hn];rfl) (fun j k hj hk a3=>a2 j k (hd j hj).1 (hd k hk).1 a3 (hd j hj).2 (hd k hk).2)) (fun v w'' ⟨h1,h2,h3,h4⟩=>nx v w'' _ h1 h2 (funext fun k=>by
    unfold kQ stU;split
    ·rename_i e;rw[e,hse];rfl
    ·rfl) (rO_rv h3) (fun k hk a3 h=>by
     have a5:=aN (nLL hk (O0 hB).1);rw[NQ a5]at h ⊢
     exact h4 k _ a3 a5 h))
 ·obtain⟨hs,la,ha,hR,a2⟩:=hI
  exact L0 hB hl hz hD ht a1 (fin (fun k=>listed.getD k false&&sp k) g w' la ha (fun k hk hs=>by simp only[a1 k hk rfl,hs,Bool.and_self]) hs (fun i o hi ho=>by have:=(hR i hi (a1 i hi rfl)).1;rwa[NQ ho]at this) (fun i j hi hj a3=>a2 i j hi hj a3 (a1 i hi rfl) (a1 j hj rfl)))
theorem c_monoZO(m:Nat)(S:List Nat)(s:Nat)(R:Bool->Nat->Value->Nat->Nat->World->Prop)(hm:P.follows .mixedOrders=true)(hB:monoT l m S=true)
  (hst:∀ b i v la ha w1 w2,R b i v la ha w1->Same [] w1 w2->R b i v la ha w2)
  (step:∀ b i o,i<m->i≠s->l[i]? =some o->∀ g w' (la ha:Nat->Nat),Same [] w w'->(∀ j∈kw o,R b j (vl l g j) (la j) (ha j) w')->OS P n (ovr S g f) w' o (fun v w''=>Same [] w' w''/\R b i v w'.heap.size w''.heap.size w''))
  (a2:∀ o,l[s]? =some o->∀ g w' (la ha:Nat->Nat),Same [] w w'->(∀ j∈kw o,R false j (vl l g j) (la j) (ha j) w')->(∀ i j,i∈kw o->j∈kw o->i≠j->ha i<=la j\/ha j<=la i)->OS P n (ovr S g f) w' o (fun v w''=>Same [] w w''/\w'.heap.size<=w''.heap.size/\R true s v w'.heap.size w''.heap.size w''/\∀ k v x y,k≠s->R false k v x y w'->R true k v x y w''))
  (hsm:s<m)
  (fin:∀ g w' (la ha:Nat->Nat),Same [] w w'->(∀ i,i<m->R true i (vl l g i) (la i) (ha i) w')->WL P l.toArray Q (l.drop m) n (ovr S g f) w'):WC P (.region id l.toArray true) Q n f w:=by
 obtain⟨hB,hl⟩:=aJ.1 hB;obtain⟨hml,a3⟩:=O0 hB;have a1:∀ {k} (hk:k<m),l[k]? =some (l[k]'(nLL hk hml)):=fun hk=>aN _
 refine SV m S [] (fun i=>Nat.beq i s) (fun st i v la ha w=>R (st s) i v la ha w) hm (aJ.2 ⟨mono_imp hB (fun o h=>(aJ.1 h).2),hl⟩) (aF.2 (fun i hi=>by
  have hi:=az.1 hi;rw[a1 hi];simp[(Bool.and_eq_true_iff.1 (a3 i _ hi (a1 hi)).1).1])) (fun st i v la ha w1 w2=>hst _ _ _ _ _ _ _) (fun st i o hi ho _ g w' la ha hs hd=>?_) (fun st g w' la ha a5 hs hR _=>fin g w' la ha hs (fun i hi=>by
   have:=hR i _ hi (a1 hi)
   rwa[a5 s hsm (Nat.beq_refl s),<- NQ (a1 hi)]at this))
 have a4:∀ j∈kw o,R (st s) j (vl l g j) (la j) (ha j) w':=fun j hj=>by
  have hj2:=a1 (Nat.lt_trans ((a3 i o hi ho).2 j hj) hi);rw[NQ hj2];exact hd j _ hj hj2
 cases e:Nat.beq i s with
 | false=>exact step _ i o hi (fun h=>by rw[h,Nat.beq_refl]at e;cases e) ho g w' la ha hs a4
 | true=>
  have e:=aU e;subst e;refine fun hn hI=>?_
  rw[hn]at a4;have hds:=(aJ.1 (a3 i o hi ho).1).1;refine Vk (a2 o ho g w' la ha hs a4 hI) (fun v w'' ⟨h1,h2,h3,h4⟩=>⟨h1,h2,?_,fun k o' hk _ h=>?_⟩)
  ·unfold rO;cases e:o.dst with
   | none=>rw[e]at hds;cases hds
   | some _=>simpa[stU]using h3
  ·rw[hn]at h;simpa[stU]using h4 k _ _ _ hk h
def QA(P:Program)(l:List Oper)(fuel:Nat)(listed:Array Bool)(Q:Exit->Act->World->Prop):Exit->Act->World->Prop
 | .normal,a,w=>wpAny P .any l.toArray Q fuel listed a w
 | e,a,w=>Q e a w
def WA(P:Program)(l:List Oper)(Q:Exit->Act->World->Prop)(fuel:Nat)(listed:Array Bool)(n:Nw)(f:Fr)(w:World):Prop:=wpAny P .any l.toArray Q fuel listed (AF n f) w
theorem wp_qa{a:Act}{K:Act->World->Prop}(h:o.wp P a w K (QA P l a1 listed Q)):o.wp P a w K Q:=by
 unfold Oper.wp at *
 generalize (execOp a.eval o).run P w=r at *
 cases r with
 | ok x w'=>cases x<;>exact h
 | halt x w'=>cases x<;>exact h
theorem e_A{listed':Array Bool}(hl:listed=listed')(h:WA P l Q a1 listed' n f w):EX (QA P l a1 listed Q) .normal n f w:=by
 subst hl;unfold EX;exact h
theorem Dj(hr:Region.ready .any l.toArray listed= [])(h:EX Q .normal n f w):WA P l Q a1 listed n f w:=by
 unfold EX at h;cases a1 with
 | zero=>exact⟨hr,h⟩
 | succ a1=>exact⟨fun _=>h,fun i hi=>by rw[hr]at hi;cases hi⟩
def AllI(l:List Oper)(p:Nat->Oper->Prop):List Nat->Prop
 | []=>True
 | i::is=>(∀ o,l[i]? =some o->p i o)/\AllI l p is
theorem AllI.get{l:List Oper}{p:Nat->Oper->Prop}:∀ {is:List Nat},AllI l p is->∀ i∈is,∀ o,l[i]? =some o->p i o
 | [],_,i,hi,_,_=>by cases hi
 | j::is,h,i,hi,o,ho=>by
  rcases av.1 hi with rfl|hi
  ·exact h.1 o ho
  ·exact AllI.get h.2 i hi o ho
theorem X8(is:List Nat)(hr:Region.ready .any l.toArray listed=is)(hne:is.isEmpty=false)(h:AllI l (fun i o=>WL P l.toArray (QA P l a1 (listed.setIfInBounds i true) Q) [o] n f w) is):WA P l Q (a1+1) listed n f w:=by
 unfold WA;refine⟨fun h0=>?_,fun i hi=>?_⟩
 ·rw[hr]at h0;subst h0;cases hne
 ·rw[hr]at hi
  unfold wpOp;cases ho:(l.toArray)[i]? with
  | none=>
   exfalso
   rw[<- hr]at hi;obtain⟨o,h1,_⟩:=Qy listed i hi;rw[List.getElem?_toArray,h1]at ho;cases ho
  | some o=>
   have hw:=h.get i hi o (by simpa using ho);unfold WL wpList at hw;by_cases a2:Region.wanted o (yielded l.toArray (AF n f).tmps)=true
   ·simp only[a2,if_true]at hw ⊢
    rcases hw with hw|hw
    ·exact .inl (wp_qa hw)
    ·exact .inr hw
   ·rw[if_neg a2]at hw
    simp only[a2];exact hw
theorem ZZ{ops:Array Oper}{dst:Option Nat}{pos:String}{af:Array Edge}{t:Nat}{b c:Bool}(hj:(ops[j]?).bind (·.dst)=some t)(hv:ev n f (.tmp t)= .bool c):Region.wanted ⟨dst,op,ty,pos,af,some (j,b)⟩ (yielded ops (AF n f).tmps)=(c==b):=by
 simp[Region.wanted,Y3 ops n f j t c hj hv]
theorem gz{ops:Array Oper}{dst:Option Nat}{pos:String}{af:Array Edge}{b:Bool}{A B:Prop}(t:Nat)(c:Bool)(hj:(ops[j]?).bind (·.dst)=some t)(hv:ev n f (.tmp t)= .bool c)(h1:c=b->A)(h2:c= !b->B):
  (Region.wanted ⟨dst,op,ty,pos,af,some (j,b)⟩ (yielded ops (AF n f).tmps)=true->A)/\(Region.wanted ⟨dst,op,ty,pos,af,some (j,b)⟩ (yielded ops (AF n f).tmps)=false->B):=by
 rw[ZZ hj hv];refine⟨fun h=>h1 (by simpa using h),fun h=>h2 ?_⟩;cases c<;>cases b<;>simp_all
end mono
section more
variable {P:Program} {Q:Exit->Act->World->Prop} {n:Nw} {f:Fr} {w w':World} {ops:Array Oper} {rest:List Oper} {d:Nat} {ty:TypeId} {pos:String} {af:Array Edge} {v:Value}
def Own(w:World)(base:Nat)(e:TypeId)(sz:Nat)(A:Option Addr)(k cap:Nat)(xs:List Value):Prop:=w.ownsRow base e sz (.slice A k cap) k xs
def aL:Option Addr->List Nat
 | some a=>[a.block]
 | none=>[]
theorem Own.nil(w:World)(base:Nat)(e:TypeId)(sz:Nat):Own w base e sz none 0 0 []:=World.ownsRow_nil w base e sz
section own
variable {base:Nat} {e:TypeId} {sz:Nat} {A:Option Addr} {k cap:Nat} {xs:List Value}
theorem Own.lt(h:Own w base e sz A k cap xs):∀ g∈aL A,base<=g/\g<w.heap.size:=fun g hg=>by
 cases A with
 | none=>cases hg
 | some a=>
  refine World.ownsRow.lt h g ?_
  simp only[aL,List.mem_singleton]at hg
  subst hg;rfl
theorem Own.ob(h:Own w base e sz A k cap xs)(hr:w.heap.size<=b):∀ g∈aL A,g<b:=fun g hg=>nLL (h.lt g hg).2 hr
theorem Own.tr{X:List Nat}(h:Own w base e sz A k cap xs)(hs:Same X w w')(hx:∀ g∈aL A,g∉X):Own w' base e sz A k cap xs:=by
 refine⟨h.1,?_⟩;rcases h.2 with hn|⟨g,c,cur,hv,hb,hg,r⟩
 ·exact .inl hn
 ·refine .inr ⟨g,c,cur,hv,hb,?_,r⟩
  rw[hs.blk g (uj hg) (hx g (by cases hv;simp[aL]))];exact hg
theorem Own.tr0(h:Own w base e sz A k cap xs)(hs:Same [] w w'):Own w' base e sz A k cap xs:=h.tr hs (by simp)
theorem Own.tr1(h:Own w base e sz A k cap xs)(hs:Same [b] w w')(hx:∀ g∈aL A,g≠b):Own w' base e sz A k cap xs:=h.tr hs (fun g hg=>by simpa using hx g hg)
theorem Own.cB(h:Own w base e sz A k cap xs)(hs:Same [b] w w')(hx:∀ g∈aL A,g≠b:=by intro g hg;first|(have:=(Own.lt (by assumption) g hg).1;omega)|exact(by assumption:∀ g∈aL _,g≠_) g hg|exact Nat.ne_of_lt ((by assumption:∀ g∈aL _,g<_) g hg)|(have:=(Own.lt (by assumption) g hg).1;have:=(by assumption:∀ g∈aL _,g≠_) g hg;omega)):Own w' base e sz A k cap xs:=h.tr1 hs hx
theorem zJ{a:Nat}(h:a<=w.heap.size){X:List Nat}(hs:Same X w w'):a<=w'.heap.size:=nLT h (Same.size hs)
theorem Own.len(h:Own w base e sz A k cap xs):xs.length=k*sz:=h.1
theorem Own.max(h:Own w base e sz A k cap xs):k<=9223372036854775807:=by
 rcases h.2 with ⟨_,hn⟩|⟨g,c,cur,hv,hb,hg,hk,hm,r⟩
 ·omega
 ·simp only[maxLen]at hm;omega
theorem Own.cap_le(h:Own w base e sz A k cap xs):k<=cap:=by
 rcases h.2 with ⟨hv,hn⟩|⟨g,c,cur,hv,hb,hg,hk,hm,r⟩
 ·cases hv;omega
 ·cases hv;exact hk
theorem Own.cell(h:Own w base e sz A k cap xs):xs≠[]->∃ g,A=some ⟨g,0,none⟩/\base<=g/\g<w.heap.size/\∀ j u,xs[j]? =some u->w.cell? ⟨g,j,none⟩=some u:=fun hne=>by
 rcases h.2 with ⟨_,hn⟩|⟨g,c,cur,hv,hb,hg,_⟩
 ·have h1:=h.1
  rw[hn,Nat.zero_mul]at h1
  exact absurd (aM.1 h1) hne
 ·cases hv
  refine⟨g,rfl,hb,uj hg,fun j u hu=>?_⟩
  have:=World.ownsRow.cells h (g:=g) rfl j u hu
  have a1:(⟨g,0,none⟩:Addr).add j=⟨g,j,none⟩:=by unfold Addr.add;split<;>simp_all
  rwa[a1]at this
theorem Own.take{k':Nat}(h:Own w base e sz A k cap xs)(hk:k'<=k)(hn:0<k):Own w base e sz A k' cap (xs.take (k'*sz)):=by
 rcases h.2 with ⟨_,h0⟩|⟨g,c,cur,hv,hb,hg,hkc,hm,hs,ht⟩
 ·omega
 ·cases hv
  have hle:k'*sz<=k*sz:=aV sz hk;refine⟨by rw[List.length_take,h.1];omega,.inr ⟨g,cap,cur,rfl,hb,hg,by omega,hm,hs,?_⟩⟩;rw[<- ht,List.take_take,Nat.min_eq_left hle]
theorem V6(h:Blk w b e cs)(hb:base<=b)(hs:cs.size=m*sz)(hm:m<=9223372036854775807):Own w base e sz (some ⟨b,0,none⟩) m m cs.toList:=by
 refine⟨by rw[Array.length_toList,hs],.inr ⟨b,m,cs,rfl,hb,h,ai _,by simpa[maxLen]using hm,hs,?_⟩⟩;rw[List.take_of_length_le (by rw[Array.length_toList,hs];exact Nat.le_refl _)]
theorem Own.low(h:Own w base e sz A k cap xs)(hb:a1<=base):Own w a1 e sz A k cap xs:=by
 refine⟨h.1,?_⟩;rcases h.2 with hn|⟨g,c,cur,hv,hbb,r⟩
 ·exact .inl hn
 ·exact .inr ⟨g,c,cur,hv,nLT hb hbb,r⟩
theorem Nz{A:Option Addr}{k cap:Nat}(h:w.grownBy w' (Value.ownBlock (.slice A k cap))):Same (aL A) w w':=by
 refine⟨h.os,h.tape,h.output,h.size,fun j hj hx=>h.block j hj (fun e=>hx ?_)⟩;cases A with
 | none=>cases e
 | some a=>simp only[Value.ownBlock,Option.some.injEq]at e;subst e;simp[aL]
theorem run_app{a8:Nat}(hu:P.underlying t=some (.slice e))(hi:(P.info? e).map (fun i=>(i.zero,i.size,i.bytes))=some (some zv,sz,a8))(hzs:zv.cells.size=sz)(hsz:0<sz)
  (a5:Own w base e sz A k cap xs) (hb:Blk w b e cs) (hl:cs.size=m*sz) (h1:cs.toList.all (·.oneCell')=true) (hm:0<m) (h63:k+m<=9223372036854775807) (a2:(k+m)*a8<=140737488355328) (a3:base<=w.heap.size):
  ∃ g a1 w1,(Builtin.append_ #[t,t] ty #[.slice A k cap,.slice (some ⟨b,0,none⟩) m c]).run P w= .ok (.slice (some ⟨g,0,none⟩) (k+m) a1) w1/\Own w1 base e sz (some ⟨g,0,none⟩) (k+m) a1 (xs++cs.toList)/\Same (aL A) w w1/\(aL A= [g]\/w.heap.size<=g):=by
 obtain⟨i,hq,a4⟩:=aT.1 hi;simp only[Prod.mk.injEq]at a4;obtain⟨g,a1,w1,hr,h2,h3,h4,h5⟩:=run_append_lies (P:=P) w t ty base e i zv sz a8 hu hq a4.1 a4.2.1 a4.2.2 hzs hsz _ k xs a5 ⟨b,0,none⟩ m c cs.toList (by simpa using hl) (World.news_of_block hb) (aF.1 h1) hm h63 a2 a3 _ rfl;refine⟨g,a1,w1,hr,h2,Nz h3,?_⟩;rcases h4 with h4|h4
 ·left
  cases A with
  | none=>cases h4
  | some a=>simp only[Value.ownBlock,Option.some.injEq]at h4;subst h4;rfl
 ·right;omega
theorem vV{by':Nat}(hu:P.underlying t=some (.slice e))(hi:(P.info? e).map (fun i=>(i.zero,i.size,i.bytes))=some (some zv,sz,by'))(hzs:zv.cells.size=sz)(hsz:0<sz)
  (a4:Own w base e sz A k cap xs) (hb:Blk w b e cs) (hx:ev n f x= .slice A k cap) (hy:ev n f y= .slice (some ⟨b,0,none⟩) m c) (hl:cs.size=m*sz) (h1:cs.toList.all (·.oneCell')=true) (hm:0<m) (h63:k+m<=9223372036854775807) (a2:(k+m)*by'<=140737488355328) (a3:base<=w.heap.size)
  (K:∀ g a1 w1,Own w1 base e sz (some ⟨g,0,none⟩) (k+m) a1 (xs++cs.toList)->Same (aL A) w w1->(aL A= [g]\/w.heap.size<=g)->WL P ops Q rest n (upd f d (.slice (some ⟨g,0,none⟩) (k+m) a1)) w1):
  WL P ops Q (⟨some d,.call { callee:= .builtin .append,args:=#[x,y],argTypes:=#[t,t] },ty,pos,af,none⟩::rest) n f w:=by
 obtain⟨g,a1,w1,hr,h2,h3,h4⟩:=run_app (P:=P) (ty:=ty) (c:=c) hu hi hzs hsz a4 hb hl h1 hm h63 a2 a3;refine wl (v:= .slice (some ⟨g,0,none⟩) (k+m) a1) (w':=w1) ?_ (K g a1 w1 h2 h3 h4);simp only[RV,execOp,resolve,invoke,builtin,Sem.run_bind,Sem.run_pure,Result.andThen_ok,List.map_toArray,List.map_cons,List.map_nil,hx,hy,hr]
end own
theorem r_eqlNil{dst:Option Tmp}{gd:Option (Nat×Bool)}{t':TypeId}(hu:P.underlying t=some (.slice e))(hx:ev n f x= .slice A k c)(hy:ev n f y= .slice none 0 0):
  RV P n f w ⟨dst,.binOp .eql t x y t',ty,pos,af,gd⟩ (.bool A.isNone) w:=by
 have h:(Op.equalIn Op.maxDepth t (.slice A k c) (.slice none 0 0)).run P w= .ok A.isNone w:=Lib.run_equalIn_slice_nil w 9999 t e A k c 0 0 hu;simp only[RV,execOp,hx,hy,eqGuard,binOp];simp[Op.equal,h]
theorem wl_bs0(hu:P.underlying t=some (.slice e))(hs:(P.info? e).map (·.size)=some sz)
  (K:∀ b w1,Blk w1 b e #[]->Same [] w w1->w.heap.size<=b->WL P ops Q rest n (upd f d (.slice (some ⟨b,0,none⟩) 0 0)) w1):
  WL P ops Q (⟨some d,.buildSlice t 0 #[],ty,pos,af,none⟩::rest) n f w:=by
 refine wl (v:= .slice (some ⟨w.heap.size,0,none⟩) 0 0) (w':=w.alloc (.cells #[] e)) ?_ (K _ _ (heap_alloc_new w _) (o6 w _) (ai _));cases hq:P.info? e with
 | none=>simp[hq]at hs
 | some i=>
  unfold RV execOp Instr.buildSlice;have h0:¬(0:Nat)>2^24:=by decide
  have hr0:∀(f:Nat->Value),(Array.range 0).map f= #[]:=fun f=>by simp
  simp only[Sem.run_bind,run_underlying hu,Result.andThen_ok,sizeOf,typeInfo,run_program,hq,Sem.run_pure,Nat.zero_mul,h0,if_false,if_true,hr0,Instr.fill,List.map_toArray,List.map_nil,newRow,run_newObj];rfl
theorem wl_appC{a8 o':Nat}{news:List Value}(hu:P.underlying t=some (.slice e))(hi:(P.info? e).map (fun i=>(i.zero,i.size,i.bytes))=some (some zv,sz,a8))(hzs:zv.cells.size=sz)(hsz:0<sz)
  (a5:Own w base e sz A k cap xs) (hx:ev n f x= .slice A k cap) (hy:ev n f y= .slice (some ⟨b,o',none⟩) m c) (hn:∀ j u,news[j]? =some u->w.cell? ⟨b,o'+j,none⟩=some u) (hl:news.length=m*sz) (h1:news.all (·.oneCell')=true) (hm:0<m) (h63:k+m<=9223372036854775807) (a2:(k+m)*a8<=140737488355328) (a3:base<=w.heap.size)
  (K:∀ g a1 w1,Own w1 base e sz (some ⟨g,0,none⟩) (k+m) a1 (xs++news)->Same (aL A) w w1->(aL A= [g]\/w.heap.size<=g)->WL P ops Q rest n (upd f d (.slice (some ⟨g,0,none⟩) (k+m) a1)) w1):
  WL P ops Q (⟨some d,.call { callee:= .builtin .append,args:=#[x,y],argTypes:=#[t,t] },ty,pos,af,none⟩::rest) n f w:=by
 obtain⟨i,hq,a4⟩:=aT.1 hi;simp only[Prod.mk.injEq]at a4;obtain⟨g,a1,w1,hr,h2,h3,h4,h5⟩:=run_append_lies (P:=P) w t ty base e i zv sz a8 hu hq a4.1 a4.2.1 a4.2.2 hzs hsz _ k xs a5 ⟨b,o',none⟩ m c news hl (fun j u hj=>by rw[Addr.add_mid];exact hn j u hj) (aF.1 h1) hm h63 a2 a3 _ rfl;refine wl (v:= .slice (some ⟨g,0,none⟩) (k+m) a1) (w':=w1) ?_ (K g a1 w1 h2 (Nz h3) ?_)
 ·simp only[RV,execOp,resolve,invoke,builtin,Sem.run_bind,Sem.run_pure,Result.andThen_ok,List.map_toArray,List.map_cons,List.map_nil,hx,hy,hr]
 ·rcases h4 with h4|h4
  ·left
   cases A with
   | none=>cases h4
   | some a=>simp only[Value.ownBlock,Option.some.injEq]at h4;subst h4;rfl
  ·right;omega
theorem wl_gd{dst:Option Nat}(t:Nat){b:Bool}(hj:(ops[j]?).bind (·.dst)=some t)(hv:ev n f (.tmp t)= .bool b)(K:WL P ops Q (⟨dst,op,ty,pos,af,none⟩::rest) n f w):WL P ops Q (⟨dst,op,ty,pos,af,some (j,b)⟩::rest) n f w:=by
 unfold WL wpList at K ⊢;have hy:=Y3 ops n f j t b hj hv;have hw:Region.wanted ⟨dst,op,ty,pos,af,some (j,b)⟩ (yielded ops (AF n f).tmps)=true:=by simp[Region.wanted,hy]
 have hw0:Region.wanted ⟨dst,op,ty,pos,af,none⟩ (yielded ops (AF n f).tmps)=true:=rfl;rw[if_pos hw0]at K;rw[if_pos hw];exact K
theorem r_mf{dst:Option Tmp}{gd:Option (Nat×Bool)}{F:FuncId}{a1:Array Operand}{cv:List Value}(hc:a1.toList.map (ev n f)=cv):RV P n f w ⟨dst,.makeFunc (.func F) #[] a1,ty,pos,af,gd⟩ (.func (.func F) #[] cv.toArray) w:=by
 subst hc;have hm:(a1.toList.map (ev n f)).toArray=a1.map (ev n f):=by rw[<- Array.toList_map,Array.toArray_toList]
 rw[hm];simp[RV,execOp,Instr.makeFunc]
theorem yk{F:FuncId}{xs:Array Operand}{ats:Array TypeId}{args:List Value}{cv:Array Value}{all:Array Value}{R:Ending->World->Prop}{dst:Option Nat}(hf:ev n f x= .func (.func F) #[] cv)(hF:zw P F=true)(hc:Calls P F all w R)(a1:xs.toList.map (ev n f)=args)(a3:(args++cv.toList).toArray=all)
  (K:∀ e' w1,R e' w1->∃ v,e'= .returned v/\WL P ops Q rest n (KK f dst v) w1):
  WL P ops Q (⟨dst,.call { callee:= .value x,args:=xs,argTypes:=ats },ty,pos,af,none⟩::rest) n f w:=by
 subst a3;unfold WL;refine wpList_plain rfl fun K' hK=>?_
 unfold Oper.wp;rw[jZ];have a2:(execOp (ev n f) ⟨dst,.call { callee:= .value x,args:=xs,argTypes:=ats },ty,pos,af,none⟩).run P w= .ok (.enter F (args++cv.toList).toArray) w:=by
  subst a1;have hm:(xs.toList.map (ev n f)).toArray=xs.map (ev n f):=by rw[<- Array.toList_map,Array.toArray_toList]
  have hm2:(xs.toList.map (ev n f)++cv.toList).toArray=xs.map (ev n f)++cv:=by rw[<- hm];simp
  rw[hm2];simp[execOp,resolve,hf,Deferred.ofValue,invoke,Xj hF]
 rw[a2,Oper.upon_enter];refine hc.mono fun e' w1 hR=>?_
 obtain⟨v,rfl,hk⟩:=K e' w1 hR;unfold WL at hk;exact hK _ _ (by rw[EK];exact hk)
section pure2
variable {dst:Option Tmp} {gd:Option (Nat×Bool)} {x y:Operand} {t:TypeId}
theorem VY{off:Nat}{dd:TypeDesc}(hu:P.underlying t=some dd)(hd:dd.isRow=false)(hc:cs[off]? =some v):(part t cs off).run P w= .ok v w:=by
 have a1:(isAgg t).run P w= .ok false w:=by
  unfold isAgg;rw[Sem.run_bind,run_underlying hu w];cases dd<;>simp_all
 simp[part,a1,hc]
theorem BY{fs:Array Field}{fl:Field}{dd:TypeDesc}(hu:P.underlying t=some (.struct fs))(hf:fs[i]? =some fl)(hu1:P.underlying fl.type=some dd)(hd:dd.isRow=false)(hx:ev n f x= .agg cs)(hc:cs[fl.offset]? =some v):
  RV P n f w ⟨dst,.field t x i,ty,pos,af,gd⟩ v w:=by
 have:=VY (P:=P) (w:=w) hu1 hd hc;simp[RV,execOp,Instr.field,run_underlying hu,hf,hx,asAgg,this]
theorem run_eqF{b c:Int}(ht:P.underlying t=some (.struct (P.fieldsOf t)))(hs:P.stoodInHeld t=false)(hf:(P.fieldsOf t).toList.map (fun f=>(f.name == "_",f.type,f.offset))= [(false,ti,0),(false,ti,1)])(hi:P.underlying ti=some (.int .i64)):
  (Op.equalIn 10000 t (.agg #[.int .i64 a,.int .i64 b]) (.agg #[.int .i64 c,.int .i64 d'])).run P w= .ok (decide (a=c)&&decide (b=d')) w:=by
 rw[run_equalIn_agg w 9999 t _ _ ht hs]
 generalize (P.fieldsOf t).toList=fs at hf
 obtain⟨f0,f1,rfl⟩:∃ f0 f1,fs= [f0,f1]:=by
  have hl:=congrArg List.length hf;simp only[List.length_map,List.length_cons,List.length_nil]at hl;cases fs with
  | nil=>cases hl
  | cons f0 fs=>
   cases fs with
   | nil=>cases hl
   | cons f1 fs=>
    cases fs with
    | nil=>exact⟨f0,f1,rfl⟩
    | cons _ _=>simp at hl
 ·skip
  simp only[List.map_cons,List.map_nil,List.cons.injEq,Prod.mk.injEq,and_true,beq_eq_false_iff_ne]at hf;obtain⟨⟨h1,h2,h3⟩,h4,h5,h6⟩:=hf;have p1:(part f0.type #[.int .i64 a,.int .i64 b] f0.offset).run P w= .ok (.int .i64 a) w:=by rw[h2,h3];exact VY hi rfl rfl
  have p2:(part f0.type #[.int .i64 c,.int .i64 d'] f0.offset).run P w= .ok (.int .i64 c) w:=by rw[h2,h3];exact VY hi rfl rfl
  have p3:(part f1.type #[.int .i64 a,.int .i64 b] f1.offset).run P w= .ok (.int .i64 b) w:=by rw[h5,h6];exact VY hi rfl rfl
  have p4:(part f1.type #[.int .i64 c,.int .i64 d'] f1.offset).run P w= .ok (.int .i64 d') w:=by rw[h5,h6];exact VY hi rfl rfl
  have e1:=run_equalIn_int (P:=P) w 9998 f0.type .i64 .i64 a c (by rw[h2];exact hi);have e2:=run_equalIn_int (P:=P) w 9998 f1.type .i64 .i64 b d' (by rw[h5];exact hi);simp only[Op.eqFields,h1,h4,ne_eq,not_false_eq_true,if_true,Sem.run_bind,p1,p2,Result.andThen_ok,e1];by_cases hac:a=c
  ·subst hac
   simp only[beq_self_eq_true,Bool.not_true,Bool.false_eq_true,if_false,Sem.run_bind,p3,p4,Result.andThen_ok,e2];by_cases hbd:b=d'
   ·simp[hbd,Sem.run_pure]
   ·simp[hbd,Sem.run_pure]
  ·simp[hac,Sem.run_pure]
theorem r_eqF{b c:Int}(hm:P.eqGuardType P.depth t=false)(ht:P.underlying t=some (.struct (P.fieldsOf t)))(hs:P.stoodInHeld t=false)(hf:(P.fieldsOf t).toList.map (fun f=>(f.name == "_",f.type,f.offset))= [(false,ti,0),(false,ti,1)])(hi:P.underlying ti=some (.int .i64))
  (hx:ev n f x= .agg #[.int .i64 a,.int .i64 b]) (hy:ev n f y= .agg #[.int .i64 c,.int .i64 d']) {t':TypeId}:RV P n f w ⟨dst,.binOp .eql t x y t',ty,pos,af,gd⟩ (.bool (decide (a=c/\b=d'))) w:=by
 have h1:=run_eqF (P:=P) (w:=w) (a:=a) (b:=b) (c:=c) (d':=d') ht hs hf hi;have h2:=run_eqGuard_agg (P:=P) w .eql t x y #[.int .i64 a,.int .i64 b] #[.int .i64 c,.int .i64 d'] hm;simp only[RV,execOp,hx,hy,Sem.run_bind,h2,Result.andThen_ok,run_eql_struct,h1,Sem.run_pure,Bool.decide_and]
theorem r_neF{b c:Int}(hm:P.eqGuardType P.depth t=false)(ht:P.underlying t=some (.struct (P.fieldsOf t)))(hs:P.stoodInHeld t=false)(hf:(P.fieldsOf t).toList.map (fun f=>(f.name == "_",f.type,f.offset))= [(false,ti,0),(false,ti,1)])(hi:P.underlying ti=some (.int .i64))
  (hx:ev n f x= .agg #[.int .i64 a,.int .i64 b]) (hy:ev n f y= .agg #[.int .i64 c,.int .i64 d']) {t':TypeId}:RV P n f w ⟨dst,.binOp .neq t x y t',ty,pos,af,gd⟩ (.bool (decide (¬(a=c/\b=d')))) w:=by
 have h1:=run_eqF (P:=P) (w:=w) (a:=a) (b:=b) (c:=c) (d':=d') ht hs hf hi;have h2:=run_eqGuard_agg (P:=P) w .neq t x y #[.int .i64 a,.int .i64 b] #[.int .i64 c,.int .i64 d'] hm;simp only[RV,execOp,hx,hy,Sem.run_bind,h2,Result.andThen_ok,run_neq_struct,h1,Sem.run_pure,Bool.decide_and,decide_not]
end pure2
end more
theorem one_cons{x:Value}{l:List Value}(h:x.oneCell'=true)(t:l.all (·.oneCell')=true):(x::l).all (·.oneCell')=true:=by simp[h,t]
theorem xW{P:Prop}(h:P:=by repeat (first|rfl|refine one_cons (by first|rfl|assumption) ?_)):P:=h
theorem zV{P:Program}{ops:Array Oper}{rest:List Oper}{Q:Exit->Act->World->Prop}{n:Nw}{pos:String}{af:Array Edge}{tb:TypeId}{old cells:Array Value}(hb:Blk w b tb old)(K:∀ w1,Blk w1 b tb cells->Same [b] w w1->WL P ops Q rest n f w1)(hx:ev n f x= .pointer (some ⟨b,0,none⟩):=by rfl)(hy:ev n f y= .agg cells:=by rfl)(hi:(P.info? t).map (·.size)=some cells.size:=by kernel_rfl)(ho:old.size=cells.size:=by rfl)(h1:cells.toList.all (·.oneCell')=true:=by repeat (first|rfl|refine one_cons (by first|rfl|assumption) ?_)):WL P ops Q (⟨none,.store t x y,ty,pos,af,none⟩::rest) n f w:=wl_stW hb hx hy hi ho h1 K
def qy(v:Value)(i:Nat):Value:=match v with
 | .agg cs=>cs.toList.getD i (.slice none 0 0)
 | _=> .slice none 0 0
theorem ag_kn{g:Fr}{t:Nat}(h:f t=v)(ha:Ag S g f):Ag S (upd g t v) f:=by
 intro x hx;simp only[upd];cases hb:Nat.beq x t
 ·exact ha x hx
 ·have:x=t:=aU hb
  subst this;exact h.symm
theorem agA(h:Ag S f' f:=by repeat (first|exact Ok|exact L5|refine L4 rfl ?_|refine ag_sub rfl ?_|refine ag_kn (by assumption) ?_)):Ag S f' f:=h
theorem clA{a b:Bool}(h:Value.bool a=Value.bool b:=by first|exact ag (aj oG).symm|exact ag (ap oG).symm|exact ag (am.2 oG)|exact ag ((decide_not).symm.trans (am.2 oG))):Value.bool a=Value.bool b:=h
def ob(c:Option Code):Code:=match c with
 | some c=>c
 | none=> .skip
def sl(c:Code):Code:=match c with
 | .seq a _=>a
 | c=>c
def sr(c:Code):Code:=match c with
 | .seq _ b=>b
 | c=>c
attribute [irreducible] WA
theorem neA(ho:Own w base e sz A k cap xs)(hb:b<w.heap.size)(hg:aL A=[g]\/w.heap.size<=g)(h:b<base:=by omega):g≠b:=fun e=>by
 rcases hg with hg|hg
 ·have:=(ho.lt g (by rw[hg];exact ar.2 rfl)).1;omega
 ·omega
theorem neB(hb:b<w.heap.size)(hg:aL A=[g]\/w.heap.size<=g)(h:∀ g∈aL A,g≠b):g≠b:=fun e=>by
 rcases hg with hg|hg
 ·exact h g (by rw[hg];exact ar.2 rfl) e
 ·omega
theorem neL(h:∀ g∈aL A,g<b):∀ g∈aL A,g≠b:=fun g hg=>Nat.ne_of_lt (h g hg)
theorem Own.tq(ho:Own w base e sz A k cap xs)(hs:Same [b] w w')(h:b<base:=by omega):Own w' base e sz A k cap xs:=ho.tr1 hs (fun g hg=>by have:=(ho.lt g hg).1;omega)
theorem neS(h:g≠b:=by omega):∀ x∈aL (some (⟨g,0,none⟩:Addr)),x≠b:=fun x hx=>by rw[List.mem_singleton.1 hx];exact h
theorem Blk.ta{t:Nat}(hb:Blk w b t cs)(hs:Same (aL A) w w')(ho:Own w base e sz A k cap xs)(h:b<base:=by omega):Blk w' b t cs:=hb.tr hs (fun hx=>by have:=(ho.lt _ hx).1;omega)
theorem Blk.tb{t:Nat}(hb:Blk w b t cs)(hs:Same (aL A) w w')(h:∀ g∈aL A,g≠b):Blk w' b t cs:=hb.tr hs (fun hx=>h _ hx rfl)
theorem MapS.ta{m:List (ByteArray×Value)}(hb:MapS w b m)(hs:Same (aL A) w w')(ho:Own w base e sz A k cap xs)(h:b<base:=by omega):MapS w' b m:=hb.tr hs (fun hx=>by have:=(ho.lt _ hx).1;omega)
theorem MapS.tb{m:List (ByteArray×Value)}(hb:MapS w b m)(hs:Same (aL A) w w')(h:∀ g∈aL A,g≠b):MapS w' b m:=hb.tr hs (fun hx=>h _ hx rfl)
end Go.Proofs.YtndbjnkilegebaaGreatDoor
