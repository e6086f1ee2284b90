/- The engine's second part: regions that draw their order and end in operations whose order is forced; append; values by their shape; closures. -/
import Derived.Test.YtgcgnkmmbecfmaaGreatDoorEng
import Derived.Deep.AppendLies
import Derived.Laws.StructEq
namespace Go.Proofs.YtgcgnkmmbecfmaaGreatDoor
open Go.RowKit
variable {A:Option Addr}{S:List Nat}{a d':Int}{a1 b base c cap g i id j k m sz:Nat}{cs:Array Value}{e t ti:TypeId}{f':Fr}{l:List Oper}{listed:Array Bool}{o:Oper}{op:Op}{w w':World}{x y:Operand}{xs:List Value}{zv:Value}
section mono
variable {P:Program} {Q:Exit->Act->World->Prop} {n:Nw} {f:Fr} {w:World}
def Kx(l:List Oper)(m i:Nat):Bool:=decide (i<m)||(match l[i]? with
 | some o=>(vk o).all (fun j=>decide (j<i))&&(List.range i).all (fun j=>(vk o).contains j||(List.range i).any (fun k=>decide (j<k)&&(match l[k]? with|some o'=>(vk o').contains j|none=>false)))
 | none=>false)
def Iz(l:List Oper)(m:Nat)(S:List Nat):Bool:=
 (List.range m).all (fun i=>match l[i]? with
  | some o=>(match o.dst with|some d=>mem S d|none=>false)&&o.guard.isNone&&(vk o).all (fun j=>decide (j<i))&&(List.range m).all (fun j=>decide (i=j) || !(y5 l.toArray i==y5 l.toArray j))
  | none=>false)&&decide (m<=l.length) &&
 (List.range l.length).all (Kx l m)
def monoG(l:List Oper)(m:Nat)(S:List Nat):Bool:=
 (List.range m).all (fun i=>match l[i]? with
  | some o=>(match o.dst with|some d=>mem S d|none=>false)&&(match o.guard with|none=>true|some (j,_)=>(vk o).contains j)&&(vk o).all (fun j=>decide (j<i))&&(List.range m).all (fun j=>decide (i=j) || !(y5 l.toArray i==y5 l.toArray j))
  | none=>false)&&decide (m<=l.length) &&
 (List.range l.length).all (Kx l m)
theorem mono_g(h:Iz l m S=true):monoG l m S=true:=by
 simp only[Iz,monoG,Bool.and_eq_true,List.all_eq_true,List.mem_range]at h ⊢;refine⟨⟨fun i hi=>?_,h.1.2⟩,h.2⟩;have h1:=h.1.1 i hi;cases ho:l[i]? with
 | none=>rw[ho]at h1;cases h1
 | some o=>
  rw[ho]at h1;simp only[Bool.and_eq_true]at h1 ⊢;obtain⟨⟨⟨h1,h2⟩,h3⟩,h4⟩:=h1;rw[Option.isNone_iff_eq_none]at h2;rw[h2];exact⟨⟨⟨h1,rfl⟩,h3⟩,h4⟩
def Dn(l:List Oper)(listed:Array Bool):Prop:=∀ j o,l[j]? =some o->listed.getD j false=true->∀ k∈vk o,listed.getD k false=true
theorem Dn.set(h:Dn l listed)(hi:i<listed.size)(ho:l[i]? =some o)(hd:∀ j∈vk o,listed.getD j false=true):Dn l (listed.setIfInBounds i true):=by
 have up:∀ k,listed.getD k false=true->(listed.setIfInBounds i true).getD k false=true:=fun k hk=>by
  by_cases e:i=k
  ·subst e;simp[hi]
  ·simp only[Array.getD_eq_getD_getElem?,Array.getElem?_setIfInBounds_ne e]at hk ⊢;exact hk
 intro j o' a1 hj k hk;by_cases e:i=j
 ·subst e
  rw[ho]at a1;cases a1;exact up k (hd k hk)
 ·simp only[Array.getD_eq_getD_getElem?,Array.getElem?_setIfInBounds_ne e]at hj
  exact up k (h j o' a1 (by simpa only[Array.getD_eq_getD_getElem?]using hj) k hk)
theorem Hx(h:Kx l m i=true)(hm:¬i<m)(ho:l[i]? =some o):∀ j∈vk o,j<i:=by
 simp only[Kx,hm,decide_false,Bool.false_or,ho,Bool.and_eq_true,List.all_eq_true,decide_eq_true_eq]at h;exact h.1
theorem N7(h:Kx l m i=true)(hm:¬i<m)(ho:l[i]? =some o)(hD:Dn l listed)(hd:∀ j∈vk o,listed.getD j false=true):∀ j,j<i->listed.getD j false=true:=by
 simp only[Kx,hm,decide_false,Bool.false_or,ho,Bool.and_eq_true,List.all_eq_true,List.mem_range,Bool.or_eq_true,List.any_eq_true,decide_eq_true_eq]at h;have key:∀ t j,i<=j+t->j<i->listed.getD j false=true:=by
  intro t
  induction t with
  | zero=>intro j h1 h2;omega
  | succ t ih=>
   intro j h1 h2;rcases h.2 j h2 with h3|⟨k,hk,hjk,h3⟩
   ·exact hd j (by simpa using h3)
   ·cases hok:l[k]? with
    | none=>rw[hok]at h3;cases h3
    | some o'=>
     rw[hok]at h3;exact hD k o' hok (ih k oG hk) j (by simpa using h3)
 intro j hj;exact key i j oG hj
theorem oJ(listed:Array Bool)(i:Nat)(hi:i∈Region.ready .any l.toArray listed):∃ o,l[i]? =some o/\listed.getD i false=false/\∀ j∈vk o,listed.getD j false=true:=by
 simp only[Region.ready,List.mem_filter,List.mem_range,Bool.and_eq_true,Bool.not_eq_true']at hi;obtain⟨hi,hn,hd⟩:=hi;have hi':i<l.length:=by simpa using hi
 refine⟨l[i],aN hi',?_,?_⟩
 ·simp only[Array.getD_eq_getD_getElem?]at hn ⊢
  cases hq:listed[i]? with
  | none=>rfl
  | some b=>simpa[hq]using hn
 ·simp only[List.getElem?_toArray,List.getElem?_eq_getElem hi',Option.map_some,Option.getD_some]at hd
  exact deps_mem hd
theorem Oz(listed:Array Bool)(i:Nat)(o:Oper)(hs:listed.size=l.length)(ho:l[i]? =some o)(hn:listed.getD i false=false)(hd:∀ j∈vk o,listed.getD j false=true):i∈Region.ready .any l.toArray listed:=by
 have hi:i<l.length:=(au.1 ho).1;simp only[Region.ready,List.mem_filter,List.mem_range,Bool.and_eq_true,Bool.not_eq_true'];refine⟨by simpa using hi,?_,?_⟩
 ·simp only[Array.getD_eq_getD_getElem?]at hn ⊢
  have:i<listed.size:=by omega
  simp only[Array.getElem?_eq_getElem this,Option.getD_some]at hn ⊢;exact hn
 ·simp only[List.getElem?_toArray,ho,Option.map_some,Option.getD_some]
  exact PX hd
theorem any_tail(hl:∀ i,i<l.length->Kx l m i=true):∀(k a1 i:Nat) (listed:Array Bool) (a:Act) (w:World),i+k=l.length->k<=a1->m<=i->listed.size=l.length->Dn l listed->(∀ j,j<i->listed.getD j false=true)->(∀ t,i<=t->listed.getD t false=false)->wpList P l.toArray Q (l.drop i) a w->wpAny P .any l.toArray Q a1 listed a w:=by
 intro k
 induction k with
 | zero=>
  intro a1 i listed a w hik hkf hmi hs hD a2 a4 hW;rw[List.drop_eq_nil_of_le oG]at hW;have hr:Region.ready .any l.toArray listed= []:=by
   cases hr:Region.ready .any l.toArray listed with
   | nil=>rfl
   | cons x r=>
    obtain⟨o,ho,hn,_⟩:=oJ listed x (by rw[hr];simp);have:x<l.length:=(au.1 ho).1;rw[a2 x oG]at hn;cases hn
  cases a1 with
  | zero=>exact⟨hr,hW⟩
  | succ a1=>exact⟨fun _=>hW,fun x hx=>by rw[hr]at hx;cases hx⟩
 | succ k ih=>
  intro a1 i listed a w hik hkf hmi hs hD a2 a4 hW;obtain⟨a1,rfl⟩:∃ fu,a1=fu+1:=⟨a1-1,by omega⟩
  have a5:i<l.length:=by omega
  have ho:l[i]? =some l[i]:=aN a5;have hd:∀ j∈vk l[i],listed.getD j false=true:=fun j hj=>a2 j (Hx (hl i a5) oG ho j hj)
  refine⟨fun hr=>?_,fun x hx=>?_⟩
  ·have:=Oz listed i _ hs ho (a4 i (ah _)) hd
   rw[hr]at this;cases this
  ·obtain⟨o,a3,hn,hxd⟩:=oJ listed x hx
   have hxl:x<l.length:=(au.1 a3).1;have hxi:x=i:=by
    rcases aQ x i with h|h
    ·rw[a2 x h]at hn;cases hn
    ·rcases aQ i x with h2|h2
     ·have:=N7 (hl x hxl) oG a3 hD hxd i h2
      rw[a4 i (Nat.le_refl _)]at this;cases this
     ·omega
   subst hxi;rw[ho]at a3;cases a3;rw[List.drop_eq_getElem_cons a5]at hW;unfold wpOp;simp only[List.getElem?_toArray,ho];have next:∀ a' w',wpList P l.toArray Q (l.drop (x+1)) a' w'->wpAny P .any l.toArray Q a1 (listed.setIfInBounds x true) a' w':=fun a' w' h=>by
    refine ih a1 (x+1) _ a' w' oG oG oG (by simpa using hs) (hD.set oG ho hd) (fun j hj=>?_) (fun t ht=>?_) h
    ·by_cases e:x=j
     ·subst e;have:x<listed.size:=by omega
      simp[this]
     ·simp only[Array.getD_eq_getD_getElem?,Array.getElem?_setIfInBounds_ne e]
      simpa only[Array.getD_eq_getD_getElem?]using a2 j oG
    ·have e:x≠t:=by omega
     simp only[Array.getD_eq_getD_getElem?,Array.getElem?_setIfInBounds_ne e]
     simpa only[Array.getD_eq_getD_getElem?]using a4 t oG
   unfold wpList at hW;by_cases hwt:Region.wanted l[x] (yielded l.toArray a.tmps)=true
   ·rw[if_pos hwt]at hW ⊢
    exact hW.imp (Oper.wp_mono (fun a w h=>next a w h)) (fun h=>h)
   ·rw[if_neg hwt]at hW ⊢
    exact next _ _ hW
theorem gse(h:i≠j):(listed.setIfInBounds i true).getD j false=listed.getD j false:=by
 simp only[Array.getD_eq_getD_getElem?,Array.getElem?_setIfInBounds_ne h]
theorem gss(h:i<listed.size):(listed.setIfInBounds i true).getD i false=true:=by simp[h]
theorem Q3:¬(Array.replicate k false).getD i false=true:=by
 simp only[Array.getD_eq_getD_getElem?,Array.getElem?_replicate]
 split<;>simp
def unl(l:List Oper)(listed:Array Bool):Nat:=(List.range l.length).countP (fun i=>!listed.getD i false)
theorem cnt_tail{p:Nat->Bool}(hm:m<=k)(h:∀ t,m<=t->p t=true):(List.range k).countP p=(List.range m).countP p+(k-m):=by
 obtain⟨d,rfl⟩:∃ d,k=m+d:=⟨k-m,by omega⟩
 induction d with
 | zero=>simp
 | succ d ih=>
  rw[show m+(d+1)=m+d+1 by omega,List.range_succ,List.countP_append,ih oG];simp[h (m+d) oG];omega
theorem I6(hs:listed.size=l.length)(hlt:∀ i o,i<m->l[i]? =some o->∀ j∈vk o,j<i)(hm:m<=l.length):∀ i,i<m->listed.getD i false=false->Region.ready .any l.toArray listed≠[]:=by
 intro i
 induction i using Nat.strongRecOn with
 | ind i ih=>
  intro hi hn hr;have ho:l[i]? =some l[i]:=aN oG;by_cases h:∀ j∈vk l[i],listed.getD j false=true
  ·have:=Oz listed i _ hs ho hn h
   rw[hr]at this;cases this
  ·obtain⟨j,h⟩:=aY.1 h
   obtain⟨hj,h⟩:=aU.1 h;have hji:=hlt i _ hi ho j hj;exact ih j hji oG (by simpa using h) hr
theorem EV(J:Array Bool->Fr->World->Prop)(hm:P.follows .mixedOrders=true)(h0:∀ w',Same [] w w'->J (Array.replicate l.length false) f w')
  (H:∀ listed f' w',J listed f' w'->listed.size=l.length->Dn l listed->(∀ a1,unl l listed<=a1->wpAny P .any l.toArray Q a1 listed (AF n f') w')\/(Region.ready .any l.toArray listed≠[]/\∀ i o,i<l.length->l[i]? =some o->listed.getD i false=false->(∀ j∈vk o,listed.getD j false=true)->(Region.wanted o (yielded l.toArray (AF n f').tmps)=true->OS P n f' w' o (fun v w''=>J (listed.setIfInBounds i true) (ZY f' o.dst v) w''))/\(Region.wanted o (yielded l.toArray (AF n f').tmps)=false->J (listed.setIfInBounds i true) (ZY f' o.dst undef) w'))):WC P (.region id l.toArray true) Q n f w:=by
 unfold WC;refine wp_region_any hm ?_;have key:∀(a1:Nat) (listed:Array Bool) (f':Fr) (w':World),J listed f' w'->listed.size=l.length->Dn l listed->unl l listed<=a1->wpAny P .any l.toArray Q a1 listed (AF n f') w':=by
  intro a1
  induction a1 with
  | zero=>
   intro listed f' w' hJ hs hD hc;rcases H listed f' w' hJ hs hD with h|⟨h,_⟩
   ·exact h 0 hc
   ·obtain⟨i,r,hr⟩:=List.exists_cons_of_ne_nil h
    obtain⟨o,ho,hn,_⟩:=oJ listed i (by rw[hr];simp);have h1:=List.countP_eq_zero.1 (Nat.le_zero.1 hc) i (aw.2 (au.1 ho).1);rw[hn]at h1;exact absurd rfl h1
  | succ a1 ih=>
   intro listed f' w' hJ hs hD hc;rcases H listed f' w' hJ hs hD with h|⟨h,h2⟩
   ·exact h _ hc
   ·refine⟨fun hr=>absurd hr h,fun i hi=>?_⟩
    obtain⟨o,ho,hn,hd⟩:=oJ listed i hi;have hil:i<l.length:=(au.1 ho).1;have hc2:unl l (listed.setIfInBounds i true)<=a1:=by
     have:=gK (p:=fun i=>!listed.getD i false) (q:=fun k=>!(listed.setIfInBounds i true).getD k false) (fun x hx=>by
      by_cases hix:i=x
      ·subst hix;simp[hn]
      ·rw[gse hix]at hx;exact hx) (List.range l.length) i (aw.2 hil) (by simp[hn]) (by rw[gss oG];rfl)
     unfold unl at hc ⊢;omega
    unfold wpOp;simp only[List.getElem?_toArray,ho];have h3:=h2 i o hil ho hn hd;have nx:∀ v w'',J (listed.setIfInBounds i true) (ZY f' o.dst v) w''->wpAny P .any l.toArray Q a1 (listed.setIfInBounds i true) ((AF n f').put o.dst v) w'':=fun v w'' hj=>by
     rw[E4];exact ih _ _ _ hj (by simpa using hs) (hD.set oG ho hd) hc2
    by_cases a2:Region.wanted o (yielded l.toArray (AF n f').tmps)=true
    ·rw[if_pos a2]
     have h4:=h3.1 a2;unfold OS at h4;exact .inl (h4 _ _ nx)
    ·rw[if_neg a2]
     exact nx _ _ (h3.2 (by simpa using a2))
 have h1:=key l.length (Array.replicate l.length false) f { w with drawn:=w.drawn+1 } (h0 _ (Same.drew w 1)) (by simp) (fun j o _ h=>absurd h Q3) (by
  have:=List.countP_le_length (p:=fun i=>!(Array.replicate l.length false).getD i false) (l:=List.range l.length);simp only[List.length_range]at this
  exact this)
 simpa using h1
theorem any_fin(hl:∀ i,i<l.length->Kx l m i=true)(hm:m<=l.length)(hs:listed.size=l.length)(hD:Dn l listed)(a2:∀ i,i<m->listed.getD i false=true)(ht:∀ t,m<=t->listed.getD t false=false)(h:WL P l.toArray Q (l.drop m) n f' w'):∀ a1,unl l listed<=a1->wpAny P .any l.toArray Q a1 listed (AF n f') w':=fun a1 hc=>by
 unfold unl at hc
 rw[cnt_tail hm (fun t h=>by rw[ht t h];rfl)]at hc
 unfold WL at h
 exact any_tail hl (l.length-m) a1 m listed _ _ oG oG (ah _) hs hD a2 ht h
theorem any_done(a2:∀ i,i<l.length->listed.getD i false=true)(h:WL P l.toArray Q [] n f' w'):∀ a1,unl l listed<=a1->wpAny P .any l.toArray Q a1 listed (AF n f') w':=fun a1 _=>by
 have hr:Region.ready .any l.toArray listed= []:=by
  cases hr:Region.ready .any l.toArray listed with
  | nil=>rfl
  | cons i r=>
   obtain⟨o,ho,hn,_⟩:=oJ listed i (by rw[hr];simp);rw[a2 i (List.getElem?_eq_some_iff.1 ho).1]at hn;cases hn
 unfold WL at h;cases a1 with
 | zero=>exact⟨hr,h⟩
 | succ a1=>exact⟨fun _=>h,fun x hx=>by rw[hr]at hx;cases hx⟩
theorem VY{X:Oper->Bool} (hh:∀ i,i<m->(match l[i]? with
  | some o=>(match o.dst with|some d=>mem S d|none=>false)&&X o&&(vk o).all (fun j=>decide (j<i))&&(List.range m).all (fun j=>decide (i=j) || !(y5 l.toArray i==y5 l.toArray j))
  | none=>false)=true) {i:Nat} {o:Oper} (hi:i<m) (ho:l[i]? =some o):X o=true/\(∀ j∈vk o,j<i)/\(∀ f f' v,Ag S f' f->Ag S (ZY f' o.dst v) f)/\(∀ f v,ZY f o.dst v (y5 l.toArray i)=v)/\∀ f v j,j<m->i≠j->ZY f o.dst v (y5 l.toArray j)=f (y5 l.toArray j):=by
 have h:=hh i hi;simp only[ho,Bool.and_eq_true]at h;obtain⟨⟨⟨h1,h2⟩,h3⟩,h4⟩:=h;cases hd:o.dst with
 | none=>simp[hd]at h1
 | some d=>
  simp only[hd]at h1;have hde:y5 l.toArray i=d:=by simp[y5,ho,hd]
  refine⟨h2,fun j hj=>by simpa using aC.1 h3 j hj,fun f f' v=>OW h1,fun f v=>by rw[hde];simp[ZY,upd],fun f v j hj hij=>?_⟩;have a1:=aC.1 h4 j (aw.2 hj);rw[hde]at a1;have hb:Nat.beq (y5 l.toArray j) d=false:=by
   cases hb:Nat.beq (y5 l.toArray j) d
   ·rfl
   ·rw[Nat.eq_of_beq_eq_true hb]at a1;simp[hij]at a1
  simp only[ZY,upd,hb,cond_false]
theorem c_monoG(m:Nat)(S:List Nat)(fr:Nat->Bool)(R:Nat->Value->World->Prop)(hm:P.follows .mixedOrders=true)(hB:monoG l m S=true)
  (hst:∀ i v w w',R i v w->Same [] w w'->R i v w')
  (step:∀ i o,i<m->l[i]? =some o->∀ f' w',Same [] w w'->Ag S f' f->(∀ j∈vk o,R j (f' (y5 l.toArray j)) w')->(∀ j k g,j∈vk o->k∈vk o->j≠k->fr j=true->fr k=true->ky (f' (y5 l.toArray j))=some g->ky (f' (y5 l.toArray k))≠some g)->(Region.wanted o (yielded l.toArray (AF n f').tmps)=true->OS P n f' w' o (fun v w''=>Same [] w' w''/\R i v w''/\SK (fr i) w' w'' v))/\(Region.wanted o (yielded l.toArray (AF n f').tmps)=false->R i undef w'))
  (fin:∀ f' w',Same [] w w'->Ag S f' f->(∀ i,i<m->R i (f' (y5 l.toArray i)) w')->(∀ i j g,i<m->j<m->i≠j->fr i=true->fr j=true->ky (f' (y5 l.toArray i))=some g->ky (f' (y5 l.toArray j))≠some g)->WL P l.toArray Q (l.drop m) n f' w'):WC P (.region id l.toArray true) Q n f w:=by
 simp only[monoG,Bool.and_eq_true,List.all_eq_true,List.mem_range,decide_eq_true_eq]at hB;obtain⟨⟨hh,a4⟩,hl⟩:=hB
 let J:Array Bool->Fr->World->Prop:=fun listed f' w'=>Same [] w w'/\Ag S f' f/\(∀ t,m<=t->listed.getD t false=false)/\(∀ i,i<m->listed.getD i false=true->R i (f' (y5 l.toArray i)) w'/\(fr i=true->∀ g,ky (f' (y5 l.toArray i))=some g->g<w'.heap.size))/\(∀ i j g,i<m->j<m->i≠j->listed.getD i false=true->listed.getD j false=true->fr i=true->fr j=true->ky (f' (y5 l.toArray i))=some g->ky (f' (y5 l.toArray j))≠some g)
 refine EV J hm (fun w' hs=>⟨hs,Xk,fun t _=>by simpa using Q3 (i:=t),fun i _ h=>absurd h Q3,fun i j g _ _ _ h=>absurd h Q3⟩) ?_
 rintro listed f' w' ⟨hsm,hag,ht,hR,hdis⟩ hs hD
 by_cases a1:∀ i,i<m->listed.getD i false=true
 ·exact .inl (any_fin hl a4 hs hD a1 ht (fin f' w' hsm hag (fun i hi=>(hR i hi (a1 i hi)).1) (fun i j g hi hj b1=>hdis i j g hi hj b1 (a1 i hi) (a1 j hj))))
 ·obtain⟨a,ha⟩:=aY.1 a1
  obtain⟨ha,hb⟩:=aU.1 ha;refine .inr ⟨I6 hs (fun i o hi ho=>(VY hh hi ho).2.1) a4 a ha (by simpa using hb),fun i o hil ho hn hd=>?_⟩;have a5:i<m:=Nat.lt_of_not_le (fun h=>hb (N7 (hl i hil) oG ho hD hd a oG));obtain⟨_,b8,hau,an,ab⟩:=VY hh a5 ho
  have nx:∀ v w'',Same [] w' w''->R i v w''->SK (fr i) w' w'' v->J (listed.setIfInBounds i true) (ZY f' o.dst v) w'':=fun v w'' ao hr1 b5=>⟨hsm.trans ao,hau f f' v hag,fun t h=>by rw[gse oG];exact ht t h,fun j hj hl'=>by
   by_cases a2:i=j
   ·subst a2;rw[an];exact⟨hr1,fun hf g hg=>(b5 hf g hg).2⟩
   ·rw[ab _ _ j hj a2]
    rw[gse a2]at hl';obtain⟨h1,h2⟩:=hR j hj hl';exact⟨hst j _ _ _ h1 ao,fun hf g hg=>nLL (h2 hf g hg) ao.size⟩,fun j k g hj hk b3 b2 ac b7 b6 a9 a3=>by
   by_cases a2:i=j
   ·subst a2
    rw[an]at a9;rw[ab _ _ k hk b3]at a3;rw[gse b3]at ac;have:=(hR k hk ac).2 b6 g a3;have:=(b5 b7 g a9).1;omega
   ·rw[ab _ _ j hj a2]at a9
    rw[gse a2]at b2;by_cases b4:i=k
    ·subst b4
     rw[an]at a3;have:=(hR j hj b2).2 b7 g a9;have:=(b5 b6 g a3).1;omega
    ·rw[ab _ _ k hk b4]at a3
     rw[gse b4]at ac
     exact hdis j k g hj hk b3 b2 ac b7 b6 a9 a3⟩
  have h:=step i o a5 ho f' w' hsm hag (fun j hj=>(hR j (aF (b8 j hj) a5) (hd j hj)).1) (fun j k g hj hk b1=>hdis j k g (aF (b8 j hj) a5) (aF (b8 k hk) a5) b1 (hd j hj) (hd k hk));refine⟨fun hw=>?_,fun hw=>nx undef w' (Same.refl _ _) (h.2 hw) (fun _ g hg=>by cases hg)⟩;have h1:=h.1 hw;unfold OS at h1 ⊢;exact fun K Q' hK=>h1 K Q' (fun v w'' ⟨h1,h2,h3⟩=>hK v w'' (nx v w'' h1 h2 h3))
theorem c_monoT(m:Nat)(S:List Nat)(fr:Nat->Bool)(R:Nat->Value->World->Prop)(hm:P.follows .mixedOrders=true)(hB:Iz l m S=true)
  (hst:∀ i v w w',R i v w->Same [] w w'->R i v w')
  (step:∀ i o,i<m->l[i]? =some o->∀ f' w',Same [] w w'->Ag S f' f->(∀ j∈vk o,R j (f' (y5 l.toArray j)) w')->(∀ j k g,j∈vk o->k∈vk o->j≠k->fr j=true->fr k=true->ky (f' (y5 l.toArray j))=some g->ky (f' (y5 l.toArray k))≠some g)->OS P n f' w' o (fun v w''=>Same [] w' w''/\R i v w''/\SK (fr i) w' w'' v))
  (fin:∀ f' w',Same [] w w'->Ag S f' f->(∀ i,i<m->R i (f' (y5 l.toArray i)) w')->(∀ i j g,i<m->j<m->i≠j->fr i=true->fr j=true->ky (f' (y5 l.toArray i))=some g->ky (f' (y5 l.toArray j))≠some g)->WL P l.toArray Q (l.drop m) n f' w'):WC P (.region id l.toArray true) Q n f w:=by
 refine c_monoG m S fr R hm (mono_g hB) hst (fun i o hi ho f' w' hs hag hd a1=>⟨fun _=>step i o hi ho f' w' hs hag hd a1,fun hw=>?_⟩) fin;have hB':=hB;simp only[Iz,Bool.and_eq_true,List.all_eq_true,List.mem_range]at hB';have h:=hB'.1.1 i hi;simp only[ho,Bool.and_eq_true]at h;obtain⟨⟨⟨_,h2⟩,_⟩,_⟩:=h;rw[Option.isNone_iff_eq_none]at h2;simp[Region.wanted,h2]at hw
theorem oW(m:Nat)(S:List Nat)(fr:Nat->Bool)(R:Nat->Value->World->Prop)(hm:P.follows .mixedOrders=true)(hB:Iz l m S=true)
  (hst:∀ i v w1 w2,R i v w1->Same [] w1 w2->R i v w2)
  (step:∀ i o,i<m->l[i]? =some o->∀ g w',Same [] w w'->(∀ j∈vk o,R j (g (y5 l.toArray j)) w')->(∀ j k b,j∈vk o->k∈vk o->j≠k->fr j=true->fr k=true->ky (g (y5 l.toArray j))=some b->ky (g (y5 l.toArray k))≠some b)->OS P n (ovr S g f) w' o (fun v w''=>Same [] w' w''/\R i v w''/\SK (fr i) w' w'' v))
  (fin:∀ g w',Same [] w w'->(∀ i,i<m->R i (g (y5 l.toArray i)) w')->(∀ i j b,i<m->j<m->i≠j->fr i=true->fr j=true->ky (g (y5 l.toArray i))=some b->ky (g (y5 l.toArray j))≠some b)->WL P l.toArray Q (l.drop m) n (ovr S g f) w'):WC P (.region id l.toArray true) Q n f w:=by
 refine c_monoT m S fr R hm hB hst (fun i o hi ho f' w' hs a2 hd a1=>?_) (fun f' w' hs a2 hR a1=>?_)
 ·have:=step i o hi ho f' w' hs hd a1
  rwa[<- o7 a2]at this
 ·have:=fin f' w' hs hR a1
  rwa[<- o7 a2]at this
theorem c_monoS(m:Nat)(S:List Nat)(X:List Nat)(s:Nat)(R:Nat->Value->World->Prop)(P1:World->Prop)(hm:P.follows .mixedOrders=true)(hB:Iz l m S=true)
  (hst:∀ i v w w',R i v w->Same [] w w'->R i v w') (hP1:∀ w w',P1 w->Same [] w w'->P1 w')
  (step:∀ i o,i<m->i≠s->l[i]? =some o->∀ f' w',Same X w w'->Ag S f' f->(∀ j∈vk o,R j (f' (y5 l.toArray j)) w')->OS P n f' w' o (fun v w''=>Same [] w' w''/\R i v w''))
  (a2:∀ o,l[s]? =some o->∀ f' w',Same [] w w'->Ag S f' f->(∀ j∈vk o,R j (f' (y5 l.toArray j)) w')->OS P n f' w' o (fun v w''=>Same X w' w''/\R s v w''/\P1 w''/\∀ k v,k≠s->R k v w'->R k v w''))
  (hsm:s<m)
  (fin:∀ f' w',Same X w w'->P1 w'->Ag S f' f->(∀ i,i<m->R i (f' (y5 l.toArray i)) w')->WL P l.toArray Q (l.drop m) n f' w'):WC P (.region id l.toArray true) Q n f w:=by
 simp only[Iz,Bool.and_eq_true,List.all_eq_true,List.mem_range,decide_eq_true_eq]at hB;obtain⟨⟨hh,a3⟩,hl⟩:=hB
 let J:Array Bool->Fr->World->Prop:=fun listed f' w'=>(listed.getD s false=false->Same [] w w')/\Same X w w'/\(listed.getD s false=true->P1 w')/\Ag S f' f/\(∀ t,m<=t->listed.getD t false=false)/\∀ i,i<m->listed.getD i false=true->R i (f' (y5 l.toArray i)) w'
 refine EV J hm (fun w' hs=>⟨fun _=>hs,hs.weak (by simp),fun h=>absurd h Q3,Xk,fun t _=>by simpa using Q3 (i:=t),fun i _ h=>absurd h Q3⟩) ?_
 rintro listed f' w' ⟨hS0,hSX,hPP,hag,ht,hR⟩ hs hD
 by_cases a1:∀ i,i<m->listed.getD i false=true
 ·exact .inl (any_fin hl a3 hs hD a1 ht (fin f' w' hSX (hPP (a1 s hsm)) hag (fun i hi=>hR i hi (a1 i hi))))
 ·obtain⟨a,ha⟩:=aY.1 a1
  obtain⟨ha,hb⟩:=aU.1 ha;refine .inr ⟨I6 hs (fun i o hi ho=>(VY (X:=fun o=>o.guard.isNone) hh hi ho).2.1) a3 a ha (by simpa using hb),fun i o hil ho hn hd=>?_⟩;have a5:i<m:=Nat.lt_of_not_le (fun h=>hb (N7 (hl i hil) oG ho hD hd a oG));obtain⟨hg,hdl,hau,hus,huo⟩:=VY (X:=fun o=>o.guard.isNone) hh a5 ho;refine⟨fun _=>?_,fun hw=>by rw[Option.isNone_iff_eq_none]at hg;simp[Region.wanted,hg]at hw⟩;have hdR:=fun j hj=>hR j (aF (hdl j hj) a5) (hd j hj)
  have nx:∀ v w'',(i≠s->Same [] w' w'')->Same X w' w''->(i=s->P1 w'')->R i v w''->(∀ k v,k≠i->R k v w'->R k v w'')->J (listed.setIfInBounds i true) (ZY f' o.dst v) w'':=fun v w'' hs0 hsX hs1 hr1 hro=>⟨fun h=>by
   by_cases e:i=s
   ·subst e;rw[gss oG]at h;cases h
   ·rw[gse e]at h;exact(hS0 h).trans (hs0 e),hSX.trans hsX,fun h=>by
   by_cases e:i=s
   ·exact hs1 e
   ·rw[gse e]at h;exact hP1 _ _ (hPP h) (hs0 e),hau f f' v hag,fun t h=>by rw[gse oG];exact ht t h,fun j hj hl'=>by
   by_cases a4:i=j
   ·subst a4;rw[hus];exact hr1
   ·rw[huo _ _ j hj a4]
    rw[gse a4]at hl'
    exact hro j _ (Ne.symm a4) (hR j hj hl')⟩
  by_cases e:i=s
  ·subst e
   have h1:=a2 o ho f' w' (hS0 hn) hag hdR;unfold OS at h1 ⊢;exact fun K Q' hK=>h1 K Q' (fun v w'' ⟨h1,h2,h3,h4⟩=>hK v w'' (nx v w'' (fun h=>absurd rfl h) h1 (fun _=>h3) h2 h4))
  ·have h1:=step i o a5 e ho f' w' hSX hag hdR
   unfold OS at h1 ⊢;exact fun K Q' hK=>h1 K Q' (fun v w'' ⟨h1,h2⟩=>hK v w'' (nx v w'' (fun _=>h1) (h1.weak (by simp)) (fun h=>absurd h e) h2 (fun k v _ hk=>hst k v _ _ hk h1)))
theorem J1(m:Nat)(S:List Nat)(X:List Nat)(s:Nat)(R:Nat->Value->World->Prop)(P1:World->Prop)(hm:P.follows .mixedOrders=true)(hB:Iz l m S=true)
  (hst:∀ i v w1 w2,R i v w1->Same [] w1 w2->R i v w2) (hP1:∀ w1 w2,P1 w1->Same [] w1 w2->P1 w2)
  (step:∀ i o,i<m->i≠s->l[i]? =some o->∀ g w',Same X w w'->(∀ j∈vk o,R j (g (y5 l.toArray j)) w')->OS P n (ovr S g f) w' o (fun v w''=>Same [] w' w''/\R i v w''))
  (a1:∀ o,l[s]? =some o->∀ g w',Same [] w w'->(∀ j∈vk o,R j (g (y5 l.toArray j)) w')->OS P n (ovr S g f) w' o (fun v w''=>Same X w' w''/\R s v w''/\P1 w''/\∀ k v,k≠s->R k v w'->R k v w''))
  (hsm:s<m)
  (fin:∀ g w',Same X w w'->P1 w'->(∀ i,i<m->R i (g (y5 l.toArray i)) w')->WL P l.toArray Q (l.drop m) n (ovr S g f) w'):WC P (.region id l.toArray true) Q n f w:=by
 refine c_monoS m S X s R P1 hm hB hst hP1 (fun i o hi hne ho f' w' hs a2 hd=>?_) (fun o ho f' w' hs a2 hd=>?_) hsm (fun f' w' hs hp a2 hR=>?_)
 ·have:=step i o hi hne ho f' w' hs hd
  rwa[<- o7 a2]at this
 ·have:=a1 o ho f' w' hs hd
  rwa[<- o7 a2]at this
 ·have:=fin f' w' hs hp hR
  rwa[<- o7 a2]at this
def QA(P:Program)(l:List Oper)(fuel:Nat)(listed:Array Bool)(Q:Exit->Act->World->Prop):Exit->Act->World->Prop
 | .normal,a,w=>wpAny P .any l.toArray Q fuel listed a w
 | e,a,w=>Q e a w
def WA(P:Program)(l:List Oper)(Q:Exit->Act->World->Prop)(fuel:Nat)(listed:Array Bool)(n:Nw)(f:Fr)(w:World):Prop:=wpAny P .any l.toArray Q fuel listed (AF n f) w
theorem wp_qa{a:Act}{K:Act->World->Prop}(h:o.wp P a w K (QA P l a1 listed Q)):o.wp P a w K Q:=by
 unfold Oper.wp at *
 generalize (execOp a.eval o).run P w=r at *
 cases r with
 | ok x w'=>cases x<;>exact h
 | halt x w'=>cases x<;>exact h
theorem e_A{listed':Array Bool}(hl:listed=listed')(h:WA P l Q a1 listed' n f w):EX (QA P l a1 listed Q) .normal n f w:=by
 subst hl;unfold EX;exact h
theorem PJ(hr:Region.ready .any l.toArray listed= [])(h:EX Q .normal n f w):WA P l Q a1 listed n f w:=by
 unfold EX at h;cases a1 with
 | zero=>exact⟨hr,h⟩
 | succ a1=>exact⟨fun _=>h,fun i hi=>by rw[hr]at hi;cases hi⟩
def AllI(l:List Oper)(p:Nat->Oper->Prop):List Nat->Prop
 | []=>True
 | i::is=>(∀ o,l[i]? =some o->p i o)/\AllI l p is
theorem AllI.get{l:List Oper}{p:Nat->Oper->Prop}:∀ {is:List Nat},AllI l p is->∀ i∈is,∀ o,l[i]? =some o->p i o
 | [],_,i,hi,_,_=>by cases hi
 | j::is,h,i,hi,o,ho=>by
  rcases ax.1 hi with rfl|hi
  ·exact h.1 o ho
  ·exact AllI.get h.2 i hi o ho
theorem X2(is:List Nat)(hr:Region.ready .any l.toArray listed=is)(hne:is.isEmpty=false)(h:AllI l (fun i o=>WL P l.toArray (QA P l a1 (listed.setIfInBounds i true) Q) [o] n f w) is):WA P l Q (a1+1) listed n f w:=by
 unfold WA;refine⟨fun h0=>?_,fun i hi=>?_⟩
 ·rw[hr]at h0;subst h0;cases hne
 ·rw[hr]at hi
  unfold wpOp;cases ho:(l.toArray)[i]? with
  | none=>
   exfalso
   rw[<- hr]at hi;obtain⟨o,h1,_⟩:=oJ listed i hi;rw[List.getElem?_toArray,h1]at ho;cases ho
  | some o=>
   have hw:=h.get i hi o (by simpa using ho);unfold WL wpList at hw;by_cases a2:Region.wanted o (yielded l.toArray (AF n f).tmps)=true
   ·simp only[a2,if_true]at hw ⊢
    rcases hw with hw|hw
    ·exact .inl (wp_qa hw)
    ·exact .inr hw
   ·rw[if_neg a2]at hw
    simp only[a2];exact hw
theorem Zy{a1:Array Oper}{dst:Option Nat}{ty:TypeId}{pos:String}{af:Array Edge}{t:Nat}{b c:Bool}(hj:(a1[j]?).bind (·.dst)=some t)(hv:ev n f (.tmp t)= .bool c):Region.wanted ⟨dst,op,ty,pos,af,some (j,b)⟩ (yielded a1 (AF n f).tmps)=(c==b):=by
 simp[Region.wanted,XJ a1 n f j t c hj hv]
theorem vV{a1:Array Oper}{dst:Option Nat}{ty:TypeId}{pos:String}{af:Array Edge}{b:Bool}{A B:Prop}(t:Nat)(c:Bool)(hj:(a1[j]?).bind (·.dst)=some t)(hv:ev n f (.tmp t)= .bool c)(h1:c=b->A)(h2:c= !b->B):
  (Region.wanted ⟨dst,op,ty,pos,af,some (j,b)⟩ (yielded a1 (AF n f).tmps)=true->A)/\(Region.wanted ⟨dst,op,ty,pos,af,some (j,b)⟩ (yielded a1 (AF n f).tmps)=false->B):=by
 rw[Zy hj hv];refine⟨fun h=>h1 (by simpa using h),fun h=>h2 ?_⟩;cases c<;>cases b<;>simp_all
end mono
section more
variable {P:Program} {Q:Exit->Act->World->Prop} {n:Nw} {f:Fr} {w w':World} {ops:Array Oper} {rest:List Oper} {d:Nat} {ty:TypeId} {pos:String} {af:Array Edge} {v:Value}
def Own(w:World)(base:Nat)(e:TypeId)(sz:Nat)(A:Option Addr)(k cap:Nat)(xs:List Value):Prop:=w.ownsRow base e sz (.slice A k cap) k xs
def aL:Option Addr->List Nat
 | some a=>[a.block]
 | none=>[]
theorem Own.nil(w:World)(base:Nat)(e:TypeId)(sz:Nat):Own w base e sz none 0 0 []:=World.ownsRow_nil w base e sz
section own
variable {base:Nat} {e:TypeId} {sz:Nat} {A:Option Addr} {k cap:Nat} {xs:List Value}
theorem Own.lt(h:Own w base e sz A k cap xs):∀ g∈aL A,base<=g/\g<w.heap.size:=fun g hg=>by
 cases A with
 | none=>cases hg
 | some a=>
  refine World.ownsRow.lt h g ?_
  simp only[aL,List.mem_singleton]at hg
  subst hg;rfl
theorem Own.ob(h:Own w base e sz A k cap xs)(hr:w.heap.size<=b):∀ g∈aL A,g<b:=fun g hg=>nLL (h.lt g hg).2 hr
theorem Own.tr{X:List Nat}(h:Own w base e sz A k cap xs)(hs:Same X w w')(hx:∀ g∈aL A,g∉X):Own w' base e sz A k cap xs:=by
 refine⟨h.1,?_⟩;rcases h.2 with hn|⟨g,c,cur,hv,hb,hg,r⟩
 ·exact .inl hn
 ·refine .inr ⟨g,c,cur,hv,hb,?_,r⟩
  rw[hs.blk g (uv hg) (hx g (by cases hv;simp[aL]))];exact hg
theorem Own.tr0(h:Own w base e sz A k cap xs)(hs:Same [] w w'):Own w' base e sz A k cap xs:=h.tr hs (by simp)
theorem Own.tr1(h:Own w base e sz A k cap xs)(hs:Same [b] w w')(hx:∀ g∈aL A,g≠b):Own w' base e sz A k cap xs:=h.tr hs (fun g hg=>by simpa using hx g hg)
theorem Own.cB(h:Own w base e sz A k cap xs)(hs:Same [b] w w')(hx:∀ g∈aL A,g≠b:=by intro g hg;first|(have:=(Own.lt (by assumption) g hg).1;omega)|exact(by assumption:∀ g∈aL _,g≠_) g hg|exact Nat.ne_of_lt ((by assumption:∀ g∈aL _,g<_) g hg)|(have:=(Own.lt (by assumption) g hg).1;have:=(by assumption:∀ g∈aL _,g≠_) g hg;omega)):Own w' base e sz A k cap xs:=h.tr1 hs hx
theorem zV{a:Nat}(h:a<=w.heap.size){X:List Nat}(hs:Same X w w'):a<=w'.heap.size:=nLT h (Same.size hs)
theorem Own.len(h:Own w base e sz A k cap xs):xs.length=k*sz:=h.1
theorem Own.max(h:Own w base e sz A k cap xs):k<=9223372036854775807:=by
 rcases h.2 with ⟨_,hn⟩|⟨g,c,cur,hv,hb,hg,hk,hm,r⟩
 ·omega
 ·simp only[maxLen]at hm;omega
theorem Own.cap_le(h:Own w base e sz A k cap xs):k<=cap:=by
 rcases h.2 with ⟨hv,hn⟩|⟨g,c,cur,hv,hb,hg,hk,hm,r⟩
 ·cases hv;omega
 ·cases hv;exact hk
theorem Own.cell(h:Own w base e sz A k cap xs):xs≠[]->∃ g,A=some ⟨g,0,none⟩/\base<=g/\g<w.heap.size/\∀ j u,xs[j]? =some u->w.cell? ⟨g,j,none⟩=some u:=fun hne=>by
 rcases h.2 with ⟨_,hn⟩|⟨g,c,cur,hv,hb,hg,_⟩
 ·have h1:=h.1
  rw[hn,Nat.zero_mul]at h1
  exact absurd (aK.1 h1) hne
 ·cases hv
  refine⟨g,rfl,hb,uv hg,fun j u hu=>?_⟩
  have:=World.ownsRow.cells h (g:=g) rfl j u hu
  have a1:(⟨g,0,none⟩:Addr).add j=⟨g,j,none⟩:=by unfold Addr.add;split<;>simp_all
  rwa[a1]at this
theorem Own.take{k':Nat}(h:Own w base e sz A k cap xs)(hk:k'<=k)(hn:0<k):Own w base e sz A k' cap (xs.take (k'*sz)):=by
 rcases h.2 with ⟨_,h0⟩|⟨g,c,cur,hv,hb,hg,hkc,hm,hs,ht⟩
 ·omega
 ·cases hv
  have hle:k'*sz<=k*sz:=aV sz hk;refine⟨by rw[List.length_take,h.1];omega,.inr ⟨g,cap,cur,rfl,hb,hg,by omega,hm,hs,?_⟩⟩;rw[<- ht,List.take_take,Nat.min_eq_left hle]
theorem YK(h:Blk w b e cs)(hb:base<=b)(hs:cs.size=m*sz)(hm:m<=9223372036854775807):Own w base e sz (some ⟨b,0,none⟩) m m cs.toList:=by
 refine⟨by rw[Array.length_toList,hs],.inr ⟨b,m,cs,rfl,hb,h,ah _,by simpa[maxLen]using hm,hs,?_⟩⟩;rw[List.take_of_length_le (by rw[Array.length_toList,hs];exact Nat.le_refl _)]
theorem Own.low(h:Own w base e sz A k cap xs)(hb:a1<=base):Own w a1 e sz A k cap xs:=by
 refine⟨h.1,?_⟩;rcases h.2 with hn|⟨g,c,cur,hv,hbb,r⟩
 ·exact .inl hn
 ·exact .inr ⟨g,c,cur,hv,nLT hb hbb,r⟩
theorem MW{A:Option Addr}{k cap:Nat}(h:w.grownBy w' (Value.ownBlock (.slice A k cap))):Same (aL A) w w':=by
 refine⟨h.os,h.tape,h.output,h.size,fun j hj hx=>h.block j hj (fun e=>hx ?_)⟩;cases A with
 | none=>cases e
 | some a=>simp only[Value.ownBlock,Option.some.injEq]at e;subst e;simp[aL]
theorem run_app{a9:Nat}(hu:P.underlying t=some (.slice e))(hi:(P.info? e).map (fun i=>(i.zero,i.size,i.bytes))=some (some zv,sz,a9))(hzs:zv.cells.size=sz)(hsz:0<sz)
  (a5:Own w base e sz A k cap xs) (hb:Blk w b e cs) (hl:cs.size=m*sz) (h1:cs.toList.all (·.oneCell')=true) (hm:0<m) (h63:k+m<=9223372036854775807) (a2:(k+m)*a9<=140737488355328) (a3:base<=w.heap.size):
  ∃ g a1 w1,(Builtin.append_ #[t,t] ty #[.slice A k cap,.slice (some ⟨b,0,none⟩) m c]).run P w= .ok (.slice (some ⟨g,0,none⟩) (k+m) a1) w1/\Own w1 base e sz (some ⟨g,0,none⟩) (k+m) a1 (xs++cs.toList)/\Same (aL A) w w1/\(aL A= [g]\/w.heap.size<=g):=by
 obtain⟨i,hq,a4⟩:=aT.1 hi;simp only[Prod.mk.injEq]at a4;obtain⟨g,a1,w1,hr,h2,h3,h4,h5⟩:=run_append_lies (P:=P) w t ty base e i zv sz a9 hu hq a4.1 a4.2.1 a4.2.2 hzs hsz _ k xs a5 ⟨b,0,none⟩ m c cs.toList (by simpa using hl) (World.news_of_block hb) (aC.1 h1) hm h63 a2 a3 _ rfl;refine⟨g,a1,w1,hr,h2,MW h3,?_⟩;rcases h4 with h4|h4
 ·left
  cases A with
  | none=>cases h4
  | some a=>simp only[Value.ownBlock,Option.some.injEq]at h4;subst h4;rfl
 ·right;omega
theorem j7{by':Nat}(hu:P.underlying t=some (.slice e))(hi:(P.info? e).map (fun i=>(i.zero,i.size,i.bytes))=some (some zv,sz,by'))(hzs:zv.cells.size=sz)(hsz:0<sz)
  (a4:Own w base e sz A k cap xs) (hb:Blk w b e cs) (hx:ev n f x= .slice A k cap) (hy:ev n f y= .slice (some ⟨b,0,none⟩) m c) (hl:cs.size=m*sz) (h1:cs.toList.all (·.oneCell')=true) (hm:0<m) (h63:k+m<=9223372036854775807) (a2:(k+m)*by'<=140737488355328) (a3:base<=w.heap.size)
  (K:∀ g a1 w1,Own w1 base e sz (some ⟨g,0,none⟩) (k+m) a1 (xs++cs.toList)->Same (aL A) w w1->(aL A= [g]\/w.heap.size<=g)->WL P ops Q rest n (upd f d (.slice (some ⟨g,0,none⟩) (k+m) a1)) w1):
  WL P ops Q (⟨some d,.call { callee:= .builtin .append,args:=#[x,y],argTypes:=#[t,t] },ty,pos,af,none⟩::rest) n f w:=by
 obtain⟨g,a1,w1,hr,h2,h3,h4⟩:=run_app (P:=P) (ty:=ty) (c:=c) hu hi hzs hsz a4 hb hl h1 hm h63 a2 a3;refine wl (v:= .slice (some ⟨g,0,none⟩) (k+m) a1) (w':=w1) ?_ (K g a1 w1 h2 h3 h4);simp only[RV,execOp,resolve,invoke,builtin,Sem.run_bind,Sem.run_pure,Result.andThen_ok,List.map_toArray,List.map_cons,List.map_nil,hx,hy,hr]
end own
theorem Lq{dst:Option Tmp}{gd:Option (Nat×Bool)}{t':TypeId}(hu:P.underlying t=some (.slice e))(hx:ev n f x= .slice A k c)(hy:ev n f y= .slice none 0 0):
  RV P n f w ⟨dst,.binOp .eql t x y t',ty,pos,af,gd⟩ (.bool A.isNone) w:=by
 have h:(Op.equalIn Op.maxDepth t (.slice A k c) (.slice none 0 0)).run P w= .ok A.isNone w:=Lib.run_equalIn_slice_nil w 9999 t e A k c 0 0 hu;simp only[RV,execOp,hx,hy,eqGuard,binOp];simp[Op.equal,h]
theorem wl_bs0(hu:P.underlying t=some (.slice e))(hs:(P.info? e).map (·.size)=some sz)
  (K:∀ b w1,Blk w1 b e #[]->Same [] w w1->w.heap.size<=b->WL P ops Q rest n (upd f d (.slice (some ⟨b,0,none⟩) 0 0)) w1):
  WL P ops Q (⟨some d,.buildSlice t 0 #[],ty,pos,af,none⟩::rest) n f w:=by
 refine wl (v:= .slice (some ⟨w.heap.size,0,none⟩) 0 0) (w':=w.alloc (.cells #[] e)) ?_ (K _ _ (heap_alloc_new w _) (uJ w _) (ah _));cases hq:P.info? e with
 | none=>simp[hq]at hs
 | some i=>
  unfold RV execOp Instr.buildSlice;have h0:¬(0:Nat)>2^24:=by decide
  have hr0:∀(f:Nat->Value),(Array.range 0).map f= #[]:=fun f=>by simp
  simp only[Sem.run_bind,run_underlying hu,Result.andThen_ok,sizeOf,typeInfo,run_program,hq,Sem.run_pure,Nat.zero_mul,h0,if_false,if_true,hr0,Instr.fill,List.map_toArray,List.map_nil,newRow,run_newObj];rfl
theorem wl_appC{a9 o':Nat}{news:List Value}(hu:P.underlying t=some (.slice e))(hi:(P.info? e).map (fun i=>(i.zero,i.size,i.bytes))=some (some zv,sz,a9))(hzs:zv.cells.size=sz)(hsz:0<sz)
  (a5:Own w base e sz A k cap xs) (hx:ev n f x= .slice A k cap) (hy:ev n f y= .slice (some ⟨b,o',none⟩) m c) (hn:∀ j u,news[j]? =some u->w.cell? ⟨b,o'+j,none⟩=some u) (hl:news.length=m*sz) (h1:news.all (·.oneCell')=true) (hm:0<m) (h63:k+m<=9223372036854775807) (a2:(k+m)*a9<=140737488355328) (a3:base<=w.heap.size)
  (K:∀ g a1 w1,Own w1 base e sz (some ⟨g,0,none⟩) (k+m) a1 (xs++news)->Same (aL A) w w1->(aL A= [g]\/w.heap.size<=g)->WL P ops Q rest n (upd f d (.slice (some ⟨g,0,none⟩) (k+m) a1)) w1):
  WL P ops Q (⟨some d,.call { callee:= .builtin .append,args:=#[x,y],argTypes:=#[t,t] },ty,pos,af,none⟩::rest) n f w:=by
 obtain⟨i,hq,a4⟩:=aT.1 hi;simp only[Prod.mk.injEq]at a4;obtain⟨g,a1,w1,hr,h2,h3,h4,h5⟩:=run_append_lies (P:=P) w t ty base e i zv sz a9 hu hq a4.1 a4.2.1 a4.2.2 hzs hsz _ k xs a5 ⟨b,o',none⟩ m c news hl (fun j u hj=>by rw[Addr.add_mid];exact hn j u hj) (aC.1 h1) hm h63 a2 a3 _ rfl;refine wl (v:= .slice (some ⟨g,0,none⟩) (k+m) a1) (w':=w1) ?_ (K g a1 w1 h2 (MW h3) ?_)
 ·simp only[RV,execOp,resolve,invoke,builtin,Sem.run_bind,Sem.run_pure,Result.andThen_ok,List.map_toArray,List.map_cons,List.map_nil,hx,hy,hr]
 ·rcases h4 with h4|h4
  ·left
   cases A with
   | none=>cases h4
   | some a=>simp only[Value.ownBlock,Option.some.injEq]at h4;subst h4;rfl
  ·right;omega
theorem wl_gd{dst:Option Nat}(t:Nat){b:Bool}(hj:(ops[j]?).bind (·.dst)=some t)(hv:ev n f (.tmp t)= .bool b)(K:WL P ops Q (⟨dst,op,ty,pos,af,none⟩::rest) n f w):WL P ops Q (⟨dst,op,ty,pos,af,some (j,b)⟩::rest) n f w:=by
 unfold WL wpList at K ⊢;have hy:=XJ ops n f j t b hj hv;have hw:Region.wanted ⟨dst,op,ty,pos,af,some (j,b)⟩ (yielded ops (AF n f).tmps)=true:=by simp[Region.wanted,hy]
 have hw0:Region.wanted ⟨dst,op,ty,pos,af,none⟩ (yielded ops (AF n f).tmps)=true:=rfl;rw[if_pos hw0]at K;rw[if_pos hw];exact K
theorem r_mf{dst:Option Tmp}{gd:Option (Nat×Bool)}{F:FuncId}{a1:Array Operand}{cv:List Value}(hc:a1.toList.map (ev n f)=cv):RV P n f w ⟨dst,.makeFunc (.func F) #[] a1,ty,pos,af,gd⟩ (.func (.func F) #[] cv.toArray) w:=by
 subst hc;have hm:(a1.toList.map (ev n f)).toArray=a1.map (ev n f):=by rw[<- Array.toList_map,Array.toArray_toList]
 rw[hm];simp[RV,execOp,Instr.makeFunc]
theorem yy{F:FuncId}{xs:Array Operand}{ats:Array TypeId}{args:List Value}{cv:Array Value}{all:Array Value}{R:Ending->World->Prop}{dst:Option Nat}(hf:ev n f x= .func (.func F) #[] cv)(hF:zK P F=true)(hc:Calls P F all w R)(a1:xs.toList.map (ev n f)=args)(a3:(args++cv.toList).toArray=all)
  (K:∀ e' w1,R e' w1->∃ v,e'= .returned v/\WL P ops Q rest n (ZY f dst v) w1):
  WL P ops Q (⟨dst,.call { callee:= .value x,args:=xs,argTypes:=ats },ty,pos,af,none⟩::rest) n f w:=by
 subst a3;unfold WL;refine wpList_plain rfl fun K' hK=>?_
 unfold Oper.wp;rw[jX];have a2:(execOp (ev n f) ⟨dst,.call { callee:= .value x,args:=xs,argTypes:=ats },ty,pos,af,none⟩).run P w= .ok (.enter F (args++cv.toList).toArray) w:=by
  subst a1;have hm:(xs.toList.map (ev n f)).toArray=xs.map (ev n f):=by rw[<- Array.toList_map,Array.toArray_toList]
  have hm2:(xs.toList.map (ev n f)++cv.toList).toArray=xs.map (ev n f)++cv:=by rw[<- hm];simp
  rw[hm2];simp[execOp,resolve,hf,Deferred.ofValue,invoke,X7 hF]
 rw[a2,Oper.upon_enter];refine hc.mono fun e' w1 hR=>?_
 obtain⟨v,rfl,hk⟩:=K e' w1 hR;unfold WL at hk;exact hK _ _ (by rw[E4];exact hk)
section pure2
variable {dst:Option Tmp} {gd:Option (Nat×Bool)} {x y:Operand} {t:TypeId}
theorem Vy{off:Nat}{dd:TypeDesc}(hu:P.underlying t=some dd)(hd:dd.isRow=false)(hc:cs[off]? =some v):(part t cs off).run P w= .ok v w:=by
 have a1:(isAgg t).run P w= .ok false w:=by
  unfold isAgg;rw[Sem.run_bind,run_underlying hu w];cases dd<;>simp_all
 simp[part,a1,hc]
theorem CX{fs:Array Field}{fl:Field}{dd:TypeDesc}(hu:P.underlying t=some (.struct fs))(hf:fs[i]? =some fl)(hu1:P.underlying fl.type=some dd)(hd:dd.isRow=false)(hx:ev n f x= .agg cs)(hc:cs[fl.offset]? =some v):
  RV P n f w ⟨dst,.field t x i,ty,pos,af,gd⟩ v w:=by
 have:=Vy (P:=P) (w:=w) hu1 hd hc;simp[RV,execOp,Instr.field,run_underlying hu,hf,hx,asAgg,this]
theorem run_eqF{b c:Int}(ht:P.underlying t=some (.struct (P.fieldsOf t)))(hs:P.stoodInHeld t=false)(hf:(P.fieldsOf t).toList.map (fun f=>(f.name == "_",f.type,f.offset))= [(false,ti,0),(false,ti,1)])(hi:P.underlying ti=some (.int .i64)):
  (Op.equalIn 10000 t (.agg #[.int .i64 a,.int .i64 b]) (.agg #[.int .i64 c,.int .i64 d'])).run P w= .ok (decide (a=c)&&decide (b=d')) w:=by
 rw[run_equalIn_agg w 9999 t _ _ ht hs]
 generalize (P.fieldsOf t).toList=fs at hf
 obtain⟨f0,f1,rfl⟩:∃ f0 f1,fs= [f0,f1]:=by
  have hl:=congrArg List.length hf;simp only[List.length_map,List.length_cons,List.length_nil]at hl;cases fs with
  | nil=>cases hl
  | cons f0 fs=>
   cases fs with
   | nil=>cases hl
   | cons f1 fs=>
    cases fs with
    | nil=>exact⟨f0,f1,rfl⟩
    | cons _ _=>simp at hl
 ·skip
  simp only[List.map_cons,List.map_nil,List.cons.injEq,Prod.mk.injEq,and_true,beq_eq_false_iff_ne]at hf;obtain⟨⟨h1,h2,h3⟩,h4,h5,h6⟩:=hf;have p1:(part f0.type #[.int .i64 a,.int .i64 b] f0.offset).run P w= .ok (.int .i64 a) w:=by rw[h2,h3];exact Vy hi rfl rfl
  have p2:(part f0.type #[.int .i64 c,.int .i64 d'] f0.offset).run P w= .ok (.int .i64 c) w:=by rw[h2,h3];exact Vy hi rfl rfl
  have p3:(part f1.type #[.int .i64 a,.int .i64 b] f1.offset).run P w= .ok (.int .i64 b) w:=by rw[h5,h6];exact Vy hi rfl rfl
  have p4:(part f1.type #[.int .i64 c,.int .i64 d'] f1.offset).run P w= .ok (.int .i64 d') w:=by rw[h5,h6];exact Vy hi rfl rfl
  have e1:=run_equalIn_int (P:=P) w 9998 f0.type .i64 .i64 a c (by rw[h2];exact hi);have e2:=run_equalIn_int (P:=P) w 9998 f1.type .i64 .i64 b d' (by rw[h5];exact hi);simp only[Op.eqFields,h1,h4,ne_eq,not_false_eq_true,if_true,Sem.run_bind,p1,p2,Result.andThen_ok,e1];by_cases hac:a=c
  ·subst hac
   simp only[beq_self_eq_true,Bool.not_true,Bool.false_eq_true,if_false,Sem.run_bind,p3,p4,Result.andThen_ok,e2];by_cases hbd:b=d'
   ·simp[hbd,Sem.run_pure]
   ·simp[hbd,Sem.run_pure]
  ·simp[hac,Sem.run_pure]
theorem r_eqF{b c:Int}(hm:P.eqGuardType P.depth t=false)(ht:P.underlying t=some (.struct (P.fieldsOf t)))(hs:P.stoodInHeld t=false)(hf:(P.fieldsOf t).toList.map (fun f=>(f.name == "_",f.type,f.offset))= [(false,ti,0),(false,ti,1)])(hi:P.underlying ti=some (.int .i64))
  (hx:ev n f x= .agg #[.int .i64 a,.int .i64 b]) (hy:ev n f y= .agg #[.int .i64 c,.int .i64 d']) {t':TypeId}:RV P n f w ⟨dst,.binOp .eql t x y t',ty,pos,af,gd⟩ (.bool (decide (a=c/\b=d'))) w:=by
 have h1:=run_eqF (P:=P) (w:=w) (a:=a) (b:=b) (c:=c) (d':=d') ht hs hf hi;have h2:=run_eqGuard_agg (P:=P) w .eql t x y #[.int .i64 a,.int .i64 b] #[.int .i64 c,.int .i64 d'] hm;simp only[RV,execOp,hx,hy,Sem.run_bind,h2,Result.andThen_ok,run_eql_struct,h1,Sem.run_pure,Bool.decide_and]
theorem r_neF{b c:Int}(hm:P.eqGuardType P.depth t=false)(ht:P.underlying t=some (.struct (P.fieldsOf t)))(hs:P.stoodInHeld t=false)(hf:(P.fieldsOf t).toList.map (fun f=>(f.name == "_",f.type,f.offset))= [(false,ti,0),(false,ti,1)])(hi:P.underlying ti=some (.int .i64))
  (hx:ev n f x= .agg #[.int .i64 a,.int .i64 b]) (hy:ev n f y= .agg #[.int .i64 c,.int .i64 d']) {t':TypeId}:RV P n f w ⟨dst,.binOp .neq t x y t',ty,pos,af,gd⟩ (.bool (decide (¬(a=c/\b=d')))) w:=by
 have h1:=run_eqF (P:=P) (w:=w) (a:=a) (b:=b) (c:=c) (d':=d') ht hs hf hi;have h2:=run_eqGuard_agg (P:=P) w .neq t x y #[.int .i64 a,.int .i64 b] #[.int .i64 c,.int .i64 d'] hm;simp only[RV,execOp,hx,hy,Sem.run_bind,h2,Result.andThen_ok,run_neq_struct,h1,Sem.run_pure,Bool.decide_and,decide_not]
end pure2
end more
theorem one_cons{x:Value}{l:List Value}(h:x.oneCell'=true)(t:l.all (·.oneCell')=true):(x::l).all (·.oneCell')=true:=by simp[h,t]
theorem qz{P:Prop}(h:P:=by repeat (first|rfl|refine one_cons (by first|rfl|assumption) ?_)):P:=h
def x5(v:Value)(i:Nat):Value:=match v with
 | .agg cs=>cs.toList.getD i (.slice none 0 0)
 | _=> .slice none 0 0
theorem ag_kn{g f:Fr}{t:Nat}{v:Value}(h:f t=v)(ha:Ag S g f):Ag S (upd g t v) f:=by
 intro x hx;simp only[upd];cases hb:Nat.beq x t
 ·exact ha x hx
 ·have:x=t:=aR hb
  subst this;exact h.symm
theorem agA{f:Fr}(h:Ag S f' f:=by repeat (first|exact Xk|exact ag_ovr'|refine OW rfl ?_|refine ag_sub rfl ?_|refine ag_kn (by assumption) ?_)):Ag S f' f:=h
theorem clA{a b:Bool}(h:Value.bool a=Value.bool b:=by first|exact ae (ai oG).symm|exact ae (ap oG).symm|exact ae (aj.2 oG)|exact ae ((decide_not).symm.trans (aj.2 oG))):Value.bool a=Value.bool b:=h
def ob(c:Option Code):Code:=match c with
 | some c=>c
 | none=> .skip
def sl(c:Code):Code:=match c with
 | .seq a _=>a
 | c=>c
def sr(c:Code):Code:=match c with
 | .seq _ b=>b
 | c=>c
attribute [irreducible] WA
theorem neA(ho:Own w base e sz A k cap xs)(hb:b<w.heap.size)(hg:aL A=[g]\/w.heap.size<=g)(h:b<base:=by omega):g≠b:=fun e=>by
 rcases hg with hg|hg
 ·have:=(ho.lt g (by rw[hg];exact aq.2 rfl)).1;omega
 ·omega
theorem neB(hb:b<w.heap.size)(hg:aL A=[g]\/w.heap.size<=g)(h:∀ g∈aL A,g≠b):g≠b:=fun e=>by
 rcases hg with hg|hg
 ·exact h g (by rw[hg];exact aq.2 rfl) e
 ·omega
theorem neL(h:∀ g∈aL A,g<b):∀ g∈aL A,g≠b:=fun g hg=>Nat.ne_of_lt (h g hg)
theorem Own.tq(ho:Own w base e sz A k cap xs)(hs:Same [b] w w')(h:b<base:=by omega):Own w' base e sz A k cap xs:=ho.tr1 hs (fun g hg=>by have:=(ho.lt g hg).1;omega)
theorem neS(h:g≠b:=by omega):∀ x∈aL (some (⟨g,0,none⟩:Addr)),x≠b:=fun x hx=>by rw[List.mem_singleton.1 hx];exact h
theorem Blk.ta{t:Nat}(hb:Blk w b t cs)(hs:Same (aL A) w w')(ho:Own w base e sz A k cap xs)(h:b<base:=by omega):Blk w' b t cs:=hb.tr hs (fun hx=>by have:=(ho.lt _ hx).1;omega)
theorem Blk.tb{t:Nat}(hb:Blk w b t cs)(hs:Same (aL A) w w')(h:∀ g∈aL A,g≠b):Blk w' b t cs:=hb.tr hs (fun hx=>h _ hx rfl)
theorem MapS.ta{m:List (ByteArray×Value)}(hb:MapS w b m)(hs:Same (aL A) w w')(ho:Own w base e sz A k cap xs)(h:b<base:=by omega):MapS w' b m:=hb.tr hs (fun hx=>by have:=(ho.lt _ hx).1;omega)
theorem MapS.tb{m:List (ByteArray×Value)}(hb:MapS w b m)(hs:Same (aL A) w w')(h:∀ g∈aL A,g≠b):MapS w' b m:=hb.tr hs (fun hx=>h _ hx rfl)
end Go.Proofs.YtgcgnkmmbecfmaaGreatDoor
