/- Plain laws, and steps of programs, at every world. -/
import Derived.Test.YtndbjnkilegebaaGreatDoorEng2
import Derived.OrdersHeld
import Derived.ChangeSame
import Derived.ChangeArms
import Derived.Clock
import Derived.Carry
import Derived.OpenShut
import Derived.Deep.Slices
import Derived.Deep.Strs
import Derived.Lib.SmallJoins
import Derived.Test.YtndbjnkilegebaaGreatDoorU
import Derived.Test.YtndbjnkilegebaaGreatDoorProg
namespace Go.Proofs.YtndbjnkilegebaaGreatDoor
open Go.RowKit Go.ChangeShapes Go.WideShapes Go.Deep Go.Joins Go.Proofs.Tryz
variable {A B:Prop}{a1 b i j k m n o sz:Nat}{cs:List Value}{dst:Option Tmp}{e t:TypeId}{f:Nat->Int}{v:Value}{w w' w0 w2:World}
section
section
variable {P:Program} {ops:Array Oper} {Q:Exit->Act->World->Prop} {md:Region.Mode} {S:World->Prop}
def X6(P:Program)(md:Region.Mode)(ops:Array Oper)(Q:Exit->Act->World->Prop)(S:World->Prop)(ss:List Nat):Nat->Array Bool->Act->World->Prop
 | 0,listed,a,w=>Region.ready md ops listed= []/\Q .normal a w
 | fuel+1,listed,a,w=>(Region.ready md ops listed= []->Q .normal a w)/\∀ i∈Region.ready md ops listed,wpOp P ops Q i (fun a' w'=>((∀ s∈ss,(listed.setIfInBounds i true).getD s false=false)->S w')/\X6 P md ops Q S ss fuel (listed.setIfInBounds i true) a' w') a w
theorem Cj{ss:List Nat}:∀(a1:Nat) (listed:Array Bool) (a:Act) (w:World),X6 P md ops Q S ss a1 listed a w->wpAny P md ops Q a1 listed a w
 | 0,_,_,_,h=>h
 | a1+1,_,_,_,h=>⟨h.1,fun i hi=>wpOp_mono (fun a' w' h'=>Cj a1 _ a' w' h'.2) (h.2 i hi)⟩
theorem FX{ss W:List Nat}{oi:Oper}(hi:ops[i]? =some oi)(a8:∀(j:Nat) (o:Oper) cs b,ops[j]? =some o->o.op≠ .select cs b)
  (hQ:∀ c a w,Q (.panic c) (a.put oi.dst v) w->Q (.panic c) a w) (hss:∀ s∈ss,s∈W) (hiW:i∉W)
  (hW:∀ k∈W,∃ o,ops[k]? =some o/\∃ e∈o.after,Region.binds md e=true/\(e.on=i\/e.on∈W)):
  ∀(a1:Nat) (listed:Array Bool) (a:Act) (w:World),
   (∀ j oj,ops[j]? =some oj->j≠i->listed.getD j true=false->(∀ e∈oj.after,Region.binds md e=true->e.on≠i)->oi.apart ops oj=true)->(∀ k∈W,listed.getD k false=false)->listed.getD i false=false->
   i∈Region.ready md ops listed->YieldsIf P ops S oi v a->S w->
   X6 P md ops Q S ss a1 (listed.setIfInBounds i true) (a.put oi.dst v) w->X6 P md ops Q S ss (a1+1) listed a w:=by
 intro a1
 induction a1 with
 | zero=>
  intro listed a w _ _ _ hr hy hS H;refine⟨fun h=>(by rw[h]at hr;cases hr),fun j hj=>?_⟩;by_cases a2:j=i
  ·subst a2;exact hy.wpOp hi hS ⟨fun _=>hS,H⟩
  ·have:=ready_mono hj a2
   rw[H.1]at this;cases this
 | succ a1 ih=>
  intro listed a w a3 b2 b1 hr hy hS H;refine⟨fun h=>(by rw[h]at hr;cases hr),fun j hj=>?_⟩;by_cases a2:j=i
  ·subst a2;exact hy.wpOp hi hS ⟨fun _=>hS,H⟩
  ·have h1:=H.2 j (ready_mono hj a2)
   obtain⟨a9,oj,ac,ab⟩:=mem_ready.1 hj;have ad:j∉W:=fun ad=>by
    obtain⟨o,ho,e,he,hb,h⟩:=hW j ad;rw[ac]at ho;cases ho;have h2:=ab e he hb;rcases h with h|h
    ·rw[h,b1]at h2;cases h2
    ·rw[b2 _ h]at h2;cases h2
   have ao:∀ e∈oj.after,Region.binds md e=true->e.on≠i:=fun e he hb heq=>by
    have h2:=ab e he hb;rw[heq,b1]at h2;cases h2
   have h2:=wpOp_putIf ac (a3 j oj ac a2 a9 ao) (fun cs b=>a8 i oi cs b hi) (fun cs b=>a8 j oj cs b ac) hQ hy h1;have a5:∀ k,k≠j->∀ d,(listed.setIfInBounds j true).getD k d=listed.getD k d:=fun k hk d=>getD_set_ne d (Ne.symm hk)
   have a4:∀ k ok,ops[k]? =some ok->k≠i->(listed.setIfInBounds j true).getD k true=false->
     (∀ e∈ok.after,Region.binds md e=true->e.on≠i)->oi.apart ops ok=true:=fun k ok hk hki hun hno=>by
    refine a3 k ok hk hki ?_ hno;by_cases hjk:j=k
    ·subst hjk;exact a9
    ·rw[getD_set_ne true hjk]at hun;exact hun
   have hW2:∀ k∈W,(listed.setIfInBounds j true).getD k false=false:=fun k hk=>by
    rw[a5 k (fun e=>ad (e ▸ hk))];exact b2 k hk
   refine wpOp_mono (fun a' w' h3=>?_) h2
   have hS':S w':=h3.2.1 (fun s hs=>by
    have an:=hss s hs;rw[getD_set_ne false (fun e=>ad (by rw[e];exact an)),getD_set_ne false (fun e=>hiW (by rw[e];exact an))]
    exact b2 s an)
   refine⟨fun _=>hS',ih (listed.setIfInBounds j true) a' w' a4 hW2 (by rw[a5 i (Ne.symm a2)];exact b1) (ready_mono hr (Ne.symm a2)) h3.1 hS' ?_⟩;rw[Array.setIfInBounds_comm _ _ a2];exact h3.2.2
theorem T9{ss:List Nat}{oi:Oper}(hi:ops[i]? =some oi)(a8:∀(j:Nat) (o:Oper) cs b,ops[j]? =some o->o.op≠ .select cs b)
  (hQ:∀ c a w,Q (.panic c) (a.put oi.dst v) w->Q (.panic c) a w):
  ∀(a1:Nat) (listed:Array Bool) (a:Act) (w:World),
   (∀ j oj,ops[j]? =some oj->j≠i->listed.getD j true=false->(∀ e∈oj.after,Region.binds md e=true->e.on≠i)->oi.apart ops oj=true)->listed.getD i false=false->(∀ s∈ss,s≠i)->
   i∈Region.ready md ops listed->YieldsIf P ops (fun _=>True) oi v a->((∀ s∈ss,listed.getD s false=false)->S w)->
   X6 P md ops Q S ss a1 (listed.setIfInBounds i true) (a.put oi.dst v) w->X6 P md ops Q S ss (a1+1) listed a w:=by
 intro a1
 induction a1 with
 | zero=>
  intro listed a w _ _ a5 hr hy hS H;refine⟨fun h=>(by rw[h]at hr;cases hr),fun j hj=>?_⟩;by_cases a2:j=i
  ·subst a2;exact hy.wpOp hi trivial ⟨fun h=>hS (fun s hs=>by have:=h s hs;rwa[getD_set_ne false (Ne.symm (a5 s hs))]at this),H⟩
  ·have:=ready_mono hj a2
   rw[H.1]at this;cases this
 | succ a1 ih=>
  intro listed a w a3 hil a5 hr hy hS H;refine⟨fun h=>(by rw[h]at hr;cases hr),fun j hj=>?_⟩;by_cases a2:j=i
  ·subst a2;exact hy.wpOp hi trivial ⟨fun h=>hS (fun s hs=>by have:=h s hs;rwa[getD_set_ne false (Ne.symm (a5 s hs))]at this),H⟩
  ·have h1:=H.2 j (ready_mono hj a2)
   obtain⟨a9,oj,ac,an⟩:=mem_ready.1 hj;have ad:∀ e∈oj.after,Region.binds md e=true->e.on≠i:=fun e he hb heq=>by
    have h2:=an e he hb;rw[heq,hil]at h2;cases h2
   have h2:=wpOp_putIf ac (a3 j oj ac a2 a9 ad) (fun cs b=>a8 i oi cs b hi) (fun cs b=>a8 j oj cs b ac) hQ hy h1;have ab:∀ k,k≠j->∀ d,(listed.setIfInBounds j true).getD k d=listed.getD k d:=fun k hk d=>getD_set_ne d (Ne.symm hk)
   have a4:∀ k ok,ops[k]? =some ok->k≠i->(listed.setIfInBounds j true).getD k true=false->
     (∀ e∈ok.after,Region.binds md e=true->e.on≠i)->oi.apart ops ok=true:=fun k ok hk hki hun hno=>by
    refine a3 k ok hk hki ?_ hno;by_cases hjk:j=k
    ·subst hjk;exact a9
    ·rw[getD_set_ne true hjk]at hun;exact hun
   refine wpOp_mono (fun a' w' h3=>?_) h2
   have hS':(∀ s∈ss,(listed.setIfInBounds j true).getD s false=false)->S w':=fun h=>h3.2.1 (fun s hs=>by
    rw[Array.setIfInBounds_comm _ _ (Ne.symm a2),getD_set_ne false (Ne.symm (a5 s hs))];exact h s hs)
   refine⟨hS',ih (listed.setIfInBounds j true) a' w' a4 (by rw[ab i (Ne.symm a2)];exact hil) a5 (ready_mono hr (Ne.symm a2)) h3.1 hS' ?_⟩;rw[Array.setIfInBounds_comm _ _ a2];exact h3.2.2
end
section held
variable {P:Program} {Q:Exit->Act->World->Prop} {n:Nw} {f:Fr} {w:World} {l:List Oper} {X ss ds is:List Nat}
def mk(m:Nat):List Nat->Array Bool
 | []=>Array.replicate m false
 | i::is=>(mk m is).setIfInBounds i true
def PQ(Q:Exit->Act->World->Prop):Prop:=∀(d:Option Tmp) v c a w,Q (.panic c) (Act.put a d v) w->Q (.panic c) a w
def wtL(l:List Oper)(i:Nat):List Nat:=(List.range l.length).foldl (fun acc k=>bif (match l[k]? with|some o=>o.after.any (fun e=>Region.binds .any e&&(Nat.beq e.on i||acc.contains e.on))|none=>false)then k::acc else acc) []
def wtB(l:List Oper)(ss:List Nat)(listed:Array Bool)(W:List Nat)(i:Nat):Bool:=ss.all W.contains&&(!W.contains i&&(W.all (fun k=>!listed.getD k false)&&W.all (fun k=>match l[k]? with|some o=>o.after.any (fun e=>Region.binds .any e&&(e.on==i||W.contains e.on))|none=>false)))
def HX(l:List Oper)(i:Nat):Bool:=match l[i]? with|some o=>(match o.op with | .load _ _=>true|_=>false)|none=>true
def wtO(l:List Oper)(ss ds:List Nat)(i:Nat):Bool:=ss.isEmpty||(wtB l ss (mk l.length ds) (wtL l i) i||(!HX l i&&ss.all (fun s=>!Nat.beq s i)))
def okL(l:List Oper)(ss:List Nat):List Nat->List Nat->Bool
 | ds,[]=>(Region.ready .any l.toArray (mk l.length ds)).isEmpty
 | ds,i::is=>((Region.free .any l.toArray (mk l.length ds) i&&((Region.ready .any l.toArray (mk l.length ds)).contains i&&wtO l ss ds i))||(Region.ready .any l.toArray (mk l.length ds)==[i]))&&okL l ss (i::ds) is
def HL(P:Program)(l:List Oper)(Q:Exit->Act->World->Prop)(X ss ds is:List Nat)(n:Nw)(f:Fr)(w:World):Prop:=
 Region.noSelect l.toArray=true->okL l ss ds is=true->PQ Q->X6 P .any l.toArray Q (fun w'=>Same X w w') ss is.length (mk l.length ds) (AF n f) w
theorem F6{S S':World->Prop}(hS:∀ w,S' w->S w):∀(a1:Nat) (listed:Array Bool) (a:Act) (w:World),X6 P .any l.toArray Q S' ss a1 listed a w->X6 P .any l.toArray Q S ss a1 listed a w
 | 0,_,_,_,h=>h
 | a1+1,_,_,_,h=>⟨h.1,fun i hi=>wpOp_mono (fun a' w' h'=>⟨fun h1=>hS _ (h'.1 h1),F6 hS a1 _ a' w' h'.2⟩) (h.2 i hi)⟩
theorem held_vac{S S':World->Prop}{ss':List Nat}{s:Nat}(hs:s∈ss):∀(a1:Nat) (listed:Array Bool) (a:Act) (w:World),listed.getD s false=true->X6 P .any l.toArray Q S' ss' a1 listed a w->X6 P .any l.toArray Q S ss a1 listed a w
 | 0,_,_,_,_,h=>h
 | a1+1,listed,_,_,hl,h=>⟨h.1,fun i hi=>wpOp_mono (fun a' w' h'=>by
  have h2:(listed.setIfInBounds i true).getD s false=true:=getD_set_true hl
  exact⟨(fun h1=>by rw[h1 s hs]at h2;cases h2),held_vac hs a1 _ a' w' h2 h'.2⟩) (h.2 i hi)⟩
theorem gY{id:Nat}(X ss is:List Nat)(hm:P.follows .mixedOrders=true)(K:∀ w1,Same [] w w1->HL P l Q X ss [] is n f w1)(hc:(Region.noSelect l.toArray&&(Nat.beq is.length l.length&&okL l ss [] is))=true:=by kernel_rfl)(hQ:PQ Q:=by first|(intro d;cases d<;>exact fun _ _ _ _ h=>h)|(have h:=‹PQ _›;exact fun d v c a w k=>h d v c a w k)):WC P (.region id l.toArray true) Q n f w:=by
 unfold WC;simp only[Bool.and_eq_true]at hc;have e:is.length=l.length:=aU hc.2.1;have h:=K { w with drawn:=w.drawn+1 } (Same.drew w 1) hc.1 hc.2.2 hQ;rw[e]at h;exact wp_region_any hm (Cj _ _ _ _ h)
theorem jY{id:Nat}(X is:List Nat)(hm:P.follows .mixedOrders=true)(K:∀ w1,Same [] w w1->HL P l Q X [] [] is n f w1)(hc:(Region.noSelect l.toArray&&(Nat.beq is.length l.length&&okL l [] [] is))=true:=by kernel_rfl)(hQ:PQ Q:=by first|(intro d;cases d<;>exact fun _ _ _ _ h=>h)|(have h:=‹PQ _›;exact fun d v c a w k=>h d v c a w k)):WC P (.region id l.toArray true) Q n f w:=
 gY X [] is hm K hc hQ
theorem HJ{o:Oper}(ho:l[i]? =some o)(hn:HX l i=false->YieldsIf P l.toArray (fun _=>True) o v (AF n f))(hy:YieldsIf P l.toArray (fun w'=>Same X w w') o v (AF n f))(K:HL P l Q X ss (i::ds) is n (KK f o.dst v) w):HL P l Q X ss ds (i::is) n f w:=by
 intro h2 hc hQ;simp only[okL,Bool.and_eq_true,Bool.or_eq_true]at hc;obtain⟨hc1,hc⟩:=hc;have hK:=K h2 hc hQ;rw[<- EK]at hK;have a1:(l.toArray)[i]? =some o:=by simpa using ho
 rcases hc1 with ⟨h3,h4,h5⟩|h4
 ·have a2:i∈Region.ready .any l.toArray (mk l.length ds):=by simpa using h4
  have hil:(mk l.length ds).getD i false=false:=by
   have h7:=(mem_ready.1 a2).1;cases h8:(mk l.length ds).getD i false with
   | false=>rfl
   | true=>
    have:(mk l.length ds).getD i true=(mk l.length ds).getD i false:=by
     rcases Nat.lt_or_ge i (mk l.length ds).size with h'|h'
     ·simp[h']
     ·simp[Array.getElem?_eq_none h']at h8
    rw[this,h8]at h7;cases h7
  have hW:(∃ W:List Nat,(∀ s∈ss,s∈W)/\i∉W/\(∀ k∈W,(mk l.length ds).getD k false=false)/\∀ k∈W,∃ o,(l.toArray)[k]? =some o/\∃ e∈o.after,Region.binds .any e=true/\(e.on=i\/e.on∈W))\/(HX l i=false/\∀ s∈ss,s≠i):=by
   simp only[wtO,Bool.or_eq_true]at h5;rcases h5 with h5|h5|h5
   ·rw[List.isEmpty_iff]at h5
    exact .inl ⟨[],by rw[h5];simp,by simp,by simp,by simp⟩
   ·simp only[wtB,Bool.and_eq_true,List.all_eq_true,Bool.not_eq_true']at h5
    obtain⟨b1,b2,b3,b4⟩:=h5;refine .inl ⟨wtL l i,fun s hs=>by simpa using b1 s hs,by simpa using b2,b3,fun k hk=>?_⟩;have h6:=b4 k hk;cases ho2:l[k]? with
    | none=>rw[ho2]at h6;cases h6
    | some o2=>
     rw[ho2]at h6;obtain⟨e,he,hb⟩:=Array.any_eq_true'.1 h6;exact⟨o2,by simpa using ho2,e,he,by simpa using hb⟩
   ·simp only[Bool.and_eq_true,List.all_eq_true,Bool.not_eq_true']at h5
    refine .inr ⟨h5.1,fun s hs e=>?_⟩;have h6:=h5.2 s hs;subst e;simp at h6
  rcases hW with ⟨W,w1,w2,w3,w4⟩|⟨w1,w2⟩
  ·exact FX a1 (Region.noSelect_spec h2) (hQ _ _) w1 w2 w4 _ _ _ _ (Region.free_spec a1 h3) w3 hil a2 hy (Same.refl _ _) hK
  ·exact T9 a1 (Region.noSelect_spec h2) (hQ _ _) _ _ _ _ (Region.free_spec a1 h3) hil w2 a2 (hn w1) (fun _=>Same.refl _ _) hK
 ·refine⟨fun h0=>absurd ((eq_of_beq h4) ▸ h0) (by simp),fun j hj=>?_⟩
  rw[eq_of_beq h4]at hj;rw[List.mem_singleton.1 hj];exact hy.wpOp a1 (Same.refl _ _) ⟨fun _=>Same.refl _ _,hK⟩
variable {op:Op} {ty t:TypeId} {pos:String} {af:Array Edge} {v:Value} {x:Operand} {d:Tmp} {i:Nat}
theorem Yq{o:Oper}(h:RV P n f w o v w'):(execOp (ev n f) o).run P w= .ok (.value v) w':=by unfold RV at h;exact h
theorem hl(ho:l[i]? =some ⟨some d,op,ty,pos,af,none⟩)(h:∀ w',RV P n f w' ⟨some d,op,ty,pos,af,none⟩ v w')(K:HL P l Q X ss (i::ds) is n (upd f d v) w):HL P l Q X ss ds (i::is) n f w:=
 HJ ho (fun _=> .inl ⟨by simp[Region.wanted],fun w' _=>by rw[jZ];exact Yq (h w')⟩) (.inl ⟨by simp[Region.wanted],fun w' _=>by rw[jZ];exact Yq (h w')⟩) K
theorem hle{u:Value}(ho:l[i]? =some ⟨some d,op,ty,pos,af,none⟩)(h:∀ w',RV P n f w' ⟨some d,op,ty,pos,af,none⟩ u w')(e:u=v)(K:HL P l Q X ss (i::ds) is n (upd f d v) w):HL P l Q X ss ds (i::is) n f w:=
 hl ho (fun w'=>e ▸ h w') K
theorem Same.cl(hs:Same X w w')(hb:b∉X)(hc:w.cell? ⟨b,o,none⟩=some v):w'.cell? ⟨b,o,none⟩=some v:=by
 have hl:b<w.heap.size:=by
  refine aK (fun h=>?_);have:w.heap[b]? =none:=Array.getElem?_eq_none oG;simp[World.cell?,this]at hc
 have h:=hs.blk b hl hb;simp only[World.cell?,h]at hc ⊢;exact hc
theorem hl1{dd:TypeDesc}(ho:l[i]? =some ⟨some d,.load t x,ty,pos,af,none⟩)(hu:P.underlying t=some dd)(hd:dd.isRow=false)(hx:ev n f x= .pointer (some ⟨b,o,none⟩))(hl:w.cell? ⟨b,o,none⟩=some v)(K:HL P l Q X ss (i::ds) is n (upd f d v) w)(hb:b∉X:=by first|exact List.not_mem_nil|(simp only[List.mem_cons,List.not_mem_nil,or_false,not_or];omega)):HL P l Q X ss ds (i::is) n f w:=
 HJ ho (fun e=>by simp[HX,ho]at e) (.inl ⟨by simp[Region.wanted],fun w' hs=>by rw[jZ];exact Yq (qj hu hd hx (hs.cl hb hl))⟩) K
theorem hlS{dd:TypeDesc}(ho:l[i]? =some ⟨some d,.load t x,ty,pos,af,none⟩)(hu:P.underlying t=some dd)(hd:dd.isRow=true)(hx:ev n f x= .pointer (some ⟨b,o,none⟩))(hl:w.rangeAt b o cs)(hi:(P.info? t).map (·.size)=some cs.length)(K:HL P l Q X ss (i::ds) is n (upd f d (.agg cs.toArray)) w)(hb:b∉X:=by first|exact List.not_mem_nil|(simp only[List.mem_cons,List.not_mem_nil,or_false,not_or];omega)):HL P l Q X ss ds (i::is) n f w:=
 HJ ho (fun e=>by simp[HX,ho]at e) (.inl ⟨by simp[Region.wanted],fun w' hs=>by rw[jZ];exact Yq (qw hu hd hx (fun j v hj=>hs.cl hb (hl j v hj)) hi)⟩) K
theorem hg{b:Bool}(g:Tmp)(ho:l[i]? =some ⟨dst,op,ty,pos,af,some (j,b)⟩)(hj:(l.toArray[j]?).bind (·.dst)=some g)(hv:ev n f (.tmp g)= .bool b)(h:∀ w':World,True->RV P n f w' ⟨dst,op,ty,pos,af,some (j,b)⟩ v w')(K:HL P l Q X ss (i::ds) is n (KK f dst v) w):HL P l Q X ss ds (i::is) n f w:=
 HJ ho (fun _=> .inl ⟨by rw[ZZ hj hv];simp,fun w' _=>by rw[jZ];exact Yq (h w' trivial)⟩) (.inl ⟨by rw[ZZ hj hv];simp,fun w' _=>by rw[jZ];exact Yq (h w' trivial)⟩) K
theorem hge{b:Bool}(g:Tmp){u:Value}(ho:l[i]? =some ⟨dst,op,ty,pos,af,some (j,b)⟩)(hj:(l.toArray[j]?).bind (·.dst)=some g)(hv:ev n f (.tmp g)= .bool b)(h:∀ w':World,True->RV P n f w' ⟨dst,op,ty,pos,af,some (j,b)⟩ u w')(e:u=v)(K:HL P l Q X ss (i::ds) is n (KK f dst v) w):HL P l Q X ss ds (i::is) n f w:=
 hg g ho hj hv (fun w' hs=>e ▸ h w' hs) K
theorem hg1{b':Bool}{dd:TypeDesc}(g:Tmp)(ho:l[i]? =some ⟨some d,.load t x,ty,pos,af,some (j,b')⟩)(hj:(l.toArray[j]?).bind (·.dst)=some g)(hv:ev n f (.tmp g)= .bool b')(hu:P.underlying t=some dd)(hd:dd.isRow=false)(hx:ev n f x= .pointer (some ⟨b,o,none⟩))(hl:w.cell? ⟨b,o,none⟩=some v)(K:HL P l Q X ss (i::ds) is n (upd f d v) w)(hb:b∉X:=by first|exact List.not_mem_nil|(simp only[List.mem_cons,List.not_mem_nil,or_false,not_or];omega)):HL P l Q X ss ds (i::is) n f w:=
 HJ ho (fun e=>by simp[HX,ho]at e) (.inl ⟨by rw[ZZ hj hv];simp,fun w' hs=>by rw[jZ];exact Yq (qj hu hd hx (hs.cl hb hl))⟩) K
theorem hgS{b':Bool}{dd:TypeDesc}(g:Tmp)(ho:l[i]? =some ⟨some d,.load t x,ty,pos,af,some (j,b')⟩)(hj:(l.toArray[j]?).bind (·.dst)=some g)(hv:ev n f (.tmp g)= .bool b')(hu:P.underlying t=some dd)(hd:dd.isRow=true)(hx:ev n f x= .pointer (some ⟨b,o,none⟩))(hl:w.rangeAt b o cs)(hi:(P.info? t).map (·.size)=some cs.length)(K:HL P l Q X ss (i::ds) is n (upd f d (.agg cs.toArray)) w)(hb:b∉X:=by first|exact List.not_mem_nil|(simp only[List.mem_cons,List.not_mem_nil,or_false,not_or];omega)):HL P l Q X ss ds (i::is) n f w:=
 HJ ho (fun e=>by simp[HX,ho]at e) (.inl ⟨by rw[ZZ hj hv];simp,fun w' hs=>by rw[jZ];exact Yq (qw hu hd hx (fun j v hj=>hs.cl hb (hl j v hj)) hi)⟩) K
theorem hsk{b:Bool}(g:Tmp)(ho:l[i]? =some ⟨dst,op,ty,pos,af,some (j,b)⟩)(hj:(l.toArray[j]?).bind (·.dst)=some g)(hv:ev n f (.tmp g)= .bool (!b))(K:HL P l Q X ss (i::ds) is n (KK f dst undef) w):HL P l Q X ss ds (i::is) n f w:=
 HJ ho (fun _=> .inr ⟨by rw[ZZ hj hv];cases b<;>rfl,rfl⟩) (.inr ⟨by rw[ZZ hj hv];cases b<;>rfl,rfl⟩) K
theorem HK(t:Nat){b:Bool}(hv:ev n f (.tmp t)= .bool b)(h1:b=true->HL P l Q X ss ds is n (upd f t (.bool true)) w)(h2:b=false->HL P l Q X ss ds is n (upd f t (.bool false)) w):HL P l Q X ss ds is n f w:=by
 have hf:=K6 hv nu;cases b
 ·have:=h2 rfl;rwa[o7 hf]at this
 ·have:=h1 rfl;rwa[o7 hf]at this
theorem h_casesd(t:Nat){p:Prop}{dp:Decidable p}(hv:ev n f (.tmp t)= .bool (@decide p dp))(h1:p->HL P l Q X ss ds is n (upd f t (.bool true)) w)(h2:¬p->HL P l Q X ss ds is n (upd f t (.bool false)) w):HL P l Q X ss ds is n f w:=
 HK t hv (fun h=>h1 (aO h)) (fun h=>h2 (of_decide_eq_false h))
def QH(P:Program)(l:List Oper)(Q:Exit->Act->World->Prop)(S:World->Prop)(ss ds is:List Nat):Exit->Act->World->Prop
 | .normal,a,w=>Region.noSelect l.toArray=true->okL l ss ds is=true->PQ Q->((∀ s∈ss,(mk l.length ds).getD s false=false)->S w)/\X6 P .any l.toArray Q S ss is.length (mk l.length ds) a w
 | e,a,w=>Q e a w
theorem wp_qh{S:World->Prop}{o:Oper}{a:Act}{K:Act->World->Prop}(h:o.wp P a w K (QH P l Q S ss ds is)):o.wp P a w K Q:=by
 unfold Oper.wp at *
 generalize (execOp a.eval o).run P w=r at *
 cases r with
 | ok x w'=>cases x<;>exact h
 | halt x w'=>cases x<;>exact h
theorem e_H{X X':List Nat}(hs:Same X w0 w)(hX:∀ g∈X',g∈X\/w0.heap.size<=g)(h:HL P l Q X' ss ds is n f w):EX (QH P l Q (fun w'=>Same X w0 w') ss ds is) .normal n f w:=by
 unfold EX;exact fun h2 hc hQ=>⟨fun _=>hs,F6 (fun w' (h':Same X' w w')=>⟨h'.os.trans hs.os,h'.tape.trans hs.tape,h'.output.trans hs.output,nLT hs.size h'.size,fun k hk hx=>(h'.blk k (nLL hk hs.size) (fun hm=>(hX k hm).elim hx (fun h2=>by omega))).trans (hs.blk k hk hx)⟩) _ _ _ _ (h h2 hc hQ)⟩
theorem KQ(hs:Same [] w0 w)(h:HL P l Q [] ss ds is n f w):EX (QH P l Q (fun w'=>Same [] w0 w') ss ds is) .normal n f w:=e_H hs (fun _ hg=> .inl hg) h
theorem okL_sub{ss':List Nat}(h:∀ s∈ss',s∈ss):∀(is ds:List Nat),okL l ss ds is=true->okL l ss' ds is=true
 | [],_,hc=>hc
 | i::is,ds,hc=>by
  simp only[okL,Bool.and_eq_true,Bool.or_eq_true]at hc ⊢
  refine⟨hc.1.imp (fun⟨a,b,c⟩=>⟨a,b,?_⟩) id,okL_sub h is _ hc.2⟩
  simp only[wtO,wtB,Bool.or_eq_true,Bool.and_eq_true,List.all_eq_true,List.isEmpty_iff]at c ⊢
  rcases c with c|⟨c1,c2⟩|⟨c1,c2⟩
  ·left
   subst c
   cases ss' with
   | nil=>rfl
   | cons a r=>exact absurd (h a (aE ..)) (by simp)
  ·exact .inr (.inl ⟨fun s hs=>c1 s (h s hs),c2⟩)
  ·exact .inr (.inr ⟨c1,fun s hs=>c2 s (h s hs)⟩)
theorem O9{S:World->Prop}(ss':List Nat)(h:HL P l Q [] ss' ds is n f w)(hv:(ss.any (fun s=>(mk l.length ds).getD s false)&&ss'.all ss.contains)=true:=by kernel_rfl):EX (QH P l Q S ss ds is) .normal n f w:=by
 unfold EX;simp only[Bool.and_eq_true,List.any_eq_true,List.all_eq_true]at hv;obtain⟨⟨s,hs,hl⟩,hsub⟩:=hv;exact fun h2 hc hQ=>⟨(fun h0=>by rw[h0 s hs]at hl;cases hl),held_vac hs _ _ _ _ hl (h h2 (okL_sub (fun x hx=>by simpa using hsub x hx) _ _ hc) hQ)⟩
theorem h1{o:Oper}(ho:l[i]? =some o)(h:WL P l.toArray (QH P l Q (fun w'=>Same X w w') ss (i::ds) is) [o] n f w)(hr:Region.ready .any l.toArray (mk l.length ds)= [i]:=by kernel_rfl):HL P l Q X ss ds (i::is) n f w:=by
 intro h2 hc hQ;simp only[okL,Bool.and_eq_true]at hc;refine⟨fun h0=>absurd (hr ▸ h0) (by simp),fun j hj=>?_⟩;rw[hr]at hj;rw[List.mem_singleton.1 hj];unfold wpOp;have ho':(l.toArray)[i]? =some o:=by simpa using ho
 simp only[ho'];unfold WL wpList at h;by_cases hwt:Region.wanted o (yielded l.toArray (AF n f).tmps)=true
 ·rw[if_pos hwt]at h ⊢
  rcases h with h|h
  ·exact .inl (Oper.wp_mono (fun a' w' h'=>(show QH P l Q _ _ _ _ .normal a' w' from h') h2 hc.2 hQ) (wp_qh h))
  ·exact .inr h
 ·rw[if_neg hwt]at h ⊢
  exact(show QH P l Q _ _ _ _ .normal _ w from h) h2 hc.2 hQ
theorem h_end(h:EX Q .normal n f w):HL P l Q X ss ds [] n f w:=fun _ hc _=>by
 unfold EX at h
 exact⟨by simpa[okL]using hc,h⟩
theorem hcl(Rk:Value->World->Prop){F:FuncId}{xs:Array Operand}{ats:Array TypeId}{args:List Value}{R:Ending->World->Prop}(ho:l[i]? =some ⟨some d,.call { callee:= .value (.func F),args:=xs,argTypes:=ats },ty,pos,af,none⟩)(hF:zw P F=true)(hc:Calls P F args.toArray w R)(a1:xs.toList.map (ev n f)=args)
  (hR:∀ e' w1,R e' w1->∃ v,e'= .returned v/\Same [] w w1/\Rk v w1) (K:∀ v w1,Same [] w w1->Rk v w1->HL P l Q X ss (i::ds) is n (upd f d v) w1) (hr:Region.ready .any l.toArray (mk l.length ds)= [i]:=by kernel_rfl):HL P l Q X ss ds (i::is) n f w:=by
 refine h1 ho (zW hF hc a1 (fun e' w1 h=>?_)) hr;obtain⟨v,h1,h2,h3⟩:=hR e' w1 h;exact⟨v,h1,qY (e_H (h2.weak (by simp)) (fun g hg=> .inl hg) (K v w1 h2 h3))⟩
theorem Ov(i:Nat){listed:Array Bool}(ho:l[i]? =some ⟨some d,op,ty,pos,af,none⟩)(h:∀ w',RV P n f w' ⟨some d,op,ty,pos,af,none⟩ v w')(K:WA P l Q k (listed.setIfInBounds i true) n (upd f d v) w)(hc:(Region.noSelect l.toArray&&(Region.free .any l.toArray listed i&&(Region.ready .any l.toArray listed).contains i))=true:=by kernel_rfl)(hQ:PQ Q:=by first|(intro d;cases d<;>exact fun _ _ _ _ h=>h)|(have h:=‹PQ _›;exact fun d v c a w k=>h d v c a w k)):WA P l Q (k+1) listed n f w:=by
 simp only[Bool.and_eq_true]at hc;obtain⟨h2,h3,h4⟩:=hc;unfold WA at K ⊢;refine wpAny_take (by simpa using ho) h2 h3 h4 (hQ _ _) (.inl ⟨by simp[Region.wanted],fun w'=>by rw[jZ];exact Yq (h w')⟩) ?_;rw[EK];exact K
end held
attribute [irreducible] HL
end
structure Ty where
 name:ByteArray
 par:List Int
structure Ft where
 name:ByteArray
 of:Int
 val:Int
abbrev Fl:=Int×Int
def flV(p:Fl):Value:= .agg #[.int .i64 p.1,.int .i64 p.2]
theorem xX{c i:Int}{p:Fl}(h:p=(c,i)):Ending.returned (.agg [.int .i64 c,.int .i64 i].toArray)= .returned (flV p):=by rw[h];rfl
def vX:Nat:=9223372036854775807
def IntsIn(w:World)(A:Option Addr)(xs:List Int):Prop:=
 xs.length<=vX/\(xs≠[]->∃ b o,A=some ⟨b,o,none⟩/\b<w.heap.size/\∀ k (h:k<xs.length),w.cell? ⟨b,o+k*1,none⟩=some (.int .i64 xs[k]))
theorem IntsIn.mono{A:Option Addr}{xs:List Int}(h:IntsIn w A xs)(hb:Bel w w'):IntsIn w' A xs:=
 ⟨h.1,fun hn=>by
  obtain⟨b,o,e,hl,hc⟩:=h.2 hn
  exact⟨b,o,e,nLL hl hb.size,fun k hk=>hb.cell hl (hc k hk)⟩⟩
theorem IntsIn.at_{A:Option Addr}{xs:List Int}(h:IntsIn w A xs)(hk:k<xs.length):
  ∃ b o,A=some ⟨b,o,none⟩/\b<w.heap.size/\w.cell? ⟨b,o+k*1,none⟩=some (.int .i64 xs[k]):=by
 obtain⟨b,o,e,hl,hc⟩:=h.2 (by rintro rfl;simp at hk);exact⟨b,o,e,hl,hc k hk⟩
def TyIn(w:World)(b o:Nat)(t:Ty):Prop:=∃ A c,w.rangeAt b o [.string t.name,.slice A t.par.length c]/\IntsIn w A t.par
def TypesIn(w:World)(A:Option Addr)(l:List Ty):Prop:=
 l.length<=vX/\(l≠[]->∃ b o,A=some ⟨b,o,none⟩/\b<w.heap.size/\∀ k (h:k<l.length),TyIn w b (o+k*2) l[k])
theorem TyIn.mono{w w':World}{b o:Nat}{t:Ty}(h:TyIn w b o t)(hb:Bel w w')(hl:b<w.heap.size):TyIn w' b o t:=by
 obtain⟨A,c,h1,h2⟩:=h;exact⟨A,c,hb.range hl h1,h2.mono hb⟩
theorem TypesIn.mono{w w':World}{A:Option Addr}{l:List Ty}(h:TypesIn w A l)(hb:Bel w w'):TypesIn w' A l:=
 ⟨h.1,fun hn=>by
  obtain⟨b,o,e,hl,hc⟩:=h.2 hn
  exact⟨b,o,e,nLL hl hb.size,fun k hk=>(hc k hk).mono hb hl⟩⟩
theorem TypesIn.at_{A:Option Addr}{l:List Ty}(h:TypesIn w A l)(hb:Bel w w')(hk:k<l.length):
  ∃ b o A' c,A=some ⟨b,o,none⟩/\b<w.heap.size/\w'.rangeAt b (o+k*2) [.string (l[k]).name,.slice A' (l[k]).par.length c]/\IntsIn w A' (l[k]).par:=by
 obtain⟨b,o,e,hl,hc⟩:=h.2 (by rintro rfl;simp at hk);obtain⟨A',c,h1,h2⟩:=hc k hk;exact⟨b,o,A',c,e,hl,hb.range hl h1,h2⟩
def FtIn(w:World)(b o:Nat)(t:Ft):Prop:=w.rangeAt b o [.string t.name,.int .i64 t.of,.int .i64 t.val]
def FeatsIn(w:World)(A:Option Addr)(l:List Ft):Prop:=
 l.length<=vX/\(l≠[]->∃ b o,A=some ⟨b,o,none⟩/\b<w.heap.size/\∀ k (h:k<l.length),FtIn w b (o+k*3) l[k])
theorem FeatsIn.mono{A:Option Addr}{l:List Ft}(h:FeatsIn w A l)(hb:Bel w w'):FeatsIn w' A l:=
 ⟨h.1,fun hn=>by
  obtain⟨b,o,e,hl,hc⟩:=h.2 hn
  exact⟨b,o,e,nLL hl hb.size,fun k hk=>hb.range hl (hc k hk)⟩⟩
theorem FeatsIn.at_{A:Option Addr}{l:List Ft}(h:FeatsIn w A l)(hb:Bel w w')(hk:k<l.length):
  ∃ b o,A=some ⟨b,o,none⟩/\b<w.heap.size/\w'.rangeAt b (o+k*3) [.string (l[k]).name,.int .i64 (l[k]).of,.int .i64 (l[k]).val]:=by
 obtain⟨b,o,e,hl,hc⟩:=h.2 (by rintro rfl;simp at hk);exact⟨b,o,e,hl,hb.range hl (hc k hk)⟩
def kj(i:Int):Int->List Int->Int
 | _,[]=>0
 | last,p::ps=>if p<0\/i<=p then 3 else if p<=last then 13 else kj i p ps
def yX(f:Nat->Int):Nat->Nat->Fl
 | _,0=>(0,0)
 | i,m+1=>if f i≠0 then (f i,(i:Int))else yX f (i+1) m
theorem xZ{c:Int}(hm:0<m)(hc:f i=c)(h:c≠0):yX f i m=(c,(i:Int)):=by
 subst hc;cases m with
 | zero=>omega
 | succ m=>simp[yX,h]
theorem kZ(hm:i<n)(h:f i=0):yX f i (n-i)=yX f (i+1) (n-(i+1)):=by
 obtain⟨m,hm'⟩:∃ m,n-i=m+1:=⟨n-i-1,by omega⟩
 rw[hm',show n-(i+1)=m from by omega];simp[yX,h]
theorem uk(h:n<=i):yX f i (n-i)=(0,0):=by
 rw[show n-i=0 from by omega];rfl
def seen(l:List ByteArray)(s:ByteArray):Bool:=l.any (fun u=>decide (u=s))
theorem M7(l:List ByteArray)(u s:ByteArray):seen (l++[u]) s=(seen l s||decide (u=s)):=by simp[seen]
theorem XJ{α:Type}(l:List α)(hk:k<l.length):l.take (k+1)=l.take k++[l[k]]:=by
 rw[List.take_succ_eq_append_getElem hk]
section
theorem gv{α:Type}{p:Nat->α->Prop}(h:∀ i,i<n->∃ x,p i x):∃ l:List α,l.length=n/\∀ k (hk:k<l.length),p k l[k]:=by
 induction n with
 | zero=>exact⟨[],rfl,fun k hk=>by simp at hk⟩
 | succ n ih=>
  obtain⟨l,hl,hp⟩:=ih (fun i hi=>h i oG);obtain⟨x,hx⟩:=h n oG;refine⟨l++[x],by simp[hl],fun k hk=>?_⟩;by_cases e:k<l.length
  ·rw[List.getElem_append_left e];exact hp k e
  ·have e2:k=l.length:=by simp at hk;omega
   subst e2;have e3:(l++[x])[l.length]'hk=x:=by simp
   rw[e3,hl];exact hx
section
variable {H:Type} {enc:TypeId×Value->H} {P:Program} {w:World} {base:Nat} {spare:Nat->Bool} {held:Bool}
theorem uq{v':Value}(h:[v]= [v']):v=v':=by cases h;rfl
theorem Ex{a2:Nat}{x:DataW H×List MemPlace}(ht:P.underlying t=some (.slice e))(hsz:P.cellsOf e=sz)(a1:0<sz)(h:DataW.trod enc P w base spare held a2 t [v]=some x):
  ∃ A len c,v= .slice A len c/\len<=c/\c<=vX/\(len≠0->∃ b o,A=some ⟨b,o,none⟩/\b<w.heap.size/\∀ i,i<len->∃ cs k y,cs.length=sz/\w.rangeAt b (o+i*sz) cs/\DataW.trod enc P w base spare held k e cs=some y):=by
 rcases open_slice ht h with ⟨hc,_⟩|⟨a,len,cap,m,n,D,Pl,hc,hb,hl,hm,hmm,_,hi⟩
 ·rw[uq hc]
  exact⟨none,0,0,rfl,ai _,ah _,fun h=>absurd rfl h⟩
 ·rw[uq hc]
  rw[hsz]at hi;refine⟨some a,len,cap,rfl,hl,hm,fun h0=>?_⟩;have hlm:len<=m:=by rw[hmm];split<;>omega
  obtain⟨b,o,s⟩:=a;have hsp:s=none/\b<w.heap.size:=by
   obtain⟨cs,h1,_⟩:=hi 0 oG;obtain⟨_,h3,h4⟩:=World.cells?_some h1;have h5:=h4 0 a1;have h6:cs[0]? =some (cs[0]'oG):=aN oG;have h7:(Addr.add (Addr.add ⟨b,o,s⟩ (0*sz)) 0)=⟨b,o,s⟩:=by simp[Addr.add]
   rw[h7,h6]at h5;exact⟨World.cell?_spot h5,Go.Clock.block_lt h5⟩
  obtain⟨rfl,hlt⟩:=hsp;refine⟨b,o,rfl,hlt,fun i hil=>?_⟩;obtain⟨cs,h1,h2⟩:=hi i oG;obtain⟨_,h3,h4⟩:=World.cells?_some h1;refine⟨cs,n,_,h3,fun j v hj=>?_,h2⟩;have hjl:=(aC.1 hj).1;have h5:=h4 j oG;rw[Addr.add_mid,Addr.add_mid]at h5;rw[h5];exact hj
theorem ints_open{x:DataW H×List MemPlace}(ht:P.underlying t=some (.slice e))(he:P.underlying e=some (.int .i64))(hsz:P.cellsOf e=1)(h:DataW.trod enc P w base spare held a1 t [v]=some x):
  ∃ A xs c,v= .slice A (List.length xs) c/\xs.length<=c/\IntsIn w A xs:=by
 obtain⟨A,len,c,rfl,hl,hm,hx⟩:=Ex ht hsz dE h;by_cases h0:len=0
 ·subst h0
  exact⟨A,[],c,rfl,ah _,ah _,fun h=>absurd rfl h⟩
 ·obtain⟨b,o,rfl,hlt,hc⟩:=hx h0
  obtain⟨xs,hxl,hxs⟩:=gv (p:=fun i (z:Int)=>w.cell? ⟨b,o+i*1,none⟩=some (.int .i64 z)) (n:=len) (fun i hi=>by
   obtain⟨cs,k,y,h1,h2,h3⟩:=hc i hi;obtain⟨z,rfl,_,_⟩:=DataW.trod_int he h3
   exact⟨z,h2 0 _ rfl⟩)
  subst hxl;exact⟨_,xs,c,rfl,hl,nLT hl hm,fun _=>⟨b,o,rfl,hlt,hxs⟩⟩
theorem OK{f0 f1:Field}{x:DataW H×List MemPlace}(he:P.underlying e=some (.struct #[f0,f1]))(hl:cs.length=2)(o0:f0.offset=0)(o1:f1.offset=1)(c0:P.cellsOf f0.type=1)(c1:P.cellsOf f1.type=1)(h:DataW.trod enc P w base spare held a1 e cs=some x):
  ∃ v0 v1 n y0 y1,cs= [v0,v1]/\DataW.trod enc P w base spare held n f0.type [v0]=some y0/\DataW.trod enc P w base spare held n f1.type [v1]=some y1:=by
 obtain⟨y0,y1,n,_,_,h0,h1⟩:=trod_struct2 he h
 match cs,hl with
 | [v0,v1],_=>
  simp[o0,o1,c0,c1]at h0 h1;exact⟨v0,v1,n,y0,y1,rfl,h0,h1⟩
theorem LW{f0 f1 f2:Field}{x:DataW H×List MemPlace}(he:P.underlying e=some (.struct #[f0,f1,f2]))(hl:cs.length=3)(o0:f0.offset=0)(o1:f1.offset=1)(o2:f2.offset=2)(c0:P.cellsOf f0.type=1)(c1:P.cellsOf f1.type=1)(c2:P.cellsOf f2.type=1)(h:DataW.trod enc P w base spare held a1 e cs=some x):
  ∃ v0 v1 v2 n y0 y1 y2,cs= [v0,v1,v2]/\DataW.trod enc P w base spare held n f0.type [v0]=some y0/\DataW.trod enc P w base spare held n f1.type [v1]=some y1/\DataW.trod enc P w base spare held n f2.type [v2]=some y2:=by
 obtain⟨y0,y1,y2,n,_,_,h0,h1,h2⟩:=trod_struct3 he h
 match cs,hl with
 | [v0,v1,v2],_=>
  simp[o0,o1,o2,c0,c1,c2]at h0 h1 h2;exact⟨v0,v1,v2,n,y0,y1,y2,rfl,h0,h1,h2⟩
theorem types_open{ts ti a1:TypeId}{f0 f1:Field}{a2:Nat}{x:DataW H×List MemPlace}(ht:P.underlying t=some (.slice e))(he:P.underlying e=some (.struct #[f0,f1]))(hsz:P.cellsOf e=2)(o0:f0.offset=0)(o1:f1.offset=1)(e0:f0.type=ts)(e1:f1.type=a1)(hs:P.underlying ts=some .string)(hcs:P.cellsOf ts=1)(hci:P.cellsOf a1=1)
  (hti:P.underlying a1=some (.slice ti)) (hi:P.underlying ti=some (.int .i64)) (hc1:P.cellsOf ti=1) (h:DataW.trod enc P w base spare held a2 t [v]=some x):
  ∃ A l c,v= .slice A (List.length l) c/\l.length<=c/\TypesIn w A l:=by
 subst e0 e1;obtain⟨A,len,c,rfl,hl,hm,hx⟩:=Ex ht hsz dE h;by_cases h0:len=0
 ·subst h0
  exact⟨A,[],c,rfl,ah _,ah _,fun h=>absurd rfl h⟩
 ·obtain⟨b,o,rfl,hlt,hc⟩:=hx h0
  obtain⟨l,hxl,hxs⟩:=gv (p:=fun i (z:Ty)=>TyIn w b (o+i*2) z) (n:=len) (fun i hi'=>by
   obtain⟨cs,k,y,h1,h2,h3⟩:=hc i hi';obtain⟨v0,v1,n,y0,y1,rfl,g0,g1⟩:=OK he h1 o0 o1 hcs hci h3;obtain⟨s,h4,_,_⟩:=DataW.trod_string hs g0;obtain⟨A',xs,c',rfl,_,hin⟩:=ints_open hti hi hc1 g1;rw[uq h4]at h2
   exact⟨⟨s,xs⟩,A',c',h2,hin⟩)
  subst hxl;exact⟨_,l,c,rfl,hl,nLT hl hm,fun _=>⟨b,o,rfl,hlt,hxs⟩⟩
theorem feats_open{ts ti:TypeId}{f0 f1 f2:Field}{x:DataW H×List MemPlace}(ht:P.underlying t=some (.slice e))(he:P.underlying e=some (.struct #[f0,f1,f2]))(hsz:P.cellsOf e=3)(o0:f0.offset=0)(o1:f1.offset=1)(o2:f2.offset=2)(e0:f0.type=ts)(e1:f1.type=ti)(e2:f2.type=ti)(hs:P.underlying ts=some .string)(hcs:P.cellsOf ts=1)
  (hi:P.underlying ti=some (.int .i64)) (hc1:P.cellsOf ti=1) (h:DataW.trod enc P w base spare held a1 t [v]=some x):
  ∃ A l c,v= .slice A (List.length l) c/\l.length<=c/\FeatsIn w A l:=by
 subst e0;obtain⟨A,len,c,rfl,hl,hm,hx⟩:=Ex ht hsz dE h;by_cases h0:len=0
 ·subst h0
  exact⟨A,[],c,rfl,ah _,ah _,fun h=>absurd rfl h⟩
 ·obtain⟨b,o,rfl,hlt,hc⟩:=hx h0
  obtain⟨l,hxl,hxs⟩:=gv (p:=fun i (z:Ft)=>FtIn w b (o+i*3) z) (n:=len) (fun i hi'=>by
   obtain⟨cs,k,y,h1,h2,h3⟩:=hc i hi';obtain⟨v0,v1,v2,n,y0,y1,y2,rfl,g0,g1,g2⟩:=LW he h1 o0 o1 o2 hcs (by rw[e1];exact hc1) (by rw[e2];exact hc1) h3;rw[e1]at g1;rw[e2]at g2;obtain⟨s,h4,_,_⟩:=DataW.trod_string hs g0;obtain⟨z1,h5,_,_⟩:=DataW.trod_int hi g1;obtain⟨z2,h6,_,_⟩:=DataW.trod_int hi g2;rw[uq h4,uq h5,uq h6]at h2
   exact⟨⟨s,z1,z2⟩,h2⟩)
  subst hxl;exact⟨_,l,c,rfl,hl,nLT hl hm,fun _=>⟨b,o,rfl,hlt,hxs⟩⟩
theorem post_bel{f:Func}{s:ChangeSpec}{a5 ab a2 ac:Bool}{W W':World}{args:Array Value}{ds gs:List (DataW H)}{a1 pa pv:List MemPlace}(hW:DataW.Whole enc P f.params.toList s.vars a5 W args.toList ds gs a1)
  (a8:∀(b:Nat) (sp:Nat->Bool) (hd:Bool),DataW.TrodAll enc P W' b sp hd f.resultTypes.toList (v.resultList f.resultTypes.size) (s.fn H (ds++gs)).results [])
  (a4:∀ sp:Nat->Bool,(∀ p∈a1,sp p.block=true)->DataW.TrodAll enc P W' 0 sp true f.params.toList args.toList (s.fn H (ds++gs)).args pa)
  (a3:∀ sp:Nat->Bool,(∀ p∈a1,sp p.block=true)->DataW.TrodVars enc P W' sp s.vars (s.fn H (ds++gs)).vars pv)
  (ad:a1=pa++pv) (hb:Bel W W')
  (hok:∀(j:Nat) (t:TypeId) (r:Value),f.resultTypes[j]? =some t->(v.resultList f.resultTypes.size)[j]? =some r->Value.okWide P W' .any 0 t r):
  s.post enc P f a5 ab a2 ac W args v W':=by
 have hlt:=fun p hp=>hW.lt p hp
 have a9:∀ p∈a1,(fun b=>decide (b<W.heap.size)) p.block=true:=fun p hp=>by simpa using hlt p hp
 refine⟨ds,gs,a1,[],pa,pv,hW,a8 _ _ _,a4 _ a9,a3 _ a9,World.keptBut_mono (fun p hp=>⟨hp,?_⟩) (hb.frame (· ∈ a1)),fun _=>?_⟩
 ·rw[ad,List.mem_append]at hp;exact .inr hp
 obtain⟨_,_,_,_,_,hz,hn⟩:=hW;refine⟨hok,_,_,([]++pa)++pv,⟨[]++pa,pv,trodAll_append (a4 _ (fun _ _=>rfl)) (a8 _ _ _),a3 _ (fun _ _=>rfl),rfl,fun b off hp=>?_,fun ha=>?_⟩,fun p hp _=>?_⟩
 ·have hin:MemPlace.cell b off∈a1:=by rw[ad];simpa using hp
  rw[hb.frozen (hlt _ hin)];exact hz b off hin
 ·have:=hn ha
  rw[ad]at this;simpa using this
 ·rw[ad];simpa using hp
end
end
section
class UndC (P:Program) (t:TypeId) (u:outParam TypeDesc):Prop where
 h:P.underlying t=some u
class SzC (P:Program) (t:TypeId) (n:outParam Nat):Prop where
 h:(P.info? t).map (·.size)=some n
abbrev yv{P:Program}{t:TypeId}{u:TypeDesc}(_:P.underlying t=some u):TypeDesc:=u
instance:UndC prog 3 (yv U3):=⟨U3⟩
instance:UndC prog 4 (yv U4):=⟨U4⟩
instance:UndC prog 5 (yv U5):=⟨U5⟩
instance:UndC prog 9 (yv U9):=⟨U9⟩
instance:UndC prog 21 (yv underlying21):=⟨underlying21⟩
instance:UndC prog 22 (yv U22):=⟨U22⟩
instance:UndC prog 23 (yv U23):=⟨U23⟩
instance:UndC prog 25 (yv U25):=⟨U25⟩
instance:UndC prog 26 (yv U26):=⟨U26⟩
instance:UndC prog 28 (yv U28):=⟨U28⟩
instance:UndC prog 29 (yv U29):=⟨U29⟩
instance:UndC prog 31 (yv U31):=⟨U31⟩
instance:UndC prog 32 (yv U32):=⟨U32⟩
instance:UndC prog 34 (yv U34):=⟨U34⟩
instance:UndC prog 36 (yv U36):=⟨U36⟩
instance:UndC prog 38 (yv U38):=⟨U38⟩
instance:UndC prog 39 (yv underlying39):=⟨underlying39⟩
instance:UndC prog 40 (yv U40):=⟨U40⟩
instance:UndC prog 42 (yv U42):=⟨U42⟩
instance:UndC prog 45 (yv U45):=⟨U45⟩
instance:UndC prog 61 (yv underlying61):=⟨underlying61⟩
instance:UndC prog 62 (yv U62):=⟨U62⟩
instance:UndC prog 64 (yv U64):=⟨U64⟩
instance:UndC prog 69 (yv U69):=⟨U69⟩
instance:UndC prog 76 (yv U76):=⟨U76⟩
instance:UndC prog 78 (yv U78):=⟨U78⟩
instance:UndC prog 84 (yv U84):=⟨U84⟩
instance:UndC prog 85 (yv U85):=⟨U85⟩
instance:UndC prog 87 (yv U87):=⟨U87⟩
instance:UndC prog 98 (yv underlying98):=⟨underlying98⟩
instance:UndC prog 102 (yv L9):=⟨L9⟩
instance:UndC prog 103 (yv KX):=⟨KX⟩
instance:UndC prog 114 (yv underlying114):=⟨underlying114⟩
instance:UndC prog 119 (yv U119):=⟨U119⟩
instance:UndC prog 120 (yv U120):=⟨U120⟩
instance:UndC prog 126 (yv Kz):=⟨Kz⟩
instance:UndC prog 135 (yv underlying135):=⟨underlying135⟩
instance:UndC prog 142 (yv U142):=⟨U142⟩
instance:UndC prog 144 (yv underlying144):=⟨underlying144⟩
instance:UndC prog 147 (yv U147):=⟨U147⟩
instance:UndC prog 148 (yv U148):=⟨U148⟩
instance:UndC prog 149 (yv U149):=⟨U149⟩
instance:UndC prog 152 (yv PW):=⟨PW⟩
instance:UndC prog 157 (yv underlying157):=⟨underlying157⟩
instance:UndC prog 159 (yv DX):=⟨DX⟩
instance:UndC prog 160 (yv underlying160):=⟨underlying160⟩
instance:UndC prog 161 (yv underlying161):=⟨underlying161⟩
instance:UndC prog 163 (yv underlying163):=⟨underlying163⟩
instance:UndC prog 165 (yv R5):=⟨R5⟩
instance:UndC prog 167 (yv L8):=⟨L8⟩
instance:UndC prog 175 (yv underlying175):=⟨underlying175⟩
instance:UndC prog 181 (yv U181):=⟨U181⟩
instance:UndC prog 185 (yv underlying185):=⟨underlying185⟩
instance:UndC prog 186 (yv R4):=⟨R4⟩
instance:UndC prog 189 (yv underlying189):=⟨underlying189⟩
class FaC (P:Program) (t:TypeId) (i:Nat) (off:outParam Nat):Prop where
 h:∃ fs ft sz,P.underlying t=some (.struct fs)/\(P.info? ft).map (·.size)=some sz/\(sz==0)=false/\(fs[i]?).map (fun x=>(x.type,x.offset))=some (ft,off)
theorem faM{P:Program}{off ft:Nat}{fs:Array Field}(hu:P.underlying t=some (.struct fs))(hs:(P.info? ft).map (·.size)=some sz)(h0:(sz==0)=false)(hf:(fs[i]?).map (fun x=>(x.type,x.offset))=some (ft,off)):FaC P t i off:=⟨fs,ft,sz,hu,hs,h0,hf⟩
instance:SzC prog 3 1:=⟨by kernel_rfl⟩
instance:SzC prog 4 1:=⟨by kernel_rfl⟩
instance:SzC prog 5 1:=⟨by kernel_rfl⟩
instance:SzC prog 9 1:=⟨by kernel_rfl⟩
instance:SzC prog 22 1:=⟨by kernel_rfl⟩
instance:SzC prog 23 1:=⟨by kernel_rfl⟩
instance:SzC prog 25 2:=⟨by kernel_rfl⟩
instance:SzC prog 26 1:=⟨by kernel_rfl⟩
instance:SzC prog 28 1:=⟨by kernel_rfl⟩
instance:SzC prog 29 1:=⟨by kernel_rfl⟩
instance:SzC prog 31 2:=⟨by kernel_rfl⟩
instance:SzC prog 32 1:=⟨by kernel_rfl⟩
instance:SzC prog 34 6:=⟨by kernel_rfl⟩
instance:SzC prog 36 11:=⟨by kernel_rfl⟩
instance:SzC prog 38 9:=⟨by kernel_rfl⟩
instance:SzC prog 39 1:=⟨by kernel_rfl⟩
instance:SzC prog 40 1:=⟨by kernel_rfl⟩
instance:SzC prog 42 5:=⟨by kernel_rfl⟩
instance:SzC prog 45 2:=⟨by kernel_rfl⟩
instance:SzC prog 62 1:=⟨by kernel_rfl⟩
instance:SzC prog 64 3:=⟨by kernel_rfl⟩
instance:SzC prog 68 10:=⟨by kernel_rfl⟩
instance:SzC prog 76 1:=⟨by kernel_rfl⟩
instance:SzC prog 78 2:=⟨by kernel_rfl⟩
instance:SzC prog 84 2:=⟨by kernel_rfl⟩
instance:SzC prog 85 1:=⟨by kernel_rfl⟩
instance:SzC prog 87 2:=⟨by kernel_rfl⟩
instance:SzC prog 102 2:=⟨by kernel_rfl⟩
instance:SzC prog 103 1:=⟨by kernel_rfl⟩
instance:SzC prog 119 8:=⟨by kernel_rfl⟩
instance:SzC prog 126 1:=⟨by kernel_rfl⟩
instance:SzC prog 135 1:=⟨by kernel_rfl⟩
instance:SzC prog 147 3:=⟨by kernel_rfl⟩
instance:SzC prog 152 7:=⟨by kernel_rfl⟩
instance:SzC prog 159 2:=⟨by kernel_rfl⟩
instance:SzC prog 163 1:=⟨by kernel_rfl⟩
instance:SzC prog 165 1:=⟨by kernel_rfl⟩
instance:SzC prog 175 1:=⟨by kernel_rfl⟩
instance:SzC prog 181 256:=⟨by kernel_rfl⟩
instance:SzC prog 185 2:=⟨by kernel_rfl⟩
instance:FaC prog 25 0 0:=faM U25 (SzC.h (t:=22)) rfl rfl
instance:FaC prog 25 1 1:=faM U25 (SzC.h (t:=23)) rfl rfl
instance:FaC prog 28 0 0:=faM U28 (SzC.h (t:=26)) rfl rfl
instance:FaC prog 31 0 0:=faM U31 (SzC.h (t:=9)) rfl rfl
instance:FaC prog 31 1 1:=faM U31 (SzC.h (t:=29)) rfl rfl
instance:FaC prog 34 0 0:=faM U34 (SzC.h (t:=3)) rfl rfl
instance:FaC prog 34 1 1:=faM U34 (SzC.h (t:=9)) rfl rfl
instance:FaC prog 34 2 2:=faM U34 (SzC.h (t:=3)) rfl rfl
instance:FaC prog 34 3 3:=faM U34 (SzC.h (t:=31)) rfl rfl
instance:FaC prog 34 4 5:=faM U34 (SzC.h (t:=32)) rfl rfl
instance:FaC prog 36 0 0:=faM U36 (SzC.h (t:=9)) rfl rfl
instance:FaC prog 36 1 1:=faM U36 (SzC.h (t:=9)) rfl rfl
instance:FaC prog 36 2 2:=faM U36 (SzC.h (t:=9)) rfl rfl
instance:FaC prog 36 3 3:=faM U36 (SzC.h (t:=28)) rfl rfl
instance:FaC prog 36 4 4:=faM U36 (SzC.h (t:=3)) rfl rfl
instance:FaC prog 36 5 5:=faM U36 (SzC.h (t:=34)) rfl rfl
instance:FaC prog 38 0 0:=faM U38 (SzC.h (t:=9)) rfl rfl
instance:FaC prog 38 1 1:=faM U38 (SzC.h (t:=28)) rfl rfl
instance:FaC prog 38 2 2:=faM U38 (SzC.h (t:=3)) rfl rfl
instance:FaC prog 38 3 3:=faM U38 (SzC.h (t:=34)) rfl rfl
instance:FaC prog 42 0 0:=faM U42 (SzC.h (t:=25)) rfl rfl
instance:FaC prog 42 1 2:=faM U42 (SzC.h (t:=39)) rfl rfl
instance:FaC prog 42 2 3:=faM U42 (SzC.h (t:=40)) rfl rfl
instance:FaC prog 42 3 4:=faM U42 (SzC.h (t:=28)) rfl rfl
instance:FaC prog 45 0 0:=faM U45 (SzC.h (t:=3)) rfl rfl
instance:FaC prog 45 1 1:=faM U45 (SzC.h (t:=3)) rfl rfl
instance:FaC prog 64 0 0:=faM U64 (SzC.h (t:=9)) rfl rfl
instance:FaC prog 64 1 1:=faM U64 (SzC.h (t:=3)) rfl rfl
instance:FaC prog 64 2 2:=faM U64 (SzC.h (t:=3)) rfl rfl
instance:FaC prog 78 0 0:=faM U78 (SzC.h (t:=76)) rfl rfl
instance:FaC prog 78 1 1:=faM U78 (SzC.h (t:=76)) rfl rfl
instance:FaC prog 84 0 0:=faM U84 (SzC.h (t:=3)) rfl rfl
instance:FaC prog 84 1 1:=faM U84 (SzC.h (t:=3)) rfl rfl
instance:FaC prog 87 0 0:=faM U87 (SzC.h (t:=3)) rfl rfl
instance:FaC prog 87 1 1:=faM U87 (SzC.h (t:=85)) rfl rfl
instance:FaC prog 102 0 0:=faM L9 (SzC.h (t:=9)) rfl rfl
instance:FaC prog 102 1 1:=faM L9 (SzC.h (t:=62)) rfl rfl
instance:FaC prog 119 0 0:=faM U119 (SzC.h (t:=34)) rfl rfl
instance:FaC prog 119 1 6:=faM U119 (SzC.h (t:=3)) rfl rfl
instance:FaC prog 119 2 7:=faM U119 (SzC.h (t:=3)) rfl rfl
instance:FaC prog 147 0 0:=faM U147 (SzC.h (t:=31)) rfl rfl
instance:FaC prog 147 1 2:=faM U147 (SzC.h (t:=3)) rfl rfl
instance:FaC prog 152 0 0:=faM PW (SzC.h (t:=3)) rfl rfl
instance:FaC prog 152 1 1:=faM PW (SzC.h (t:=9)) rfl rfl
instance:FaC prog 152 2 2:=faM PW (SzC.h (t:=31)) rfl rfl
instance:FaC prog 152 3 4:=faM PW (SzC.h (t:=3)) rfl rfl
instance:FaC prog 152 4 5:=faM PW (SzC.h (t:=62)) rfl rfl
instance:FaC prog 152 5 6:=faM PW (SzC.h (t:=3)) rfl rfl
instance:FaC prog 159 0 0:=faM DX (SzC.h (t:=5)) rfl rfl
instance:FaC prog 159 1 1:=faM DX (SzC.h (t:=5)) rfl rfl
instance:FaC prog 167 0 0:=faM L8 (SzC.h (t:=78)) rfl rfl
instance:FaC prog 167 1 2:=faM L8 (SzC.h (t:=62)) rfl rfl
instance:FaC prog 167 2 3:=faM L8 (SzC.h (t:=62)) rfl rfl
instance:FaC prog 167 3 4:=faM L8 (SzC.h (t:=165)) rfl rfl
theorem gdA{b:Bool}{p q:Prop}(h:p)(e:b=true:=by rfl):(b=true->p)/\(b=false->q):=⟨fun _=>h,fun k=>by rw[e]at k;cases k⟩
section held
variable {P:Program} {Q:Exit->Act->World->Prop} {n:Nw} {f:Fr} {w:World} {l:List Oper} {X ss ds is:List Nat} {op:Op} {ty t:TypeId} {pos:String} {af:Array Edge} {v:Value} {x:Operand} {d:Tmp} {i:Nat}
theorem hlv(ho:l[i]? =some ⟨some d,op,ty,pos,af,none⟩)(hL:HX l i=true)(h:∀ w',Same X w w'->RV P n f w' ⟨some d,op,ty,pos,af,none⟩ v w')(K:HL P l Q X ss (i::ds) is n (upd f d v) w):HL P l Q X ss ds (i::is) n f w:=
 HJ ho (fun e=>by rw[hL]at e;cases e) (.inl ⟨by simp[Region.wanted],fun w' hs=>by rw[jZ];exact Yq (h w' hs)⟩) K
theorem hgv{b:Bool}(g:Tmp)(ho:l[i]? =some ⟨dst,op,ty,pos,af,some (j,b)⟩)(hj:(l.toArray[j]?).bind (·.dst)=some g)(hv:ev n f (.tmp g)= .bool b)(hL:HX l i=true)(h:∀ w',Same X w w'->RV P n f w' ⟨dst,op,ty,pos,af,some (j,b)⟩ v w')(K:HL P l Q X ss (i::ds) is n (KK f dst v) w):HL P l Q X ss ds (i::is) n f w:=
 HJ ho (fun e=>by rw[hL]at e;cases e) (.inl ⟨by rw[ZZ hj hv];simp,fun w' hs=>by rw[jZ];exact Yq (h w' hs)⟩) K
def UpB(b:Nat)(w w':World):Prop:=∀ c,w.heap[b]? =some c->w'.heap[b]? =some c
theorem UpB.rf:UpB b w w:=fun _ h=>h
theorem UpB.fX(hs:Same X w w')(hX:b∉X)(h:UpB b w' w2):UpB b w w2:=fun c hc=>by
 have hl:b<w.heap.size:=by
  refine aK (fun hn=>?_);rw[Array.getElem?_eq_none oG]at hc;cases hc
 exact h c ((hs.blk b hl hX).trans hc)
theorem UpB.f0(hs:Same [] w w')(h:UpB b w' w2):UpB b w w2:=UpB.fX hs List.not_mem_nil h
theorem UpB.blk{tb:TypeId}{cs:Array Value}(h:Blk w0 b tb cs)(u:UpB b w0 w):Blk w b tb cs:=u _ h
def UpN(n:Nat)(w w':World):Prop:=∀ w0:World,w0.heap.size=n->Bel w0 w->Bel w0 w'
theorem UpN.rf{n:Nat}:UpN n w w:=fun _ _ h=>h
theorem UpN.f0{n:Nat}(hs:Same [] w w')(h:UpN n w' w2):UpN n w w2:=fun w0 e h0=>h w0 e (h0.tr0 hs)
theorem UpN.f1{n:Nat}(hs:Same [b] w w')(hb:n<=b)(h:UpN n w' w2):UpN n w w2:=fun w0 e h0=>h w0 e (h0.tr1 hs (by rw[e];exact hb))
theorem Bel.fw(h:Bel w0 w)(u:UpN w0.heap.size w w'):Bel w0 w':=u w0 rfl h
theorem Bel.rng{xs:List Value}(hc:w0.rangeAt b o xs)(hb:b<w0.heap.size)(h:Bel w0 w):w.rangeAt b o xs:=h.range hb hc
end held
theorem Blk.u{w0 w:World}{b:Nat}{tb:TypeId}{cs:Array Value}(h:Blk w0 b tb cs)(u:UpB b w0 w:=by focus repeat (first|exact UpB.rf|(apply UpB.f0;assumption)|(apply UpB.fX;assumption;(simp only[List.mem_cons,List.not_mem_nil,or_false,not_or];omega)))):Blk w b tb cs:=u _ h
theorem Bel.u{w0 w1 w:World}(h:Bel w0 w1)(u:UpN w0.heap.size w1 w:=by focus repeat (first|exact UpN.rf|(apply UpN.f0;assumption)|(apply UpN.f1;assumption;omega))):Bel w0 w:=u w0 rfl h
variable {P:Program} {Q:Exit->Act->World->Prop} {n:Nw} {f:Fr} {w:World} {ops:Array Oper} {rest:List Oper} {d:Nat} {dst:Option Tmp} {gd:Option (Nat×Bool)} {ty t:TypeId} {pos:String} {af:Array Edge} {x y z:Operand}
theorem r_mvI{a1:_}{b1:_}(h:ev n f x= .int a1 b1):RV P n f w ⟨dst,.move x,ty,pos,af,gd⟩ (.int a1 b1) w:=x6 h
theorem r_asI{a1:_}{b1:_}(h:ev n f x= .int a1 b1):RV P n f w ⟨dst,.assign x,ty,pos,af,gd⟩ (.int a1 b1) w:=oz h
theorem r_ptI{a1:_}{b1:_}(hc:ev n f x= .bool true)(h:ev n f y= .int a1 b1):RV P n f w ⟨dst,.pick x y z,ty,pos,af,gd⟩ (.int a1 b1) w:=r_pt hc h
theorem r_pfI{a1:_}{b1:_}(hc:ev n f x= .bool false)(h:ev n f z= .int a1 b1):RV P n f w ⟨dst,.pick x y z,ty,pos,af,gd⟩ (.int a1 b1) w:=r_pf hc h
theorem r_mvB{a1:_}(h:ev n f x= .bool a1):RV P n f w ⟨dst,.move x,ty,pos,af,gd⟩ (.bool a1) w:=x6 h
theorem r_asB{a1:_}(h:ev n f x= .bool a1):RV P n f w ⟨dst,.assign x,ty,pos,af,gd⟩ (.bool a1) w:=oz h
theorem r_ptB{a1:_}(hc:ev n f x= .bool true)(h:ev n f y= .bool a1):RV P n f w ⟨dst,.pick x y z,ty,pos,af,gd⟩ (.bool a1) w:=r_pt hc h
theorem r_pfB{a1:_}(hc:ev n f x= .bool false)(h:ev n f z= .bool a1):RV P n f w ⟨dst,.pick x y z,ty,pos,af,gd⟩ (.bool a1) w:=r_pf hc h
theorem r_mvS{a1:_}{b1:_}{c1:_}(h:ev n f x= .slice a1 b1 c1):RV P n f w ⟨dst,.move x,ty,pos,af,gd⟩ (.slice a1 b1 c1) w:=x6 h
theorem r_asS{a1:_}{b1:_}{c1:_}(h:ev n f x= .slice a1 b1 c1):RV P n f w ⟨dst,.assign x,ty,pos,af,gd⟩ (.slice a1 b1 c1) w:=oz h
theorem r_ptS{a1:_}{b1:_}{c1:_}(hc:ev n f x= .bool true)(h:ev n f y= .slice a1 b1 c1):RV P n f w ⟨dst,.pick x y z,ty,pos,af,gd⟩ (.slice a1 b1 c1) w:=r_pt hc h
theorem r_pfS{a1:_}{b1:_}{c1:_}(hc:ev n f x= .bool false)(h:ev n f z= .slice a1 b1 c1):RV P n f w ⟨dst,.pick x y z,ty,pos,af,gd⟩ (.slice a1 b1 c1) w:=r_pf hc h
theorem r_mvT{a1:_}(h:ev n f x= .string a1):RV P n f w ⟨dst,.move x,ty,pos,af,gd⟩ (.string a1) w:=x6 h
theorem r_asT{a1:_}(h:ev n f x= .string a1):RV P n f w ⟨dst,.assign x,ty,pos,af,gd⟩ (.string a1) w:=oz h
theorem r_ptT{a1:_}(hc:ev n f x= .bool true)(h:ev n f y= .string a1):RV P n f w ⟨dst,.pick x y z,ty,pos,af,gd⟩ (.string a1) w:=r_pt hc h
theorem r_pfT{a1:_}(hc:ev n f x= .bool false)(h:ev n f z= .string a1):RV P n f w ⟨dst,.pick x y z,ty,pos,af,gd⟩ (.string a1) w:=r_pf hc h
theorem r_mvF{a1:_}{b1:_}{c1:_}(h:ev n f x= .func a1 b1 c1):RV P n f w ⟨dst,.move x,ty,pos,af,gd⟩ (.func a1 b1 c1) w:=x6 h
theorem r_asF{a1:_}{b1:_}{c1:_}(h:ev n f x= .func a1 b1 c1):RV P n f w ⟨dst,.assign x,ty,pos,af,gd⟩ (.func a1 b1 c1) w:=oz h
theorem r_ptF{a1:_}{b1:_}{c1:_}(hc:ev n f x= .bool true)(h:ev n f y= .func a1 b1 c1):RV P n f w ⟨dst,.pick x y z,ty,pos,af,gd⟩ (.func a1 b1 c1) w:=r_pt hc h
theorem r_pfF{a1:_}{b1:_}{c1:_}(hc:ev n f x= .bool false)(h:ev n f z= .func a1 b1 c1):RV P n f w ⟨dst,.pick x y z,ty,pos,af,gd⟩ (.func a1 b1 c1) w:=r_pf hc h
theorem r_mvU{a1:_}(h:ev n f x= .tuple a1):RV P n f w ⟨dst,.move x,ty,pos,af,gd⟩ (.tuple a1) w:=x6 h
theorem r_asU{a1:_}(h:ev n f x= .tuple a1):RV P n f w ⟨dst,.assign x,ty,pos,af,gd⟩ (.tuple a1) w:=oz h
theorem r_ptU{a1:_}(hc:ev n f x= .bool true)(h:ev n f y= .tuple a1):RV P n f w ⟨dst,.pick x y z,ty,pos,af,gd⟩ (.tuple a1) w:=r_pt hc h
theorem r_pfU{a1:_}(hc:ev n f x= .bool false)(h:ev n f z= .tuple a1):RV P n f w ⟨dst,.pick x y z,ty,pos,af,gd⟩ (.tuple a1) w:=r_pf hc h
theorem r_mvG{a1:_}(h:ev n f x= .agg a1):RV P n f w ⟨dst,.move x,ty,pos,af,gd⟩ (.agg a1) w:=x6 h
theorem r_asG{a1:_}(h:ev n f x= .agg a1):RV P n f w ⟨dst,.assign x,ty,pos,af,gd⟩ (.agg a1) w:=oz h
theorem r_ptG{a1:_}(hc:ev n f x= .bool true)(h:ev n f y= .agg a1):RV P n f w ⟨dst,.pick x y z,ty,pos,af,gd⟩ (.agg a1) w:=r_pt hc h
theorem r_pfG{a1:_}(hc:ev n f x= .bool false)(h:ev n f z= .agg a1):RV P n f w ⟨dst,.pick x y z,ty,pos,af,gd⟩ (.agg a1) w:=r_pf hc h
theorem r_ldC{dd:TypeDesc}{tb:TypeId}{cs:Array Value}[hu:UndC P t dd](hd:dd.isRow=false)(hx:ev n f x= .pointer (some ⟨b,o,none⟩))(hb:Blk w b tb cs)(hc:cs[o]? =some v):RV P n f w ⟨dst,.load t x,ty,pos,af,gd⟩ v w:=qj hu.h hd hx (hb.cell hc)
theorem r_ldD{dd:TypeDesc}[hu:UndC P t dd](hd:dd.isRow=true)(hx:ev n f x= .pointer (some ⟨b,o,none⟩))(hc:w.rangeAt b o cs)(hi:(P.info? t).map (·.size)=some cs.length):RV P n f w ⟨dst,.load t x,ty,pos,af,gd⟩ (.agg cs.toArray) w:=qw hu.h hd hx hc hi
theorem r_faC{o' off:Nat}[hu:FaC P t i off](hx:ev n f x= .pointer (some ⟨b,o,none⟩))(ho:o+off=o'):RV P n f w ⟨dst,.fieldAddr t x i,ty,pos,af,gd⟩ (.pointer (some ⟨b,o',none⟩)) w:=by
 obtain⟨fs,ft,sz,h1,h2,h3,h4⟩:=hu.h;exact jX h1 h2 (by simpa using h3) h4 hx ho
theorem r_lnC{A:Option Addr}{c:Nat}[hu:UndC P t (.slice e)](hx:ev n f x= .slice A m c):RV P n f w ⟨dst,.call { callee:= .builtin .len,args:=#[x],argTypes:=#[t] },ty,pos,af,gd⟩ (.int .i64 (m:Int)) w:=D4 hu.h hx
theorem r_lsC{p:ByteArray}[hu:UndC P t .string](hx:ev n f x= .string p):RV P n f w ⟨dst,.call { callee:= .builtin .len,args:=#[x],argTypes:=#[t] },ty,pos,af,gd⟩ (.int .i64 (p.size:Int)) w:=r_lenS hu.h hx
theorem r_iaC{o' c:Nat}[hu:UndC P t (.slice e)][hs:SzC P e sz](hx:ev n f x= .slice (some ⟨b,o,none⟩) m c)(hy:ev n f y= .int .i64 (i:Int))(ho:o+i*sz=o')(hi:i<m):RV P n f w ⟨dst,.indexAddr t x y,ty,pos,af,gd⟩ (.pointer (some ⟨b,o',none⟩)) w:=x7 hu.h hs.h hx hy hi ho
theorem rvA{o:Oper}(h:RV P n f w o v w2:=by first|(apply r_mvI;exact rfl)|(apply r_mvB;exact rfl)|(apply r_asI;exact rfl)|(apply r_asB;exact rfl)|(apply r_ldC;exact rfl;exact rfl;(first|assumption|(apply UpB.blk;assumption;focus repeat (first|exact UpB.rf|(apply UpB.f0;assumption)|(apply UpB.fX;assumption;(simp only[List.mem_cons,List.not_mem_nil,or_false,not_or];omega)))));exact rfl)|(apply r_faC;exact rfl;exact rfl)|(apply r_mvS;exact rfl)|(apply r_mvT;exact rfl)|(apply r_ptB;exact rfl;exact rfl)|(apply r_pfB;exact rfl;exact rfl)|(apply V4;exact rfl;exact rfl)|(apply r_eql;exact rfl;exact rfl)|(apply r_lnC;exact rfl)|(apply r_ldD;exact rfl;exact rfl;(first|(apply Blk.range0;(first|assumption|(apply UpB.blk;assumption;focus repeat (first|exact UpB.rf|(apply UpB.f0;assumption)|(apply UpB.fX;assumption;(simp only[List.mem_cons,List.not_mem_nil,or_false,not_or];omega))))))|(apply Bel.rng;assumption;assumption;(first|assumption|(apply Bel.fw;assumption;focus repeat (first|exact UpN.rf|(apply UpN.f0;assumption)|(apply UpN.f1;assumption;omega))))));exact SzC.h.trans rfl)|(apply uW;exact rfl;exact rfl;exact rfl;omega)|(apply r_iaC;exact rfl;exact rfl;exact rfl;omega)|(apply BV;exact rfl;exact rfl)|(apply r_gtr;exact rfl;exact rfl)|(apply r_geq;exact rfl;exact rfl)|(apply r_leq;exact rfl;exact rfl)|(apply r_lsC;exact rfl)|(apply r_notd;exact rfl)|(apply r_not;exact rfl)|(apply r_eqlS;exact rfl;exact rfl)|(apply WW;exact rfl;exact rfl)|(apply r_asS;exact rfl)|(apply r_asT;exact rfl)|(apply r_asF;exact rfl)|(apply r_asU;exact rfl)|(apply r_asG;exact rfl)|(apply r_mvF;exact rfl)|(apply r_mvU;exact rfl)|(apply r_mvG;exact rfl)|(apply r_ptI;exact rfl;exact rfl)|(apply r_ptS;exact rfl;exact rfl)|(apply r_ptT;exact rfl;exact rfl)|(apply r_ptF;exact rfl;exact rfl)|(apply r_ptU;exact rfl;exact rfl)|(apply r_ptG;exact rfl;exact rfl)|(apply r_pfI;exact rfl;exact rfl)|(apply r_pfS;exact rfl;exact rfl)|(apply r_pfT;exact rfl;exact rfl)|(apply r_pfF;exact rfl;exact rfl)|(apply r_pfU;exact rfl;exact rfl)|(apply r_pfG;exact rfl;exact rfl)):RV P n f w o v w2:=h
theorem zc{C:Prop}(h:B->C:=by intro k;first|exact e_S k|exact xQ k|exact qY k|exact Qq k|(apply wl;(case K=>exact k);exact rvA)|(apply wlgn;(case K=>exact k);exact rfl;exact rfl;exact rfl)|(apply wlgu;(case K=>exact k);exact rfl;exact rfl)|(apply wl_gd;(case K=>exact k);exact rfl;exact rfl)|(apply xK;(case hR=>exact k);exact .inl rfl;exact rfl;exact rfl)|exact QK k|exact e_Sr k|exact c_ret k|exact e_B k|exact c_block k|exact e_Br k|exact c_exit k|exact e_LSr k|exact e_LSx k|exact e_Sx k|exact e_Bx k|exact c_yes rfl k|exact c_no rfl k|(apply ws;(case hk=>exact k);exact rvA)|(apply wsgn;(case hk=>exact k);exact rfl;exact rfl;exact rfl)|(apply hl;(case K=>exact k);exact rfl;(intro _;exact rvA))|(apply hlv;(case K=>exact k);exact rfl;exact rfl;(intro _ _;exact rvA))|(apply hg;(case K=>exact k);exact rfl;exact rfl;exact rfl;(intro _ _;exact rvA))|(apply hgv;(case K=>exact k);exact rfl;exact rfl;exact rfl;exact rfl;(intro _ _;exact rvA))|(apply hsk;(case K=>exact k);exact rfl;exact rfl;exact rfl)|(apply hsu;(case K=>exact k);exact rfl;exact rfl;exact rfl)|exact h_end k)(g:A->B):A->C:=fun a=>h (g a)
theorem zn1(k:A)(h:A->B:=by exact zc (g:=fun k=>k)):B:=h k
theorem zn2(k:A)(h:A->B:=by exact zc (g:=zc (g:=fun k=>k))):B:=h k
theorem zn3(k:A)(h:A->B:=by exact zc (g:=zc (g:=zc (g:=fun k=>k)))):B:=h k
theorem zn4(k:A)(h:A->B:=by exact zc (g:=zc (g:=zc (g:=zc (g:=fun k=>k))))):B:=h k
theorem zn5(k:A)(h:A->B:=by exact zc (g:=zc (g:=zc (g:=zc (g:=zc (g:=fun k=>k)))))):B:=h k
theorem zn6(k:A)(h:A->B:=by exact zc (g:=zc (g:=zc (g:=zc (g:=zc (g:=zc (g:=fun k=>k))))))):B:=h k
theorem zn7(k:A)(h:A->B:=by exact zc (g:=zc (g:=zc (g:=zc (g:=zc (g:=zc (g:=zc (g:=fun k=>k)))))))):B:=h k
theorem zn8(k:A)(h:A->B:=by exact zc (g:=zc (g:=zc (g:=zc (g:=zc (g:=zc (g:=zc (g:=zc (g:=fun k=>k))))))))):B:=h k
theorem zB{A B C:Prop}(h:B->C:=by exact zc (g:=zc (g:=zc (g:=zc (g:=zc (g:=zc (g:=zc (g:=zc (g:=zc (g:=fun k=>k))))))))))(g:A->B):A->C:=fun k=>h (g k)
theorem zn9(k:A)(h:A->B:=by exact zc (g:=zc (g:=zc (g:=zc (g:=zc (g:=zc (g:=zc (g:=zc (g:=zc (g:=fun k=>k)))))))))):B:=h k
theorem yj(k:A)(h:A->B:=by exact zc (g:=zc (g:=zc (g:=zc (g:=zc (g:=zc (g:=zc (g:=zc (g:=zc (g:=zc (g:=fun k=>k))))))))))):B:=h k
theorem vJ(k:A)(h:A->B:=by exact zB (g:=zc (g:=zc (g:=fun k=>k)))):B:=h k
theorem yZ(k:A)(h:A->B:=by exact zB (g:=zc (g:=zc (g:=zc (g:=fun k=>k))))):B:=h k
theorem uJ(k:A)(h:A->B:=by exact zB (g:=zc (g:=zc (g:=zc (g:=zc (g:=fun k=>k)))))):B:=h k
theorem QY(k:A)(h:A->B:=by exact zB (g:=zc (g:=zc (g:=zc (g:=zc (g:=zc (g:=fun k=>k))))))):B:=h k
theorem Ky(k:A)(h:A->B:=by exact zB (g:=zc (g:=zc (g:=zc (g:=zc (g:=zc (g:=zc (g:=fun k=>k)))))))):B:=h k
theorem Jq(k:A)(h:A->B:=by exact zB (g:=zc (g:=zc (g:=zc (g:=zc (g:=zc (g:=zc (g:=zc (g:=fun k=>k))))))))):B:=h k
theorem Nk(k:A)(h:A->B:=by exact zB (g:=zc (g:=zc (g:=zc (g:=zc (g:=zc (g:=zc (g:=zc (g:=zc (g:=fun k=>k)))))))))):B:=h k
theorem zn18(k:A)(h:A->B:=by exact zB (g:=zB (g:=fun k=>k))):B:=h k
theorem zn19(k:A)(h:A->B:=by exact zB (g:=zB (g:=zc (g:=fun k=>k)))):B:=h k
theorem zn20(k:A)(h:A->B:=by exact zB (g:=zB (g:=zc (g:=zc (g:=fun k=>k))))):B:=h k
theorem zn21(k:A)(h:A->B:=by exact zB (g:=zB (g:=zc (g:=zc (g:=zc (g:=fun k=>k)))))):B:=h k
theorem zn22(k:A)(h:A->B:=by exact zB (g:=zB (g:=zc (g:=zc (g:=zc (g:=zc (g:=fun k=>k))))))):B:=h k
theorem zn23(k:A)(h:A->B:=by exact zB (g:=zB (g:=zc (g:=zc (g:=zc (g:=zc (g:=zc (g:=fun k=>k)))))))):B:=h k
theorem zn26(k:A)(h:A->B:=by exact zB (g:=zB (g:=zc (g:=zc (g:=zc (g:=zc (g:=zc (g:=zc (g:=zc (g:=zc (g:=fun k=>k))))))))))):B:=h k
theorem zn27(k:A)(h:A->B:=by exact zB (g:=zB (g:=zB (g:=fun k=>k)))):B:=h k
theorem zn29(k:A)(h:A->B:=by exact zB (g:=zB (g:=zB (g:=zc (g:=zc (g:=fun k=>k)))))):B:=h k
theorem zn30(k:A)(h:A->B:=by exact zB (g:=zB (g:=zB (g:=zc (g:=zc (g:=zc (g:=fun k=>k))))))):B:=h k
end
end Go.Proofs.YtndbjnkilegebaaGreatDoor
