/- Plain laws, and steps of programs, at every world. -/
import Derived.Test.YtmfiholmfieieaaDoorEng2
import Derived.OrdersHeld
import Derived.ChangeSame
import Derived.ChangeArms
import Derived.Clock
import Derived.Carry
import Derived.OpenShut
import Derived.Deep.Slices
import Derived.Deep.Strs
import Derived.Lib.SmallJoins
import Derived.Test.YtmfiholmfieieaaDoorU
import Derived.Test.YtmfiholmfieieaaDoorProg
namespace Go.Proofs.YtmfiholmfieieaaDoor
open Go.RowKit Go.ChangeShapes Go.WideShapes Go.Deep Go.Joins
variable {A B:Prop}{a1 b i j k m n o sz:Nat}{cs:List Value}{dst:Option Tmp}{e t:TypeId}{f:Nat->Int}{v:Value}{w w' w0 w2:World}
section
section
variable {P:Program} {ops:Array Oper} {Q:Exit->Act->World->Prop} {md:Region.Mode} {S:World->Prop}
def Q9(P:Program)(md:Region.Mode)(ops:Array Oper)(Q:Exit->Act->World->Prop)(S:World->Prop)(ss:List Nat):Nat->Array Bool->Act->World->Prop
 | 0,listed,a,w=>Region.ready md ops listed= []/\Q .normal a w
 | fuel+1,listed,a,w=>(Region.ready md ops listed= []->Q .normal a w)/\∀ i∈Region.ready md ops listed,wpOp P ops Q i (fun a' w'=>((∀ s∈ss,(listed.setIfInBounds i true).getD s false=false)->S w')/\Q9 P md ops Q S ss fuel (listed.setIfInBounds i true) a' w') a w
theorem P5{ss:List Nat}:∀(a1:Nat) (listed:Array Bool) (a:Act) (w:World),Q9 P md ops Q S ss a1 listed a w->wpAny P md ops Q a1 listed a w
 | 0,_,_,_,h=>h
 | a1+1,_,_,_,h=>⟨h.1,fun i hi=>wpOp_mono (fun a' w' h'=>P5 a1 _ a' w' h'.2) (h.2 i hi)⟩
theorem Sq{ss W:List Nat}{oi:Oper}(hi:ops[i]? =some oi)(a6:∀(j:Nat) (o:Oper) cs b,ops[j]? =some o->o.op≠ .select cs b)
  (hQ:∀ c a w,Q (.panic c) (a.put oi.dst v) w->Q (.panic c) a w) (hss:∀ s∈ss,s∈W) (hiW:i∉W)
  (hW:∀ k∈W,∃ o,ops[k]? =some o/\∃ e∈o.after,Region.binds md e=true/\(e.on=i\/e.on∈W)):
  ∀(a1:Nat) (listed:Array Bool) (a:Act) (w:World),
   (∀ j oj,ops[j]? =some oj->j≠i->listed.getD j true=false->(∀ e∈oj.after,Region.binds md e=true->e.on≠i)->oi.apart ops oj=true)->(∀ k∈W,listed.getD k false=false)->listed.getD i false=false->
   i∈Region.ready md ops listed->YieldsIf P ops S oi v a->S w->
   Q9 P md ops Q S ss a1 (listed.setIfInBounds i true) (a.put oi.dst v) w->Q9 P md ops Q S ss (a1+1) listed a w:=by
 intro a1
 induction a1 with
 | zero=>
  intro listed a w _ _ _ hr hy hS H;refine⟨fun h=>(by rw[h]at hr;cases hr),fun j hj=>?_⟩;by_cases a2:j=i
  ·subst a2;exact hy.wpOp hi hS ⟨fun _=>hS,H⟩
  ·have:=ready_mono hj a2
   rw[H.1]at this;cases this
 | succ a1 ih=>
  intro listed a w a3 b2 b1 hr hy hS H;refine⟨fun h=>(by rw[h]at hr;cases hr),fun j hj=>?_⟩;by_cases a2:j=i
  ·subst a2;exact hy.wpOp hi hS ⟨fun _=>hS,H⟩
  ·have h1:=H.2 j (ready_mono hj a2)
   obtain⟨a7,oj,a9,a8⟩:=mem_ready.1 hj;have ab:j∉W:=fun ab=>by
    obtain⟨o,ho,e,he,hb,h⟩:=hW j ab;rw[a9]at ho;cases ho;have h2:=a8 e he hb;rcases h with h|h
    ·rw[h,b1]at h2;cases h2
    ·rw[b2 _ h]at h2;cases h2
   have ao:∀ e∈oj.after,Region.binds md e=true->e.on≠i:=fun e he hb heq=>by
    have h2:=a8 e he hb;rw[heq,b1]at h2;cases h2
   have h2:=wpOp_putIf a9 (a3 j oj a9 a2 a7 ao) (fun cs b=>a6 i oi cs b hi) (fun cs b=>a6 j oj cs b a9) hQ hy h1;have a5:∀ k,k≠j->∀ d,(listed.setIfInBounds j true).getD k d=listed.getD k d:=fun k hk d=>getD_set_ne d (Ne.symm hk)
   have a4:∀ k ok,ops[k]? =some ok->k≠i->(listed.setIfInBounds j true).getD k true=false->
     (∀ e∈ok.after,Region.binds md e=true->e.on≠i)->oi.apart ops ok=true:=fun k ok hk hki hun hno=>by
    refine a3 k ok hk hki ?_ hno;by_cases hjk:j=k
    ·subst hjk;exact a7
    ·rw[getD_set_ne true hjk]at hun;exact hun
   have hW2:∀ k∈W,(listed.setIfInBounds j true).getD k false=false:=fun k hk=>by
    rw[a5 k (fun e=>ab (e ▸ hk))];exact b2 k hk
   refine wpOp_mono (fun a' w' h3=>?_) h2
   have hS':S w':=h3.2.1 (fun s hs=>by
    have an:=hss s hs;rw[getD_set_ne false (fun e=>ab (by rw[e];exact an)),getD_set_ne false (fun e=>hiW (by rw[e];exact an))]
    exact b2 s an)
   refine⟨fun _=>hS',ih (listed.setIfInBounds j true) a' w' a4 hW2 (by rw[a5 i (Ne.symm a2)];exact b1) (ready_mono hr (Ne.symm a2)) h3.1 hS' ?_⟩;rw[Array.setIfInBounds_comm _ _ a2];exact h3.2.2
theorem C5{ss:List Nat}{oi:Oper}(hi:ops[i]? =some oi)(a6:∀(j:Nat) (o:Oper) cs b,ops[j]? =some o->o.op≠ .select cs b)
  (hQ:∀ c a w,Q (.panic c) (a.put oi.dst v) w->Q (.panic c) a w):
  ∀(a1:Nat) (listed:Array Bool) (a:Act) (w:World),
   (∀ j oj,ops[j]? =some oj->j≠i->listed.getD j true=false->(∀ e∈oj.after,Region.binds md e=true->e.on≠i)->oi.apart ops oj=true)->listed.getD i false=false->(∀ s∈ss,s≠i)->
   i∈Region.ready md ops listed->YieldsIf P ops (fun _=>True) oi v a->((∀ s∈ss,listed.getD s false=false)->S w)->
   Q9 P md ops Q S ss a1 (listed.setIfInBounds i true) (a.put oi.dst v) w->Q9 P md ops Q S ss (a1+1) listed a w:=by
 intro a1
 induction a1 with
 | zero=>
  intro listed a w _ _ a5 hr hy hS H;refine⟨fun h=>(by rw[h]at hr;cases hr),fun j hj=>?_⟩;by_cases a2:j=i
  ·subst a2;exact hy.wpOp hi trivial ⟨fun h=>hS (fun s hs=>by have:=h s hs;rwa[getD_set_ne false (Ne.symm (a5 s hs))]at this),H⟩
  ·have:=ready_mono hj a2
   rw[H.1]at this;cases this
 | succ a1 ih=>
  intro listed a w a3 hil a5 hr hy hS H;refine⟨fun h=>(by rw[h]at hr;cases hr),fun j hj=>?_⟩;by_cases a2:j=i
  ·subst a2;exact hy.wpOp hi trivial ⟨fun h=>hS (fun s hs=>by have:=h s hs;rwa[getD_set_ne false (Ne.symm (a5 s hs))]at this),H⟩
  ·have h1:=H.2 j (ready_mono hj a2)
   obtain⟨a7,oj,a9,an⟩:=mem_ready.1 hj;have ab:∀ e∈oj.after,Region.binds md e=true->e.on≠i:=fun e he hb heq=>by
    have h2:=an e he hb;rw[heq,hil]at h2;cases h2
   have h2:=wpOp_putIf a9 (a3 j oj a9 a2 a7 ab) (fun cs b=>a6 i oi cs b hi) (fun cs b=>a6 j oj cs b a9) hQ hy h1;have a8:∀ k,k≠j->∀ d,(listed.setIfInBounds j true).getD k d=listed.getD k d:=fun k hk d=>getD_set_ne d (Ne.symm hk)
   have a4:∀ k ok,ops[k]? =some ok->k≠i->(listed.setIfInBounds j true).getD k true=false->
     (∀ e∈ok.after,Region.binds md e=true->e.on≠i)->oi.apart ops ok=true:=fun k ok hk hki hun hno=>by
    refine a3 k ok hk hki ?_ hno;by_cases hjk:j=k
    ·subst hjk;exact a7
    ·rw[getD_set_ne true hjk]at hun;exact hun
   refine wpOp_mono (fun a' w' h3=>?_) h2
   have hS':(∀ s∈ss,(listed.setIfInBounds j true).getD s false=false)->S w':=fun h=>h3.2.1 (fun s hs=>by
    rw[Array.setIfInBounds_comm _ _ (Ne.symm a2),getD_set_ne false (Ne.symm (a5 s hs))];exact h s hs)
   refine⟨hS',ih (listed.setIfInBounds j true) a' w' a4 (by rw[a8 i (Ne.symm a2)];exact hil) a5 (ready_mono hr (Ne.symm a2)) h3.1 hS' ?_⟩;rw[Array.setIfInBounds_comm _ _ a2];exact h3.2.2
end
section held
variable {P:Program} {Q:Exit->Act->World->Prop} {n:Nw} {f:Fr} {w:World} {l:List Oper} {X ss ds is:List Nat}
def mk(m:Nat):List Nat->Array Bool
 | []=>Array.replicate m false
 | i::is=>(mk m is).setIfInBounds i true
def PQ(Q:Exit->Act->World->Prop):Prop:=∀(d:Option Tmp) v c a w,Q (.panic c) (Act.put a d v) w->Q (.panic c) a w
def wtL(l:List Oper)(i:Nat):List Nat:=(List.range l.length).foldl (fun acc k=>bif (match l[k]? with|some o=>o.after.any (fun e=>Region.binds .any e&&(Nat.beq e.on i||acc.contains e.on))|none=>false)then k::acc else acc) []
def wtB(l:List Oper)(ss:List Nat)(listed:Array Bool)(W:List Nat)(i:Nat):Bool:=ss.all W.contains&&(!W.contains i&&(W.all (fun k=>!listed.getD k false)&&W.all (fun k=>match l[k]? with|some o=>o.after.any (fun e=>Region.binds .any e&&(e.on==i||W.contains e.on))|none=>false)))
def Tk(l:List Oper)(i:Nat):Bool:=match l[i]? with|some o=>(match o.op with | .load _ _=>true|_=>false)|none=>true
def wtO(l:List Oper)(ss ds:List Nat)(i:Nat):Bool:=ss.isEmpty||(wtB l ss (mk l.length ds) (wtL l i) i||(!Tk l i&&ss.all (fun s=>!Nat.beq s i)))
def okL(l:List Oper)(ss:List Nat):List Nat->List Nat->Bool
 | ds,[]=>(Region.ready .any l.toArray (mk l.length ds)).isEmpty
 | ds,i::is=>((Region.free .any l.toArray (mk l.length ds) i&&((Region.ready .any l.toArray (mk l.length ds)).contains i&&wtO l ss ds i))||(Region.ready .any l.toArray (mk l.length ds)==[i]))&&okL l ss (i::ds) is
def HL(P:Program)(l:List Oper)(Q:Exit->Act->World->Prop)(X ss ds is:List Nat)(n:Nw)(f:Fr)(w:World):Prop:=
 Region.noSelect l.toArray=true->okL l ss ds is=true->PQ Q->Q9 P .any l.toArray Q (fun w'=>Same X w w') ss is.length (mk l.length ds) (AF n f) w
theorem S3{S S':World->Prop}(hS:∀ w,S' w->S w):∀(a1:Nat) (listed:Array Bool) (a:Act) (w:World),Q9 P .any l.toArray Q S' ss a1 listed a w->Q9 P .any l.toArray Q S ss a1 listed a w
 | 0,_,_,_,h=>h
 | a1+1,_,_,_,h=>⟨h.1,fun i hi=>wpOp_mono (fun a' w' h'=>⟨fun h1=>hS _ (h'.1 h1),S3 hS a1 _ a' w' h'.2⟩) (h.2 i hi)⟩
theorem WJ{S S':World->Prop}{ss':List Nat}{s:Nat}(hs:s∈ss):∀(a1:Nat) (listed:Array Bool) (a:Act) (w:World),listed.getD s false=true->Q9 P .any l.toArray Q S' ss' a1 listed a w->Q9 P .any l.toArray Q S ss a1 listed a w
 | 0,_,_,_,_,h=>h
 | a1+1,listed,_,_,hl,h=>⟨h.1,fun i hi=>wpOp_mono (fun a' w' h'=>by
  have h2:(listed.setIfInBounds i true).getD s false=true:=getD_set_true hl
  exact⟨(fun h1=>by rw[h1 s hs]at h2;cases h2),WJ hs a1 _ a' w' h2 h'.2⟩) (h.2 i hi)⟩
theorem Qy{id:Nat}(X ss is:List Nat)(hm:P.follows .mixedOrders=true)(K:∀ w1,Same [] w w1->HL P l Q X ss [] is n f w1)(hc:(Region.noSelect l.toArray&&(Nat.beq is.length l.length&&okL l ss [] is))=true:=by kernel_rfl)(hQ:PQ Q:=by first|(intro d;cases d<;>exact fun _ _ _ _ h=>h)|(have h:=‹PQ _›;exact fun d v c a w k=>h d v c a w k)):WC P (.region id l.toArray true) Q n f w:=by
 unfold WC;simp only[Bool.and_eq_true]at hc;have e:is.length=l.length:=aV hc.2.1;have h:=K { w with drawn:=w.drawn+1 } (Same.drew w 1) hc.1 hc.2.2 hQ;rw[e]at h;exact wp_region_any hm (P5 _ _ _ _ h)
theorem uV{id:Nat}(X is:List Nat)(hm:P.follows .mixedOrders=true)(K:∀ w1,Same [] w w1->HL P l Q X [] [] is n f w1)(hc:(Region.noSelect l.toArray&&(Nat.beq is.length l.length&&okL l [] [] is))=true:=by kernel_rfl)(hQ:PQ Q:=by first|(intro d;cases d<;>exact fun _ _ _ _ h=>h)|(have h:=‹PQ _›;exact fun d v c a w k=>h d v c a w k)):WC P (.region id l.toArray true) Q n f w:=
 Qy X [] is hm K hc hQ
theorem Tw{o:Oper}(ho:l[i]? =some o)(hn:Tk l i=false->YieldsIf P l.toArray (fun _=>True) o v (AF n f))(hy:YieldsIf P l.toArray (fun w'=>Same X w w') o v (AF n f))(K:HL P l Q X ss (i::ds) is n (J0 f o.dst v) w):HL P l Q X ss ds (i::is) n f w:=by
 intro h2 hc hQ;simp only[okL,Bool.and_eq_true,Bool.or_eq_true]at hc;obtain⟨hc1,hc⟩:=hc;have hK:=K h2 hc hQ;rw[<- MQ]at hK;have a1:(l.toArray)[i]? =some o:=by simpa using ho
 rcases hc1 with ⟨h3,h4,h5⟩|h4
 ·have a2:i∈Region.ready .any l.toArray (mk l.length ds):=by simpa using h4
  have hil:(mk l.length ds).getD i false=false:=by
   have h7:=(mem_ready.1 a2).1;cases h8:(mk l.length ds).getD i false with
   | false=>rfl
   | true=>
    have:(mk l.length ds).getD i true=(mk l.length ds).getD i false:=by
     rcases Nat.lt_or_ge i (mk l.length ds).size with h'|h'
     ·simp[h']
     ·simp[Array.getElem?_eq_none h']at h8
    rw[this,h8]at h7;cases h7
  have hW:(∃ W:List Nat,(∀ s∈ss,s∈W)/\i∉W/\(∀ k∈W,(mk l.length ds).getD k false=false)/\∀ k∈W,∃ o,(l.toArray)[k]? =some o/\∃ e∈o.after,Region.binds .any e=true/\(e.on=i\/e.on∈W))\/(Tk l i=false/\∀ s∈ss,s≠i):=by
   simp only[wtO,Bool.or_eq_true]at h5;rcases h5 with h5|h5|h5
   ·rw[List.isEmpty_iff]at h5
    exact .inl ⟨[],by rw[h5];simp,by simp,by simp,by simp⟩
   ·simp only[wtB,Bool.and_eq_true,List.all_eq_true,Bool.not_eq_true']at h5
    obtain⟨b1,b2,b3,b4⟩:=h5;refine .inl ⟨wtL l i,fun s hs=>by simpa using b1 s hs,by simpa using b2,b3,fun k hk=>?_⟩;have h6:=b4 k hk;cases ho2:l[k]? with
    | none=>rw[ho2]at h6;cases h6
    | some o2=>
     rw[ho2]at h6;obtain⟨e,he,hb⟩:=Array.any_eq_true'.1 h6;exact⟨o2,by simpa using ho2,e,he,by simpa using hb⟩
   ·simp only[Bool.and_eq_true,List.all_eq_true,Bool.not_eq_true']at h5
    refine .inr ⟨h5.1,fun s hs e=>?_⟩;have h6:=h5.2 s hs;subst e;simp at h6
  rcases hW with ⟨W,w1,w2,w3,w4⟩|⟨w1,w2⟩
  ·exact Sq a1 (Region.noSelect_spec h2) (hQ _ _) w1 w2 w4 _ _ _ _ (Region.free_spec a1 h3) w3 hil a2 hy (Same.refl _ _) hK
  ·exact C5 a1 (Region.noSelect_spec h2) (hQ _ _) _ _ _ _ (Region.free_spec a1 h3) hil w2 a2 (hn w1) (fun _=>Same.refl _ _) hK
 ·refine⟨fun h0=>absurd ((eq_of_beq h4) ▸ h0) (by simp),fun j hj=>?_⟩
  rw[eq_of_beq h4]at hj;rw[List.mem_singleton.1 hj];exact hy.wpOp a1 (Same.refl _ _) ⟨fun _=>Same.refl _ _,hK⟩
variable {op:Op} {ty t:TypeId} {pos:String} {af:Array Edge} {v:Value} {x:Operand} {d:Tmp} {i:Nat}
theorem QY{o:Oper}(h:RV P n f w o v w'):(execOp (ev n f) o).run P w= .ok (.value v) w':=by unfold RV at h;exact h
theorem hl(ho:l[i]? =some ⟨some d,op,ty,pos,af,none⟩)(h:∀ w',RV P n f w' ⟨some d,op,ty,pos,af,none⟩ v w')(K:HL P l Q X ss (i::ds) is n (upd f d v) w):HL P l Q X ss ds (i::is) n f w:=
 Tw ho (fun _=> .inl ⟨by simp[Region.wanted],fun w' _=>by rw[vX];exact QY (h w')⟩) (.inl ⟨by simp[Region.wanted],fun w' _=>by rw[vX];exact QY (h w')⟩) K
theorem hle{u:Value}(ho:l[i]? =some ⟨some d,op,ty,pos,af,none⟩)(h:∀ w',RV P n f w' ⟨some d,op,ty,pos,af,none⟩ u w')(e:u=v)(K:HL P l Q X ss (i::ds) is n (upd f d v) w):HL P l Q X ss ds (i::is) n f w:=
 hl ho (fun w'=>e ▸ h w') K
theorem Same.cl(hs:Same X w w')(hb:b∉X)(hc:w.cell? ⟨b,o,none⟩=some v):w'.cell? ⟨b,o,none⟩=some v:=by
 have hl:b<w.heap.size:=by
  refine az (fun h=>?_);have:w.heap[b]? =none:=Array.getElem?_eq_none oG;simp[World.cell?,this]at hc
 have h:=hs.blk b hl hb;simp only[World.cell?,h]at hc ⊢;exact hc
theorem hl1{dd:TypeDesc}(ho:l[i]? =some ⟨some d,.load t x,ty,pos,af,none⟩)(hu:P.underlying t=some dd)(hd:dd.isRow=false)(hx:ev n f x= .pointer (some ⟨b,o,none⟩))(hl:w.cell? ⟨b,o,none⟩=some v)(K:HL P l Q X ss (i::ds) is n (upd f d v) w)(hb:b∉X:=by first|exact List.not_mem_nil|(simp only[List.mem_cons,List.not_mem_nil,or_false,not_or];omega)):HL P l Q X ss ds (i::is) n f w:=
 Tw ho (fun e=>by simp[Tk,ho]at e) (.inl ⟨by simp[Region.wanted],fun w' hs=>by rw[vX];exact QY (qW hu hd hx (hs.cl hb hl))⟩) K
theorem hlS{dd:TypeDesc}(ho:l[i]? =some ⟨some d,.load t x,ty,pos,af,none⟩)(hu:P.underlying t=some dd)(hd:dd.isRow=true)(hx:ev n f x= .pointer (some ⟨b,o,none⟩))(hl:w.rangeAt b o cs)(hi:(P.info? t).map (·.size)=some cs.length)(K:HL P l Q X ss (i::ds) is n (upd f d (.agg cs.toArray)) w)(hb:b∉X:=by first|exact List.not_mem_nil|(simp only[List.mem_cons,List.not_mem_nil,or_false,not_or];omega)):HL P l Q X ss ds (i::is) n f w:=
 Tw ho (fun e=>by simp[Tk,ho]at e) (.inl ⟨by simp[Region.wanted],fun w' hs=>by rw[vX];exact QY (qK hu hd hx (fun j v hj=>hs.cl hb (hl j v hj)) hi)⟩) K
theorem hg{b:Bool}(g:Tmp)(ho:l[i]? =some ⟨dst,op,ty,pos,af,some (j,b)⟩)(hj:(l.toArray[j]?).bind (·.dst)=some g)(hv:ev n f (.tmp g)= .bool b)(h:∀ w':World,True->RV P n f w' ⟨dst,op,ty,pos,af,some (j,b)⟩ v w')(K:HL P l Q X ss (i::ds) is n (J0 f dst v) w):HL P l Q X ss ds (i::is) n f w:=
 Tw ho (fun _=> .inl ⟨by rw[gv hj hv];simp,fun w' _=>by rw[vX];exact QY (h w' trivial)⟩) (.inl ⟨by rw[gv hj hv];simp,fun w' _=>by rw[vX];exact QY (h w' trivial)⟩) K
theorem hge{b:Bool}(g:Tmp){u:Value}(ho:l[i]? =some ⟨dst,op,ty,pos,af,some (j,b)⟩)(hj:(l.toArray[j]?).bind (·.dst)=some g)(hv:ev n f (.tmp g)= .bool b)(h:∀ w':World,True->RV P n f w' ⟨dst,op,ty,pos,af,some (j,b)⟩ u w')(e:u=v)(K:HL P l Q X ss (i::ds) is n (J0 f dst v) w):HL P l Q X ss ds (i::is) n f w:=
 hg g ho hj hv (fun w' hs=>e ▸ h w' hs) K
theorem hg1{b':Bool}{dd:TypeDesc}(g:Tmp)(ho:l[i]? =some ⟨some d,.load t x,ty,pos,af,some (j,b')⟩)(hj:(l.toArray[j]?).bind (·.dst)=some g)(hv:ev n f (.tmp g)= .bool b')(hu:P.underlying t=some dd)(hd:dd.isRow=false)(hx:ev n f x= .pointer (some ⟨b,o,none⟩))(hl:w.cell? ⟨b,o,none⟩=some v)(K:HL P l Q X ss (i::ds) is n (upd f d v) w)(hb:b∉X:=by first|exact List.not_mem_nil|(simp only[List.mem_cons,List.not_mem_nil,or_false,not_or];omega)):HL P l Q X ss ds (i::is) n f w:=
 Tw ho (fun e=>by simp[Tk,ho]at e) (.inl ⟨by rw[gv hj hv];simp,fun w' hs=>by rw[vX];exact QY (qW hu hd hx (hs.cl hb hl))⟩) K
theorem hgS{b':Bool}{dd:TypeDesc}(g:Tmp)(ho:l[i]? =some ⟨some d,.load t x,ty,pos,af,some (j,b')⟩)(hj:(l.toArray[j]?).bind (·.dst)=some g)(hv:ev n f (.tmp g)= .bool b')(hu:P.underlying t=some dd)(hd:dd.isRow=true)(hx:ev n f x= .pointer (some ⟨b,o,none⟩))(hl:w.rangeAt b o cs)(hi:(P.info? t).map (·.size)=some cs.length)(K:HL P l Q X ss (i::ds) is n (upd f d (.agg cs.toArray)) w)(hb:b∉X:=by first|exact List.not_mem_nil|(simp only[List.mem_cons,List.not_mem_nil,or_false,not_or];omega)):HL P l Q X ss ds (i::is) n f w:=
 Tw ho (fun e=>by simp[Tk,ho]at e) (.inl ⟨by rw[gv hj hv];simp,fun w' hs=>by rw[vX];exact QY (qK hu hd hx (fun j v hj=>hs.cl hb (hl j v hj)) hi)⟩) K
theorem hsk{b:Bool}(g:Tmp)(ho:l[i]? =some ⟨dst,op,ty,pos,af,some (j,b)⟩)(hj:(l.toArray[j]?).bind (·.dst)=some g)(hv:ev n f (.tmp g)= .bool (!b))(K:HL P l Q X ss (i::ds) is n (J0 f dst undef) w):HL P l Q X ss ds (i::is) n f w:=
 Tw ho (fun _=> .inr ⟨by rw[gv hj hv];cases b<;>rfl,rfl⟩) (.inr ⟨by rw[gv hj hv];cases b<;>rfl,rfl⟩) K
theorem h_cases(t:Nat){b:Bool}(hv:ev n f (.tmp t)= .bool b)(h1:b=true->HL P l Q X ss ds is n (upd f t (.bool true)) w)(h2:b=false->HL P l Q X ss ds is n (upd f t (.bool false)) w):HL P l Q X ss ds is n f w:=by
 have hf:=Vj hv nu;cases b
 ·have:=h2 rfl;rwa[u5 hf]at this
 ·have:=h1 rfl;rwa[u5 hf]at this
def QH(P:Program)(l:List Oper)(Q:Exit->Act->World->Prop)(S:World->Prop)(ss ds is:List Nat):Exit->Act->World->Prop
 | .normal,a,w=>Region.noSelect l.toArray=true->okL l ss ds is=true->PQ Q->((∀ s∈ss,(mk l.length ds).getD s false=false)->S w)/\Q9 P .any l.toArray Q S ss is.length (mk l.length ds) a w
 | e,a,w=>Q e a w
theorem wp_qh{S:World->Prop}{o:Oper}{a:Act}{K:Act->World->Prop}(h:o.wp P a w K (QH P l Q S ss ds is)):o.wp P a w K Q:=by
 unfold Oper.wp at *
 generalize (execOp a.eval o).run P w=r at *
 cases r with
 | ok x w'=>cases x<;>exact h
 | halt x w'=>cases x<;>exact h
theorem e_H{X X':List Nat}(hs:Same X w0 w)(hX:∀ g∈X',g∈X\/w0.heap.size<=g)(h:HL P l Q X' ss ds is n f w):EX (QH P l Q (fun w'=>Same X w0 w') ss ds is) .normal n f w:=by
 unfold EX;exact fun h2 hc hQ=>⟨fun _=>hs,S3 (fun w' (h':Same X' w w')=>⟨h'.os.trans hs.os,h'.tape.trans hs.tape,h'.output.trans hs.output,nLT hs.size h'.size,fun k hk hx=>(h'.blk k (nLL hk hs.size) (fun hm=>(hX k hm).elim hx (fun h2=>by omega))).trans (hs.blk k hk hx)⟩) _ _ _ _ (h h2 hc hQ)⟩
theorem Y1(hs:Same [] w0 w)(h:HL P l Q [] ss ds is n f w):EX (QH P l Q (fun w'=>Same [] w0 w') ss ds is) .normal n f w:=e_H hs (fun _ hg=> .inl hg) h
theorem okL_sub{ss':List Nat}(h:∀ s∈ss',s∈ss):∀(is ds:List Nat),okL l ss ds is=true->okL l ss' ds is=true
 | [],_,hc=>hc
 | i::is,ds,hc=>by
  simp only[okL,Bool.and_eq_true,Bool.or_eq_true]at hc ⊢
  refine⟨hc.1.imp (fun⟨a,b,c⟩=>⟨a,b,?_⟩) id,okL_sub h is _ hc.2⟩
  simp only[wtO,wtB,Bool.or_eq_true,Bool.and_eq_true,List.all_eq_true,List.isEmpty_iff]at c ⊢
  rcases c with c|⟨c1,c2⟩|⟨c1,c2⟩
  ·left
   subst c
   cases ss' with
   | nil=>rfl
   | cons a r=>exact absurd (h a (au ..)) (by simp)
  ·exact .inr (.inl ⟨fun s hs=>c1 s (h s hs),c2⟩)
  ·exact .inr (.inr ⟨c1,fun s hs=>c2 s (h s hs)⟩)
theorem CQ{S:World->Prop}(ss':List Nat)(h:HL P l Q [] ss' ds is n f w)(hv:(ss.any (fun s=>(mk l.length ds).getD s false)&&ss'.all ss.contains)=true:=by kernel_rfl):EX (QH P l Q S ss ds is) .normal n f w:=by
 unfold EX;simp only[Bool.and_eq_true,List.any_eq_true,List.all_eq_true]at hv;obtain⟨⟨s,hs,hl⟩,hsub⟩:=hv;exact fun h2 hc hQ=>⟨(fun h0=>by rw[h0 s hs]at hl;cases hl),WJ hs _ _ _ _ hl (h h2 (okL_sub (fun x hx=>by simpa using hsub x hx) _ _ hc) hQ)⟩
theorem h1{o:Oper}(ho:l[i]? =some o)(h:WL P l.toArray (QH P l Q (fun w'=>Same X w w') ss (i::ds) is) [o] n f w)(hr:Region.ready .any l.toArray (mk l.length ds)= [i]:=by kernel_rfl):HL P l Q X ss ds (i::is) n f w:=by
 intro h2 hc hQ;simp only[okL,Bool.and_eq_true]at hc;refine⟨fun h0=>absurd (hr ▸ h0) (by simp),fun j hj=>?_⟩;rw[hr]at hj;rw[List.mem_singleton.1 hj];unfold wpOp;have ho':(l.toArray)[i]? =some o:=by simpa using ho
 simp only[ho'];unfold WL wpList at h;by_cases hwt:Region.wanted o (yielded l.toArray (AF n f).tmps)=true
 ·rw[if_pos hwt]at h ⊢
  rcases h with h|h
  ·exact .inl (Oper.wp_mono (fun a' w' h'=>(show QH P l Q _ _ _ _ .normal a' w' from h') h2 hc.2 hQ) (wp_qh h))
  ·exact .inr h
 ·rw[if_neg hwt]at h ⊢
  exact(show QH P l Q _ _ _ _ .normal _ w from h) h2 hc.2 hQ
theorem h_end(h:EX Q .normal n f w):HL P l Q X ss ds [] n f w:=fun _ hc _=>by
 unfold EX at h
 exact⟨by simpa[okL]using hc,h⟩
theorem hcl(Rk:Value->World->Prop){F:FuncId}{xs:Array Operand}{ats:Array TypeId}{args:List Value}{R:Ending->World->Prop}(ho:l[i]? =some ⟨some d,.call { callee:= .value (.func F),args:=xs,argTypes:=ats },ty,pos,af,none⟩)(hF:zk P F=true)(hc:Calls P F args.toArray w R)(a1:xs.toList.map (ev n f)=args)
  (hR:∀ e' w1,R e' w1->∃ v,e'= .returned v/\Same [] w w1/\Rk v w1) (K:∀ v w1,Same [] w w1->Rk v w1->HL P l Q X ss (i::ds) is n (upd f d v) w1) (hr:Region.ready .any l.toArray (mk l.length ds)= [i]:=by kernel_rfl):HL P l Q X ss ds (i::is) n f w:=by
 refine h1 ho (zX hF hc a1 (fun e' w1 h=>?_)) hr;obtain⟨v,h1,h2,h3⟩:=hR e' w1 h;exact⟨v,h1,x6 (e_H (h2.weak (by simp)) (fun g hg=> .inl hg) (K v w1 h2 h3))⟩
theorem a_tk(i:Nat){listed:Array Bool}(ho:l[i]? =some ⟨some d,op,ty,pos,af,none⟩)(h:∀ w',RV P n f w' ⟨some d,op,ty,pos,af,none⟩ v w')(K:WA P l Q k (listed.setIfInBounds i true) n (upd f d v) w)(hc:(Region.noSelect l.toArray&&(Region.free .any l.toArray listed i&&(Region.ready .any l.toArray listed).contains i))=true:=by kernel_rfl)(hQ:PQ Q:=by first|(intro d;cases d<;>exact fun _ _ _ _ h=>h)|(have h:=‹PQ _›;exact fun d v c a w k=>h d v c a w k)):WA P l Q (k+1) listed n f w:=by
 simp only[Bool.and_eq_true]at hc;obtain⟨h2,h3,h4⟩:=hc;unfold WA at K ⊢;refine wpAny_take (by simpa using ho) h2 h3 h4 (hQ _ _) (.inl ⟨by simp[Region.wanted],fun w'=>by rw[vX];exact QY (h w')⟩) ?_;rw[MQ];exact K
end held
attribute [irreducible] HL
end
structure Ty where
 name:ByteArray
 par:List Int
structure Ft where
 name:ByteArray
 of:Int
 val:Int
abbrev Fl:=Int×Int
def flV(p:Fl):Value:= .agg #[.int .i64 p.1,.int .i64 p.2]
theorem y8{c i:Int}{p:Fl}(h:p=(c,i)):Ending.returned (.agg [.int .i64 c,.int .i64 i].toArray)= .returned (flV p):=by rw[h];rfl
def vJ:Nat:=9223372036854775807
def IntsIn(w:World)(A:Option Addr)(xs:List Int):Prop:=
 xs.length<=vJ/\(xs≠[]->∃ b o,A=some ⟨b,o,none⟩/\b<w.heap.size/\∀ k (h:k<xs.length),w.cell? ⟨b,o+k*1,none⟩=some (.int .i64 xs[k]))
theorem IntsIn.mono{A:Option Addr}{xs:List Int}(h:IntsIn w A xs)(hb:Bel w w'):IntsIn w' A xs:=
 ⟨h.1,fun hn=>by
  obtain⟨b,o,e,hl,hc⟩:=h.2 hn
  exact⟨b,o,e,nLL hl hb.size,fun k hk=>hb.cell hl (hc k hk)⟩⟩
theorem IntsIn.at_{A:Option Addr}{xs:List Int}(h:IntsIn w A xs)(hk:k<xs.length):
  ∃ b o,A=some ⟨b,o,none⟩/\b<w.heap.size/\w.cell? ⟨b,o+k*1,none⟩=some (.int .i64 xs[k]):=by
 obtain⟨b,o,e,hl,hc⟩:=h.2 (by rintro rfl;simp at hk);exact⟨b,o,e,hl,hc k hk⟩
def TyIn(w:World)(b o:Nat)(t:Ty):Prop:=∃ A c,w.rangeAt b o [.string t.name,.slice A t.par.length c]/\IntsIn w A t.par
def TypesIn(w:World)(A:Option Addr)(l:List Ty):Prop:=
 l.length<=vJ/\(l≠[]->∃ b o,A=some ⟨b,o,none⟩/\b<w.heap.size/\∀ k (h:k<l.length),TyIn w b (o+k*2) l[k])
theorem TyIn.mono{w w':World}{b o:Nat}{t:Ty}(h:TyIn w b o t)(hb:Bel w w')(hl:b<w.heap.size):TyIn w' b o t:=by
 obtain⟨A,c,h1,h2⟩:=h;exact⟨A,c,hb.range hl h1,h2.mono hb⟩
theorem TypesIn.mono{w w':World}{A:Option Addr}{l:List Ty}(h:TypesIn w A l)(hb:Bel w w'):TypesIn w' A l:=
 ⟨h.1,fun hn=>by
  obtain⟨b,o,e,hl,hc⟩:=h.2 hn
  exact⟨b,o,e,nLL hl hb.size,fun k hk=>(hc k hk).mono hb hl⟩⟩
theorem TypesIn.at_{A:Option Addr}{l:List Ty}(h:TypesIn w A l)(hb:Bel w w')(hk:k<l.length):
  ∃ b o A' c,A=some ⟨b,o,none⟩/\b<w.heap.size/\w'.rangeAt b (o+k*2) [.string (l[k]).name,.slice A' (l[k]).par.length c]/\IntsIn w A' (l[k]).par:=by
 obtain⟨b,o,e,hl,hc⟩:=h.2 (by rintro rfl;simp at hk);obtain⟨A',c,h1,h2⟩:=hc k hk;exact⟨b,o,A',c,e,hl,hb.range hl h1,h2⟩
def FtIn(w:World)(b o:Nat)(t:Ft):Prop:=w.rangeAt b o [.string t.name,.int .i64 t.of,.int .i64 t.val]
def FeatsIn(w:World)(A:Option Addr)(l:List Ft):Prop:=
 l.length<=vJ/\(l≠[]->∃ b o,A=some ⟨b,o,none⟩/\b<w.heap.size/\∀ k (h:k<l.length),FtIn w b (o+k*3) l[k])
theorem FeatsIn.mono{A:Option Addr}{l:List Ft}(h:FeatsIn w A l)(hb:Bel w w'):FeatsIn w' A l:=
 ⟨h.1,fun hn=>by
  obtain⟨b,o,e,hl,hc⟩:=h.2 hn
  exact⟨b,o,e,nLL hl hb.size,fun k hk=>hb.range hl (hc k hk)⟩⟩
theorem FeatsIn.at_{A:Option Addr}{l:List Ft}(h:FeatsIn w A l)(hb:Bel w w')(hk:k<l.length):
  ∃ b o,A=some ⟨b,o,none⟩/\b<w.heap.size/\w'.rangeAt b (o+k*3) [.string (l[k]).name,.int .i64 (l[k]).of,.int .i64 (l[k]).val]:=by
 obtain⟨b,o,e,hl,hc⟩:=h.2 (by rintro rfl;simp at hk);exact⟨b,o,e,hl,hb.range hl (hc k hk)⟩
def uj(i:Int):Int->List Int->Int
 | _,[]=>0
 | last,p::ps=>if p<0\/i<=p then 3 else if p<=last then 13 else uj i p ps
def qJ(f:Nat->Int):Nat->Nat->Fl
 | _,0=>(0,0)
 | i,m+1=>if f i≠0 then (f i,(i:Int))else qJ f (i+1) m
theorem yw{c:Int}(hm:0<m)(hc:f i=c)(h:c≠0):qJ f i m=(c,(i:Int)):=by
 subst hc;cases m with
 | zero=>omega
 | succ m=>simp[qJ,h]
theorem uy(hm:i<n)(h:f i=0):qJ f i (n-i)=qJ f (i+1) (n-(i+1)):=by
 obtain⟨m,hm'⟩:∃ m,n-i=m+1:=⟨n-i-1,by omega⟩
 rw[hm',show n-(i+1)=m from by omega];simp[qJ,h]
theorem gz(h:n<=i):qJ f i (n-i)=(0,0):=by
 rw[show n-i=0 from by omega];rfl
def oX(l:List ByteArray)(s:ByteArray):Bool:=l.any (fun u=>decide (u=s))
theorem E1(l:List ByteArray)(u s:ByteArray):oX (l++[u]) s=(oX l s||decide (u=s)):=by simp[oX]
theorem QZ{α:Type}(l:List α)(hk:k<l.length):l.take (k+1)=l.take k++[l[k]]:=by
 rw[List.take_succ_eq_append_getElem hk]
section
theorem j6{α:Type}{p:Nat->α->Prop}(h:∀ i,i<n->∃ x,p i x):∃ l:List α,l.length=n/\∀ k (hk:k<l.length),p k l[k]:=by
 induction n with
 | zero=>exact⟨[],rfl,fun k hk=>by simp at hk⟩
 | succ n ih=>
  obtain⟨l,hl,hp⟩:=ih (fun i hi=>h i oG);obtain⟨x,hx⟩:=h n oG;refine⟨l++[x],by simp[hl],fun k hk=>?_⟩;by_cases e:k<l.length
  ·rw[List.getElem_append_left e];exact hp k e
  ·have e2:k=l.length:=by simp at hk;omega
   subst e2;have e3:(l++[x])[l.length]'hk=x:=by simp
   rw[e3,hl];exact hx
section
variable {H:Type} {enc:TypeId×Value->H} {P:Program} {w:World} {base:Nat} {spare:Nat->Bool} {held:Bool}
theorem vY{v':Value}(h:[v]= [v']):v=v':=by cases h;rfl
theorem Mz{a2:Nat}{x:DataW H×List MemPlace}(ht:P.underlying t=some (.slice e))(hsz:P.cellsOf e=sz)(a1:0<sz)(h:DataW.trod enc P w base spare held a2 t [v]=some x):
  ∃ A len c,v= .slice A len c/\len<=c/\c<=vJ/\(len≠0->∃ b o,A=some ⟨b,o,none⟩/\b<w.heap.size/\∀ i,i<len->∃ cs k y,cs.length=sz/\w.rangeAt b (o+i*sz) cs/\DataW.trod enc P w base spare held k e cs=some y):=by
 rcases open_slice ht h with ⟨hc,_⟩|⟨a,len,cap,m,n,D,Pl,hc,hb,hl,hm,hmm,_,hi⟩
 ·rw[vY hc]
  exact⟨none,0,0,rfl,ae _,ad _,fun h=>absurd rfl h⟩
 ·rw[vY hc]
  rw[hsz]at hi;refine⟨some a,len,cap,rfl,hl,hm,fun h0=>?_⟩;have hlm:len<=m:=by rw[hmm];split<;>omega
  obtain⟨b,o,s⟩:=a;have hsp:s=none/\b<w.heap.size:=by
   obtain⟨cs,h1,_⟩:=hi 0 oG;obtain⟨_,h3,h4⟩:=World.cells?_some h1;have h5:=h4 0 a1;have h6:cs[0]? =some (cs[0]'oG):=aQ oG;have h7:(Addr.add (Addr.add ⟨b,o,s⟩ (0*sz)) 0)=⟨b,o,s⟩:=by simp[Addr.add]
   rw[h7,h6]at h5;exact⟨World.cell?_spot h5,Go.Clock.block_lt h5⟩
  obtain⟨rfl,hlt⟩:=hsp;refine⟨b,o,rfl,hlt,fun i hil=>?_⟩;obtain⟨cs,h1,h2⟩:=hi i oG;obtain⟨_,h3,h4⟩:=World.cells?_some h1;refine⟨cs,n,_,h3,fun j v hj=>?_,h2⟩;have hjl:=(aC.1 hj).1;have h5:=h4 j oG;rw[Addr.add_mid,Addr.add_mid]at h5;rw[h5];exact hj
theorem ints_open{x:DataW H×List MemPlace}(ht:P.underlying t=some (.slice e))(he:P.underlying e=some (.int .i64))(hsz:P.cellsOf e=1)(h:DataW.trod enc P w base spare held a1 t [v]=some x):
  ∃ A xs c,v= .slice A (List.length xs) c/\xs.length<=c/\IntsIn w A xs:=by
 obtain⟨A,len,c,rfl,hl,hm,hx⟩:=Mz ht hsz dE h;by_cases h0:len=0
 ·subst h0
  exact⟨A,[],c,rfl,ad _,ad _,fun h=>absurd rfl h⟩
 ·obtain⟨b,o,rfl,hlt,hc⟩:=hx h0
  obtain⟨xs,hxl,hxs⟩:=j6 (p:=fun i (z:Int)=>w.cell? ⟨b,o+i*1,none⟩=some (.int .i64 z)) (n:=len) (fun i hi=>by
   obtain⟨cs,k,y,h1,h2,h3⟩:=hc i hi;obtain⟨z,rfl,_,_⟩:=DataW.trod_int he h3
   exact⟨z,h2 0 _ rfl⟩)
  subst hxl;exact⟨_,xs,c,rfl,hl,nLT hl hm,fun _=>⟨b,o,rfl,hlt,hxs⟩⟩
theorem Nv{f0 f1:Field}{x:DataW H×List MemPlace}(he:P.underlying e=some (.struct #[f0,f1]))(hl:cs.length=2)(o0:f0.offset=0)(o1:f1.offset=1)(c0:P.cellsOf f0.type=1)(c1:P.cellsOf f1.type=1)(h:DataW.trod enc P w base spare held a1 e cs=some x):
  ∃ v0 v1 n y0 y1,cs= [v0,v1]/\DataW.trod enc P w base spare held n f0.type [v0]=some y0/\DataW.trod enc P w base spare held n f1.type [v1]=some y1:=by
 obtain⟨y0,y1,n,_,_,h0,h1⟩:=trod_struct2 he h
 match cs,hl with
 | [v0,v1],_=>
  simp[o0,o1,c0,c1]at h0 h1;exact⟨v0,v1,n,y0,y1,rfl,h0,h1⟩
theorem RJ{f0 f1 f2:Field}{x:DataW H×List MemPlace}(he:P.underlying e=some (.struct #[f0,f1,f2]))(hl:cs.length=3)(o0:f0.offset=0)(o1:f1.offset=1)(o2:f2.offset=2)(c0:P.cellsOf f0.type=1)(c1:P.cellsOf f1.type=1)(c2:P.cellsOf f2.type=1)(h:DataW.trod enc P w base spare held a1 e cs=some x):
  ∃ v0 v1 v2 n y0 y1 y2,cs= [v0,v1,v2]/\DataW.trod enc P w base spare held n f0.type [v0]=some y0/\DataW.trod enc P w base spare held n f1.type [v1]=some y1/\DataW.trod enc P w base spare held n f2.type [v2]=some y2:=by
 obtain⟨y0,y1,y2,n,_,_,h0,h1,h2⟩:=trod_struct3 he h
 match cs,hl with
 | [v0,v1,v2],_=>
  simp[o0,o1,o2,c0,c1,c2]at h0 h1 h2;exact⟨v0,v1,v2,n,y0,y1,y2,rfl,h0,h1,h2⟩
theorem HK{ts ti a1:TypeId}{f0 f1:Field}{a2:Nat}{x:DataW H×List MemPlace}(ht:P.underlying t=some (.slice e))(he:P.underlying e=some (.struct #[f0,f1]))(hsz:P.cellsOf e=2)(o0:f0.offset=0)(o1:f1.offset=1)(e0:f0.type=ts)(e1:f1.type=a1)(hs:P.underlying ts=some .string)(hcs:P.cellsOf ts=1)(hci:P.cellsOf a1=1)
  (hti:P.underlying a1=some (.slice ti)) (hi:P.underlying ti=some (.int .i64)) (hc1:P.cellsOf ti=1) (h:DataW.trod enc P w base spare held a2 t [v]=some x):
  ∃ A l c,v= .slice A (List.length l) c/\l.length<=c/\TypesIn w A l:=by
 subst e0 e1;obtain⟨A,len,c,rfl,hl,hm,hx⟩:=Mz ht hsz dE h;by_cases h0:len=0
 ·subst h0
  exact⟨A,[],c,rfl,ad _,ad _,fun h=>absurd rfl h⟩
 ·obtain⟨b,o,rfl,hlt,hc⟩:=hx h0
  obtain⟨l,hxl,hxs⟩:=j6 (p:=fun i (z:Ty)=>TyIn w b (o+i*2) z) (n:=len) (fun i hi'=>by
   obtain⟨cs,k,y,h1,h2,h3⟩:=hc i hi';obtain⟨v0,v1,n,y0,y1,rfl,g0,g1⟩:=Nv he h1 o0 o1 hcs hci h3;obtain⟨s,h4,_,_⟩:=DataW.trod_string hs g0;obtain⟨A',xs,c',rfl,_,hin⟩:=ints_open hti hi hc1 g1;rw[vY h4]at h2
   exact⟨⟨s,xs⟩,A',c',h2,hin⟩)
  subst hxl;exact⟨_,l,c,rfl,hl,nLT hl hm,fun _=>⟨b,o,rfl,hlt,hxs⟩⟩
theorem feats_open{ts ti:TypeId}{f0 f1 f2:Field}{x:DataW H×List MemPlace}(ht:P.underlying t=some (.slice e))(he:P.underlying e=some (.struct #[f0,f1,f2]))(hsz:P.cellsOf e=3)(o0:f0.offset=0)(o1:f1.offset=1)(o2:f2.offset=2)(e0:f0.type=ts)(e1:f1.type=ti)(e2:f2.type=ti)(hs:P.underlying ts=some .string)(hcs:P.cellsOf ts=1)
  (hi:P.underlying ti=some (.int .i64)) (hc1:P.cellsOf ti=1) (h:DataW.trod enc P w base spare held a1 t [v]=some x):
  ∃ A l c,v= .slice A (List.length l) c/\l.length<=c/\FeatsIn w A l:=by
 subst e0;obtain⟨A,len,c,rfl,hl,hm,hx⟩:=Mz ht hsz dE h;by_cases h0:len=0
 ·subst h0
  exact⟨A,[],c,rfl,ad _,ad _,fun h=>absurd rfl h⟩
 ·obtain⟨b,o,rfl,hlt,hc⟩:=hx h0
  obtain⟨l,hxl,hxs⟩:=j6 (p:=fun i (z:Ft)=>FtIn w b (o+i*3) z) (n:=len) (fun i hi'=>by
   obtain⟨cs,k,y,h1,h2,h3⟩:=hc i hi';obtain⟨v0,v1,v2,n,y0,y1,y2,rfl,g0,g1,g2⟩:=RJ he h1 o0 o1 o2 hcs (by rw[e1];exact hc1) (by rw[e2];exact hc1) h3;rw[e1]at g1;rw[e2]at g2;obtain⟨s,h4,_,_⟩:=DataW.trod_string hs g0;obtain⟨z1,h5,_,_⟩:=DataW.trod_int hi g1;obtain⟨z2,h6,_,_⟩:=DataW.trod_int hi g2;rw[vY h4,vY h5,vY h6]at h2
   exact⟨⟨s,z1,z2⟩,h2⟩)
  subst hxl;exact⟨_,l,c,rfl,hl,nLT hl hm,fun _=>⟨b,o,rfl,hlt,hxs⟩⟩
theorem post_bel{f:Func}{s:ChangeSpec}{a5 a8 a2 a9:Bool}{W W':World}{args:Array Value}{ds gs:List (DataW H)}{a1 pa pv:List MemPlace}(hW:DataW.Whole enc P f.params.toList s.vars a5 W args.toList ds gs a1)
  (a6:∀(b:Nat) (sp:Nat->Bool) (hd:Bool),DataW.TrodAll enc P W' b sp hd f.resultTypes.toList (v.resultList f.resultTypes.size) (s.fn H (ds++gs)).results [])
  (a4:∀ sp:Nat->Bool,(∀ p∈a1,sp p.block=true)->DataW.TrodAll enc P W' 0 sp true f.params.toList args.toList (s.fn H (ds++gs)).args pa)
  (a3:∀ sp:Nat->Bool,(∀ p∈a1,sp p.block=true)->DataW.TrodVars enc P W' sp s.vars (s.fn H (ds++gs)).vars pv)
  (ab:a1=pa++pv) (hb:Bel W W')
  (hok:∀(j:Nat) (t:TypeId) (r:Value),f.resultTypes[j]? =some t->(v.resultList f.resultTypes.size)[j]? =some r->Value.okWide P W' .any 0 t r):
  s.post enc P f a5 a8 a2 a9 W args v W':=by
 have hlt:=fun p hp=>hW.lt p hp
 have a7:∀ p∈a1,(fun b=>decide (b<W.heap.size)) p.block=true:=fun p hp=>by simpa using hlt p hp
 refine⟨ds,gs,a1,[],pa,pv,hW,a6 _ _ _,a4 _ a7,a3 _ a7,World.keptBut_mono (fun p hp=>⟨hp,?_⟩) (hb.frame (· ∈ a1)),fun _=>?_⟩
 ·rw[ab,List.mem_append]at hp;exact .inr hp
 obtain⟨_,_,_,_,_,hz,hn⟩:=hW;refine⟨hok,_,_,([]++pa)++pv,⟨[]++pa,pv,trodAll_append (a4 _ (fun _ _=>rfl)) (a6 _ _ _),a3 _ (fun _ _=>rfl),rfl,fun b off hp=>?_,fun ha=>?_⟩,fun p hp _=>?_⟩
 ·have hin:MemPlace.cell b off∈a1:=by rw[ab];simpa using hp
  rw[hb.frozen (hlt _ hin)];exact hz b off hin
 ·have:=hn ha
  rw[ab]at this;simpa using this
 ·rw[ab];simpa using hp
end
end
section
class UndC (P:Program) (t:TypeId) (u:outParam TypeDesc):Prop where
 h:P.underlying t=some u
class SzC (P:Program) (t:TypeId) (n:outParam Nat):Prop where
 h:(P.info? t).map (·.size)=some n
abbrev xV{P:Program}{t:TypeId}{u:TypeDesc}(_:P.underlying t=some u):TypeDesc:=u
instance:UndC Tryd.prog 3 (xV U3):=⟨U3⟩
instance:UndC Tryd.prog 4 (xV U4):=⟨U4⟩
instance:UndC Tryd.prog 5 (xV U5):=⟨U5⟩
instance:UndC Tryd.prog 9 (xV U9):=⟨U9⟩
instance:UndC Tryd.prog 21 (xV Tryd.underlying21):=⟨Tryd.underlying21⟩
instance:UndC Tryd.prog 22 (xV U22):=⟨U22⟩
instance:UndC Tryd.prog 23 (xV Tryd.underlying23):=⟨Tryd.underlying23⟩
instance:UndC Tryd.prog 25 (xV U25):=⟨U25⟩
instance:UndC Tryd.prog 26 (xV U26):=⟨U26⟩
instance:UndC Tryd.prog 27 (xV U27):=⟨U27⟩
instance:UndC Tryd.prog 28 (xV U28):=⟨U28⟩
instance:UndC Tryd.prog 30 (xV U30):=⟨U30⟩
instance:UndC Tryd.prog 32 (xV U32):=⟨U32⟩
instance:UndC Tryd.prog 33 (xV U33):=⟨U33⟩
instance:UndC Tryd.prog 35 (xV U35):=⟨U35⟩
instance:UndC Tryd.prog 36 (xV U36):=⟨U36⟩
instance:UndC Tryd.prog 37 (xV U37):=⟨U37⟩
instance:UndC Tryd.prog 38 (xV U38):=⟨U38⟩
instance:UndC Tryd.prog 39 (xV U39):=⟨U39⟩
instance:UndC Tryd.prog 41 (xV U41):=⟨U41⟩
instance:UndC Tryd.prog 43 (xV U43):=⟨U43⟩
instance:UndC Tryd.prog 59 (xV U59):=⟨U59⟩
instance:UndC Tryd.prog 61 (xV U61):=⟨U61⟩
instance:UndC Tryd.prog 62 (xV U62):=⟨U62⟩
instance:UndC Tryd.prog 64 (xV U64):=⟨U64⟩
instance:UndC Tryd.prog 66 (xV U66):=⟨U66⟩
instance:UndC Tryd.prog 69 (xV U69):=⟨U69⟩
instance:UndC Tryd.prog 74 (xV U74):=⟨U74⟩
instance:UndC Tryd.prog 76 (xV U76):=⟨U76⟩
instance:UndC Tryd.prog 81 (xV Tryd.underlying81):=⟨Tryd.underlying81⟩
instance:UndC Tryd.prog 83 (xV U83):=⟨U83⟩
instance:UndC Tryd.prog 86 (xV U86):=⟨U86⟩
instance:UndC Tryd.prog 88 (xV U88):=⟨U88⟩
instance:UndC Tryd.prog 96 (xV U96):=⟨U96⟩
instance:UndC Tryd.prog 105 (xV jx):=⟨jx⟩
instance:UndC Tryd.prog 107 (xV EJ):=⟨EJ⟩
instance:UndC Tryd.prog 109 (xV Y2):=⟨Y2⟩
instance:UndC Tryd.prog 117 (xV Hj):=⟨Hj⟩
instance:UndC Tryd.prog 126 (xV U126):=⟨U126⟩
instance:UndC Tryd.prog 127 (xV VW):=⟨VW⟩
instance:UndC Tryd.prog 130 (xV CV):=⟨CV⟩
instance:UndC Tryd.prog 132 (xV R5):=⟨R5⟩
instance:UndC Tryd.prog 147 (xV Tryd.underlying147):=⟨Tryd.underlying147⟩
instance:UndC Tryd.prog 148 (xV Tryd.underlying148):=⟨Tryd.underlying148⟩
instance:UndC Tryd.prog 149 (xV Tryd.underlying149):=⟨Tryd.underlying149⟩
instance:UndC Tryd.prog 150 (xV CK):=⟨CK⟩
instance:UndC Tryd.prog 153 (xV Tryd.underlying153):=⟨Tryd.underlying153⟩
instance:UndC Tryd.prog 162 (xV Tryd.underlying162):=⟨Tryd.underlying162⟩
instance:UndC Tryd.prog 163 (xV Tryd.underlying163):=⟨Tryd.underlying163⟩
instance:UndC Tryd.prog 166 (xV Tryd.underlying166):=⟨Tryd.underlying166⟩
instance:UndC Tryd.prog 169 (xV Tryd.underlying169):=⟨Tryd.underlying169⟩
instance:UndC Tryd.prog 171 (xV Ow):=⟨Ow⟩
instance:UndC Tryd.prog 172 (xV Tryd.underlying172):=⟨Tryd.underlying172⟩
instance:UndC Tryd.prog 176 (xV U176):=⟨U176⟩
class FaC (P:Program) (t:TypeId) (i:Nat) (off:outParam Nat):Prop where
 h:∃ fs ft sz,P.underlying t=some (.struct fs)/\(P.info? ft).map (·.size)=some sz/\(sz==0)=false/\(fs[i]?).map (fun x=>(x.type,x.offset))=some (ft,off)
theorem faM{P:Program}{off ft:Nat}{fs:Array Field}(hu:P.underlying t=some (.struct fs))(hs:(P.info? ft).map (·.size)=some sz)(h0:(sz==0)=false)(hf:(fs[i]?).map (fun x=>(x.type,x.offset))=some (ft,off)):FaC P t i off:=⟨fs,ft,sz,hu,hs,h0,hf⟩
instance:SzC Tryd.prog 3 1:=⟨by kernel_rfl⟩
instance:SzC Tryd.prog 4 1:=⟨by kernel_rfl⟩
instance:SzC Tryd.prog 5 1:=⟨by kernel_rfl⟩
instance:SzC Tryd.prog 9 1:=⟨by kernel_rfl⟩
instance:SzC Tryd.prog 22 1:=⟨by kernel_rfl⟩
instance:SzC Tryd.prog 23 1:=⟨by kernel_rfl⟩
instance:SzC Tryd.prog 25 2:=⟨by kernel_rfl⟩
instance:SzC Tryd.prog 26 1:=⟨by kernel_rfl⟩
instance:SzC Tryd.prog 27 1:=⟨by kernel_rfl⟩
instance:SzC Tryd.prog 28 1:=⟨by kernel_rfl⟩
instance:SzC Tryd.prog 30 1:=⟨by kernel_rfl⟩
instance:SzC Tryd.prog 32 5:=⟨by kernel_rfl⟩
instance:SzC Tryd.prog 33 1:=⟨by kernel_rfl⟩
instance:SzC Tryd.prog 35 3:=⟨by kernel_rfl⟩
instance:SzC Tryd.prog 36 1:=⟨by kernel_rfl⟩
instance:SzC Tryd.prog 37 1:=⟨by kernel_rfl⟩
instance:SzC Tryd.prog 38 1:=⟨by kernel_rfl⟩
instance:SzC Tryd.prog 39 1:=⟨by kernel_rfl⟩
instance:SzC Tryd.prog 41 6:=⟨by kernel_rfl⟩
instance:SzC Tryd.prog 43 2:=⟨by kernel_rfl⟩
instance:SzC Tryd.prog 59 1:=⟨by kernel_rfl⟩
instance:SzC Tryd.prog 61 2:=⟨by kernel_rfl⟩
instance:SzC Tryd.prog 62 1:=⟨by kernel_rfl⟩
instance:SzC Tryd.prog 64 6:=⟨by kernel_rfl⟩
instance:SzC Tryd.prog 66 10:=⟨by kernel_rfl⟩
instance:SzC Tryd.prog 74 1:=⟨by kernel_rfl⟩
instance:SzC Tryd.prog 76 2:=⟨by kernel_rfl⟩
instance:SzC Tryd.prog 83 3:=⟨by kernel_rfl⟩
instance:SzC Tryd.prog 88 9:=⟨by kernel_rfl⟩
instance:SzC Tryd.prog 96 3:=⟨by kernel_rfl⟩
instance:SzC Tryd.prog 105 1:=⟨by kernel_rfl⟩
instance:SzC Tryd.prog 107 2:=⟨by kernel_rfl⟩
instance:SzC Tryd.prog 109 2:=⟨by kernel_rfl⟩
instance:SzC Tryd.prog 126 2:=⟨by kernel_rfl⟩
instance:SzC Tryd.prog 127 1:=⟨by kernel_rfl⟩
instance:SzC Tryd.prog 130 1:=⟨by kernel_rfl⟩
instance:SzC Tryd.prog 147 1:=⟨by kernel_rfl⟩
instance:SzC Tryd.prog 148 1:=⟨by kernel_rfl⟩
instance:SzC Tryd.prog 149 2:=⟨by kernel_rfl⟩
instance:SzC Tryd.prog 153 1:=⟨by kernel_rfl⟩
instance:SzC Tryd.prog 166 1:=⟨by kernel_rfl⟩
instance:SzC Tryd.prog 171 2:=⟨by kernel_rfl⟩
instance:SzC Tryd.prog 176 256:=⟨by kernel_rfl⟩
instance:FaC Tryd.prog 25 0 0:=faM U25 (SzC.h (t:=22)) rfl rfl
instance:FaC Tryd.prog 25 1 1:=faM U25 (SzC.h (t:=23)) rfl rfl
instance:FaC Tryd.prog 30 0 0:=faM U30 (SzC.h (t:=28)) rfl rfl
instance:FaC Tryd.prog 32 0 0:=faM U32 (SzC.h (t:=25)) rfl rfl
instance:FaC Tryd.prog 32 1 2:=faM U32 (SzC.h (t:=26)) rfl rfl
instance:FaC Tryd.prog 32 2 3:=faM U32 (SzC.h (t:=27)) rfl rfl
instance:FaC Tryd.prog 32 3 4:=faM U32 (SzC.h (t:=30)) rfl rfl
instance:FaC Tryd.prog 35 0 0:=faM U35 (SzC.h (t:=3)) rfl rfl
instance:FaC Tryd.prog 35 1 1:=faM U35 (SzC.h (t:=3)) rfl rfl
instance:FaC Tryd.prog 35 2 2:=faM U35 (SzC.h (t:=33)) rfl rfl
instance:FaC Tryd.prog 41 0 0:=faM U41 (SzC.h (t:=3)) rfl rfl
instance:FaC Tryd.prog 41 1 1:=faM U41 (SzC.h (t:=3)) rfl rfl
instance:FaC Tryd.prog 41 2 2:=faM U41 (SzC.h (t:=36)) rfl rfl
instance:FaC Tryd.prog 41 3 3:=faM U41 (SzC.h (t:=37)) rfl rfl
instance:FaC Tryd.prog 41 4 4:=faM U41 (SzC.h (t:=38)) rfl rfl
instance:FaC Tryd.prog 41 5 5:=faM U41 (SzC.h (t:=39)) rfl rfl
instance:FaC Tryd.prog 43 0 0:=faM U43 (SzC.h (t:=3)) rfl rfl
instance:FaC Tryd.prog 43 1 1:=faM U43 (SzC.h (t:=3)) rfl rfl
instance:FaC Tryd.prog 61 0 0:=faM U61 (SzC.h (t:=9)) rfl rfl
instance:FaC Tryd.prog 61 1 1:=faM U61 (SzC.h (t:=59)) rfl rfl
instance:FaC Tryd.prog 64 0 0:=faM U64 (SzC.h (t:=3)) rfl rfl
instance:FaC Tryd.prog 64 1 1:=faM U64 (SzC.h (t:=9)) rfl rfl
instance:FaC Tryd.prog 64 2 2:=faM U64 (SzC.h (t:=3)) rfl rfl
instance:FaC Tryd.prog 64 3 3:=faM U64 (SzC.h (t:=61)) rfl rfl
instance:FaC Tryd.prog 64 4 5:=faM U64 (SzC.h (t:=62)) rfl rfl
instance:FaC Tryd.prog 66 0 0:=faM U66 (SzC.h (t:=9)) rfl rfl
instance:FaC Tryd.prog 66 1 1:=faM U66 (SzC.h (t:=30)) rfl rfl
instance:FaC Tryd.prog 66 2 2:=faM U66 (SzC.h (t:=3)) rfl rfl
instance:FaC Tryd.prog 66 3 3:=faM U66 (SzC.h (t:=3)) rfl rfl
instance:FaC Tryd.prog 66 4 4:=faM U66 (SzC.h (t:=64)) rfl rfl
instance:FaC Tryd.prog 76 0 0:=faM U76 (SzC.h (t:=74)) rfl rfl
instance:FaC Tryd.prog 76 1 1:=faM U76 (SzC.h (t:=74)) rfl rfl
instance:FaC Tryd.prog 83 0 0:=faM U83 (SzC.h (t:=9)) rfl rfl
instance:FaC Tryd.prog 83 1 1:=faM U83 (SzC.h (t:=3)) rfl rfl
instance:FaC Tryd.prog 83 2 2:=faM U83 (SzC.h (t:=3)) rfl rfl
instance:FaC Tryd.prog 88 0 0:=faM U88 (SzC.h (t:=9)) rfl rfl
instance:FaC Tryd.prog 88 1 1:=faM U88 (SzC.h (t:=30)) rfl rfl
instance:FaC Tryd.prog 88 2 2:=faM U88 (SzC.h (t:=3)) rfl rfl
instance:FaC Tryd.prog 88 3 3:=faM U88 (SzC.h (t:=64)) rfl rfl
instance:FaC Tryd.prog 107 0 0:=faM EJ (SzC.h (t:=3)) rfl rfl
instance:FaC Tryd.prog 107 1 1:=faM EJ (SzC.h (t:=105)) rfl rfl
instance:FaC Tryd.prog 109 0 0:=faM Y2 (SzC.h (t:=3)) rfl rfl
instance:FaC Tryd.prog 109 1 1:=faM Y2 (SzC.h (t:=3)) rfl rfl
instance:FaC Tryd.prog 126 0 0:=faM U126 (SzC.h (t:=9)) rfl rfl
instance:FaC Tryd.prog 126 1 1:=faM U126 (SzC.h (t:=36)) rfl rfl
instance:FaC Tryd.prog 132 0 0:=faM R5 (SzC.h (t:=76)) rfl rfl
instance:FaC Tryd.prog 132 1 2:=faM R5 (SzC.h (t:=36)) rfl rfl
instance:FaC Tryd.prog 132 2 3:=faM R5 (SzC.h (t:=36)) rfl rfl
instance:FaC Tryd.prog 132 3 4:=faM R5 (SzC.h (t:=130)) rfl rfl
instance:FaC Tryd.prog 171 0 0:=faM Ow (SzC.h (t:=5)) rfl rfl
instance:FaC Tryd.prog 171 1 1:=faM Ow (SzC.h (t:=5)) rfl rfl
theorem gdA{b:Bool}{p q:Prop}(h:p)(e:b=true:=by rfl):(b=true->p)/\(b=false->q):=⟨fun _=>h,fun k=>by rw[e]at k;cases k⟩
section held
variable {P:Program} {Q:Exit->Act->World->Prop} {n:Nw} {f:Fr} {w:World} {l:List Oper} {X ss ds is:List Nat} {op:Op} {ty t:TypeId} {pos:String} {af:Array Edge} {v:Value} {x:Operand} {d:Tmp} {i:Nat}
theorem hlv(ho:l[i]? =some ⟨some d,op,ty,pos,af,none⟩)(hL:Tk l i=true)(h:∀ w',Same X w w'->RV P n f w' ⟨some d,op,ty,pos,af,none⟩ v w')(K:HL P l Q X ss (i::ds) is n (upd f d v) w):HL P l Q X ss ds (i::is) n f w:=
 Tw ho (fun e=>by rw[hL]at e;cases e) (.inl ⟨by simp[Region.wanted],fun w' hs=>by rw[vX];exact QY (h w' hs)⟩) K
theorem hgv{b:Bool}(g:Tmp)(ho:l[i]? =some ⟨dst,op,ty,pos,af,some (j,b)⟩)(hj:(l.toArray[j]?).bind (·.dst)=some g)(hv:ev n f (.tmp g)= .bool b)(hL:Tk l i=true)(h:∀ w',Same X w w'->RV P n f w' ⟨dst,op,ty,pos,af,some (j,b)⟩ v w')(K:HL P l Q X ss (i::ds) is n (J0 f dst v) w):HL P l Q X ss ds (i::is) n f w:=
 Tw ho (fun e=>by rw[hL]at e;cases e) (.inl ⟨by rw[gv hj hv];simp,fun w' hs=>by rw[vX];exact QY (h w' hs)⟩) K
def UpB(b:Nat)(w w':World):Prop:=∀ c,w.heap[b]? =some c->w'.heap[b]? =some c
theorem UpB.rf:UpB b w w:=fun _ h=>h
theorem UpB.fX(hs:Same X w w')(hX:b∉X)(h:UpB b w' w2):UpB b w w2:=fun c hc=>by
 have hl:b<w.heap.size:=by
  refine az (fun hn=>?_);rw[Array.getElem?_eq_none oG]at hc;cases hc
 exact h c ((hs.blk b hl hX).trans hc)
theorem UpB.f0(hs:Same [] w w')(h:UpB b w' w2):UpB b w w2:=UpB.fX hs List.not_mem_nil h
theorem UpB.blk{tb:TypeId}{cs:Array Value}(h:Blk w0 b tb cs)(u:UpB b w0 w):Blk w b tb cs:=u _ h
def UpN(n:Nat)(w w':World):Prop:=∀ w0:World,w0.heap.size=n->Bel w0 w->Bel w0 w'
theorem UpN.rf{n:Nat}:UpN n w w:=fun _ _ h=>h
theorem UpN.f0{n:Nat}(hs:Same [] w w')(h:UpN n w' w2):UpN n w w2:=fun w0 e h0=>h w0 e (h0.tr0 hs)
theorem UpN.f1{n:Nat}(hs:Same [b] w w')(hb:n<=b)(h:UpN n w' w2):UpN n w w2:=fun w0 e h0=>h w0 e (h0.tr1 hs (by rw[e];exact hb))
theorem Bel.fw(h:Bel w0 w)(u:UpN w0.heap.size w w'):Bel w0 w':=u w0 rfl h
theorem Bel.rng{xs:List Value}(hc:w0.rangeAt b o xs)(hb:b<w0.heap.size)(h:Bel w0 w):w.rangeAt b o xs:=h.range hb hc
end held
theorem Blk.u{w0 w:World}{b:Nat}{tb:TypeId}{cs:Array Value}(h:Blk w0 b tb cs)(u:UpB b w0 w:=by focus repeat (first|exact UpB.rf|(apply UpB.f0;assumption)|(apply UpB.fX;assumption;(simp only[List.mem_cons,List.not_mem_nil,or_false,not_or];omega)))):Blk w b tb cs:=u _ h
theorem Bel.u{w0 w1 w:World}(h:Bel w0 w1)(u:UpN w0.heap.size w1 w:=by focus repeat (first|exact UpN.rf|(apply UpN.f0;assumption)|(apply UpN.f1;assumption;omega))):Bel w0 w:=u w0 rfl h
variable {P:Program} {Q:Exit->Act->World->Prop} {n:Nw} {f:Fr} {w:World} {ops:Array Oper} {rest:List Oper} {d:Nat} {dst:Option Tmp} {gd:Option (Nat×Bool)} {ty t:TypeId} {pos:String} {af:Array Edge} {x y z:Operand}
theorem r_mvI{a1:_}{b1:_}(h:ev n f x= .int a1 b1):RV P n f w ⟨dst,.move x,ty,pos,af,gd⟩ (.int a1 b1) w:=x7 h
theorem r_asI{a1:_}{b1:_}(h:ev n f x= .int a1 b1):RV P n f w ⟨dst,.assign x,ty,pos,af,gd⟩ (.int a1 b1) w:=uJ h
theorem r_ptI{a1:_}{b1:_}(hc:ev n f x= .bool true)(h:ev n f y= .int a1 b1):RV P n f w ⟨dst,.pick x y z,ty,pos,af,gd⟩ (.int a1 b1) w:=FJ hc h
theorem r_pfI{a1:_}{b1:_}(hc:ev n f x= .bool false)(h:ev n f z= .int a1 b1):RV P n f w ⟨dst,.pick x y z,ty,pos,af,gd⟩ (.int a1 b1) w:=FK hc h
theorem r_mvB{a1:_}(h:ev n f x= .bool a1):RV P n f w ⟨dst,.move x,ty,pos,af,gd⟩ (.bool a1) w:=x7 h
theorem r_asB{a1:_}(h:ev n f x= .bool a1):RV P n f w ⟨dst,.assign x,ty,pos,af,gd⟩ (.bool a1) w:=uJ h
theorem r_ptB{a1:_}(hc:ev n f x= .bool true)(h:ev n f y= .bool a1):RV P n f w ⟨dst,.pick x y z,ty,pos,af,gd⟩ (.bool a1) w:=FJ hc h
theorem r_pfB{a1:_}(hc:ev n f x= .bool false)(h:ev n f z= .bool a1):RV P n f w ⟨dst,.pick x y z,ty,pos,af,gd⟩ (.bool a1) w:=FK hc h
theorem r_mvS{a1:_}{b1:_}{c1:_}(h:ev n f x= .slice a1 b1 c1):RV P n f w ⟨dst,.move x,ty,pos,af,gd⟩ (.slice a1 b1 c1) w:=x7 h
theorem r_asS{a1:_}{b1:_}{c1:_}(h:ev n f x= .slice a1 b1 c1):RV P n f w ⟨dst,.assign x,ty,pos,af,gd⟩ (.slice a1 b1 c1) w:=uJ h
theorem r_ptS{a1:_}{b1:_}{c1:_}(hc:ev n f x= .bool true)(h:ev n f y= .slice a1 b1 c1):RV P n f w ⟨dst,.pick x y z,ty,pos,af,gd⟩ (.slice a1 b1 c1) w:=FJ hc h
theorem r_pfS{a1:_}{b1:_}{c1:_}(hc:ev n f x= .bool false)(h:ev n f z= .slice a1 b1 c1):RV P n f w ⟨dst,.pick x y z,ty,pos,af,gd⟩ (.slice a1 b1 c1) w:=FK hc h
theorem r_mvT{a1:_}(h:ev n f x= .string a1):RV P n f w ⟨dst,.move x,ty,pos,af,gd⟩ (.string a1) w:=x7 h
theorem r_asT{a1:_}(h:ev n f x= .string a1):RV P n f w ⟨dst,.assign x,ty,pos,af,gd⟩ (.string a1) w:=uJ h
theorem r_ptT{a1:_}(hc:ev n f x= .bool true)(h:ev n f y= .string a1):RV P n f w ⟨dst,.pick x y z,ty,pos,af,gd⟩ (.string a1) w:=FJ hc h
theorem r_pfT{a1:_}(hc:ev n f x= .bool false)(h:ev n f z= .string a1):RV P n f w ⟨dst,.pick x y z,ty,pos,af,gd⟩ (.string a1) w:=FK hc h
theorem r_mvF{a1:_}{b1:_}{c1:_}(h:ev n f x= .func a1 b1 c1):RV P n f w ⟨dst,.move x,ty,pos,af,gd⟩ (.func a1 b1 c1) w:=x7 h
theorem r_asF{a1:_}{b1:_}{c1:_}(h:ev n f x= .func a1 b1 c1):RV P n f w ⟨dst,.assign x,ty,pos,af,gd⟩ (.func a1 b1 c1) w:=uJ h
theorem r_ptF{a1:_}{b1:_}{c1:_}(hc:ev n f x= .bool true)(h:ev n f y= .func a1 b1 c1):RV P n f w ⟨dst,.pick x y z,ty,pos,af,gd⟩ (.func a1 b1 c1) w:=FJ hc h
theorem r_pfF{a1:_}{b1:_}{c1:_}(hc:ev n f x= .bool false)(h:ev n f z= .func a1 b1 c1):RV P n f w ⟨dst,.pick x y z,ty,pos,af,gd⟩ (.func a1 b1 c1) w:=FK hc h
theorem r_mvU{a1:_}(h:ev n f x= .tuple a1):RV P n f w ⟨dst,.move x,ty,pos,af,gd⟩ (.tuple a1) w:=x7 h
theorem r_asU{a1:_}(h:ev n f x= .tuple a1):RV P n f w ⟨dst,.assign x,ty,pos,af,gd⟩ (.tuple a1) w:=uJ h
theorem r_ptU{a1:_}(hc:ev n f x= .bool true)(h:ev n f y= .tuple a1):RV P n f w ⟨dst,.pick x y z,ty,pos,af,gd⟩ (.tuple a1) w:=FJ hc h
theorem r_pfU{a1:_}(hc:ev n f x= .bool false)(h:ev n f z= .tuple a1):RV P n f w ⟨dst,.pick x y z,ty,pos,af,gd⟩ (.tuple a1) w:=FK hc h
theorem r_mvG{a1:_}(h:ev n f x= .agg a1):RV P n f w ⟨dst,.move x,ty,pos,af,gd⟩ (.agg a1) w:=x7 h
theorem r_asG{a1:_}(h:ev n f x= .agg a1):RV P n f w ⟨dst,.assign x,ty,pos,af,gd⟩ (.agg a1) w:=uJ h
theorem r_ptG{a1:_}(hc:ev n f x= .bool true)(h:ev n f y= .agg a1):RV P n f w ⟨dst,.pick x y z,ty,pos,af,gd⟩ (.agg a1) w:=FJ hc h
theorem r_pfG{a1:_}(hc:ev n f x= .bool false)(h:ev n f z= .agg a1):RV P n f w ⟨dst,.pick x y z,ty,pos,af,gd⟩ (.agg a1) w:=FK hc h
theorem r_ldC{dd:TypeDesc}{tb:TypeId}{cs:Array Value}[hu:UndC P t dd](hd:dd.isRow=false)(hx:ev n f x= .pointer (some ⟨b,o,none⟩))(hb:Blk w b tb cs)(hc:cs[o]? =some v):RV P n f w ⟨dst,.load t x,ty,pos,af,gd⟩ v w:=qW hu.h hd hx (hb.cell hc)
theorem r_ldD{dd:TypeDesc}[hu:UndC P t dd](hd:dd.isRow=true)(hx:ev n f x= .pointer (some ⟨b,o,none⟩))(hc:w.rangeAt b o cs)(hi:(P.info? t).map (·.size)=some cs.length):RV P n f w ⟨dst,.load t x,ty,pos,af,gd⟩ (.agg cs.toArray) w:=qK hu.h hd hx hc hi
theorem r_faC{o' off:Nat}[hu:FaC P t i off](hx:ev n f x= .pointer (some ⟨b,o,none⟩))(ho:o+off=o'):RV P n f w ⟨dst,.fieldAddr t x i,ty,pos,af,gd⟩ (.pointer (some ⟨b,o',none⟩)) w:=by
 obtain⟨fs,ft,sz,h1,h2,h3,h4⟩:=hu.h;exact Z5 h1 h2 (by simpa using h3) h4 hx ho
theorem r_lnC{A:Option Addr}{c:Nat}[hu:UndC P t (.slice e)](hx:ev n f x= .slice A m c):RV P n f w ⟨dst,.call { callee:= .builtin .len,args:=#[x],argTypes:=#[t] },ty,pos,af,gd⟩ (.int .i64 (m:Int)) w:=O0 hu.h hx
theorem r_lsC{p:ByteArray}[hu:UndC P t .string](hx:ev n f x= .string p):RV P n f w ⟨dst,.call { callee:= .builtin .len,args:=#[x],argTypes:=#[t] },ty,pos,af,gd⟩ (.int .i64 (p.size:Int)) w:=r_lenS hu.h hx
theorem r_iaC{o' c:Nat}[hu:UndC P t (.slice e)][hs:SzC P e sz](hx:ev n f x= .slice (some ⟨b,o,none⟩) m c)(hy:ev n f y= .int .i64 (i:Int))(ho:o+i*sz=o')(hi:i<m):RV P n f w ⟨dst,.indexAddr t x y,ty,pos,af,gd⟩ (.pointer (some ⟨b,o',none⟩)) w:=xW hu.h hs.h hx hy hi ho
theorem rvA{o:Oper}(h:RV P n f w o v w2:=by first|(apply r_mvI;exact rfl)|(apply r_mvB;exact rfl)|(apply r_asI;exact rfl)|(apply r_asB;exact rfl)|(apply r_ldC;exact rfl;exact rfl;(first|assumption|(apply UpB.blk;assumption;focus repeat (first|exact UpB.rf|(apply UpB.f0;assumption)|(apply UpB.fX;assumption;(simp only[List.mem_cons,List.not_mem_nil,or_false,not_or];omega)))));exact rfl)|(apply r_faC;exact rfl;exact rfl)|(apply r_mvS;exact rfl)|(apply r_mvT;exact rfl)|(apply r_ptB;exact rfl;exact rfl)|(apply r_pfB;exact rfl;exact rfl)|(apply Y8;exact rfl;exact rfl)|(apply r_eql;exact rfl;exact rfl)|(apply r_lnC;exact rfl)|(apply r_ldD;exact rfl;exact rfl;(first|(apply Blk.range0;(first|assumption|(apply UpB.blk;assumption;focus repeat (first|exact UpB.rf|(apply UpB.f0;assumption)|(apply UpB.fX;assumption;(simp only[List.mem_cons,List.not_mem_nil,or_false,not_or];omega))))))|(apply Bel.rng;assumption;assumption;(first|assumption|(apply Bel.fw;assumption;focus repeat (first|exact UpN.rf|(apply UpN.f0;assumption)|(apply UpN.f1;assumption;omega))))));exact SzC.h.trans rfl)|(apply X0;exact rfl;exact rfl;exact rfl;omega)|(apply r_iaC;exact rfl;exact rfl;exact rfl;omega)|(apply r_neq;exact rfl;exact rfl)|(apply FW;exact rfl;exact rfl)|(apply r_geq;exact rfl;exact rfl)|(apply r_leq;exact rfl;exact rfl)|(apply r_lsC;exact rfl)|(apply r_notd;exact rfl)|(apply r_not;exact rfl)|(apply r_eqlS;exact rfl;exact rfl)|(apply r_neqS;exact rfl;exact rfl)|(apply r_asS;exact rfl)|(apply r_asT;exact rfl)|(apply r_asF;exact rfl)|(apply r_asU;exact rfl)|(apply r_asG;exact rfl)|(apply r_mvF;exact rfl)|(apply r_mvU;exact rfl)|(apply r_mvG;exact rfl)|(apply r_ptI;exact rfl;exact rfl)|(apply r_ptS;exact rfl;exact rfl)|(apply r_ptT;exact rfl;exact rfl)|(apply r_ptF;exact rfl;exact rfl)|(apply r_ptU;exact rfl;exact rfl)|(apply r_ptG;exact rfl;exact rfl)|(apply r_pfI;exact rfl;exact rfl)|(apply r_pfS;exact rfl;exact rfl)|(apply r_pfT;exact rfl;exact rfl)|(apply r_pfF;exact rfl;exact rfl)|(apply r_pfU;exact rfl;exact rfl)|(apply r_pfG;exact rfl;exact rfl)):RV P n f w o v w2:=h
theorem zc{C:Prop}(h:B->C:=by intro k;first|exact e_S k|exact yz k|exact x6 k|exact Zx k|(apply wl;(case K=>exact k);exact rvA)|(apply wlgn;(case K=>exact k);exact rfl;exact rfl;exact rfl)|(apply wlgu;(case K=>exact k);exact rfl;exact rfl)|(apply wl_gd;(case K=>exact k);exact rfl;exact rfl)|(apply xX;(case hR=>exact k);exact .inl rfl;exact rfl;exact rfl)|exact c_skip k|exact e_Sr k|exact c_ret k|exact e_B k|exact c_block k|exact e_Br k|exact c_exit k|exact e_LSr k|exact e_LSx k|exact e_Sx k|exact e_Bx k|exact c_yes rfl k|exact c_no rfl k|(apply ws;(case hk=>exact k);exact rvA)|(apply wsgn;(case hk=>exact k);exact rfl;exact rfl;exact rfl)|(apply hl;(case K=>exact k);exact rfl;(intro _;exact rvA))|(apply hlv;(case K=>exact k);exact rfl;exact rfl;(intro _ _;exact rvA))|(apply hg;(case K=>exact k);exact rfl;exact rfl;exact rfl;(intro _ _;exact rvA))|(apply hgv;(case K=>exact k);exact rfl;exact rfl;exact rfl;exact rfl;(intro _ _;exact rvA))|(apply hsk;(case K=>exact k);exact rfl;exact rfl;exact rfl)|(apply hsu;(case K=>exact k);exact rfl;exact rfl;exact rfl)|exact h_end k)(g:A->B):A->C:=fun a=>h (g a)
theorem zn1(k:A)(h:A->B:=by exact zc (g:=fun k=>k)):B:=h k
theorem zn2(k:A)(h:A->B:=by exact zc (g:=zc (g:=fun k=>k))):B:=h k
theorem zn3(k:A)(h:A->B:=by exact zc (g:=zc (g:=zc (g:=fun k=>k)))):B:=h k
theorem zn4(k:A)(h:A->B:=by exact zc (g:=zc (g:=zc (g:=zc (g:=fun k=>k))))):B:=h k
theorem zn5(k:A)(h:A->B:=by exact zc (g:=zc (g:=zc (g:=zc (g:=zc (g:=fun k=>k)))))):B:=h k
theorem zn6(k:A)(h:A->B:=by exact zc (g:=zc (g:=zc (g:=zc (g:=zc (g:=zc (g:=fun k=>k))))))):B:=h k
theorem zn7(k:A)(h:A->B:=by exact zc (g:=zc (g:=zc (g:=zc (g:=zc (g:=zc (g:=zc (g:=fun k=>k)))))))):B:=h k
theorem zn8(k:A)(h:A->B:=by exact zc (g:=zc (g:=zc (g:=zc (g:=zc (g:=zc (g:=zc (g:=zc (g:=fun k=>k))))))))):B:=h k
theorem zB{A B C:Prop}(h:B->C:=by exact zc (g:=zc (g:=zc (g:=zc (g:=zc (g:=zc (g:=zc (g:=zc (g:=zc (g:=fun k=>k))))))))))(g:A->B):A->C:=fun k=>h (g k)
theorem zn9(k:A)(h:A->B:=by exact zc (g:=zc (g:=zc (g:=zc (g:=zc (g:=zc (g:=zc (g:=zc (g:=zc (g:=fun k=>k)))))))))):B:=h k
theorem jZ(k:A)(h:A->B:=by exact zc (g:=zc (g:=zc (g:=zc (g:=zc (g:=zc (g:=zc (g:=zc (g:=zc (g:=zc (g:=fun k=>k))))))))))):B:=h k
theorem gX(k:A)(h:A->B:=by exact zB (g:=zc (g:=zc (g:=fun k=>k)))):B:=h k
theorem jJ(k:A)(h:A->B:=by exact zB (g:=zc (g:=zc (g:=zc (g:=fun k=>k))))):B:=h k
theorem Zv(k:A)(h:A->B:=by exact zB (g:=zc (g:=zc (g:=zc (g:=zc (g:=fun k=>k)))))):B:=h k
theorem VQ(k:A)(h:A->B:=by exact zB (g:=zc (g:=zc (g:=zc (g:=zc (g:=zc (g:=fun k=>k))))))):B:=h k
theorem Hw(k:A)(h:A->B:=by exact zB (g:=zc (g:=zc (g:=zc (g:=zc (g:=zc (g:=zc (g:=fun k=>k)))))))):B:=h k
theorem P0(k:A)(h:A->B:=by exact zB (g:=zc (g:=zc (g:=zc (g:=zc (g:=zc (g:=zc (g:=zc (g:=fun k=>k))))))))):B:=h k
theorem R7(k:A)(h:A->B:=by exact zB (g:=zc (g:=zc (g:=zc (g:=zc (g:=zc (g:=zc (g:=zc (g:=zc (g:=fun k=>k)))))))))):B:=h k
theorem zn18(k:A)(h:A->B:=by exact zB (g:=zB (g:=fun k=>k))):B:=h k
theorem zn19(k:A)(h:A->B:=by exact zB (g:=zB (g:=zc (g:=fun k=>k)))):B:=h k
theorem zn20(k:A)(h:A->B:=by exact zB (g:=zB (g:=zc (g:=zc (g:=fun k=>k))))):B:=h k
theorem zn22(k:A)(h:A->B:=by exact zB (g:=zB (g:=zc (g:=zc (g:=zc (g:=zc (g:=fun k=>k))))))):B:=h k
theorem zn23(k:A)(h:A->B:=by exact zB (g:=zB (g:=zc (g:=zc (g:=zc (g:=zc (g:=zc (g:=fun k=>k)))))))):B:=h k
theorem zn26(k:A)(h:A->B:=by exact zB (g:=zB (g:=zc (g:=zc (g:=zc (g:=zc (g:=zc (g:=zc (g:=zc (g:=zc (g:=fun k=>k))))))))))):B:=h k
theorem zn29(k:A)(h:A->B:=by exact zB (g:=zB (g:=zB (g:=zc (g:=zc (g:=fun k=>k)))))):B:=h k
theorem zn30(k:A)(h:A->B:=by exact zB (g:=zB (g:=zB (g:=zc (g:=zc (g:=zc (g:=fun k=>k))))))):B:=h k
end
end Go.Proofs.YtmfiholmfieieaaDoor
