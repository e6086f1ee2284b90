/- The engine's part for drawn regions in which the operations that do more than yield a value wait for one another: such a region is walked in one order. What the data of hierarchies are as plain values, and how a world holds them. Arguments opened: slices of ints and of structs, as the readings of data give them. Nothing here speaks of one program. -/
import Derived.Test.YtbcpgfnfiekbiaaGreatDoorEng2
import Derived.OrdersHeld
import Derived.ChangeSame
import Derived.ChangeArms
import Derived.Clock
import Derived.Carry
import Derived.OpenShut
import Derived.Deep.Slices
import Derived.Deep.Strs
import Derived.Lib.SmallJoins
namespace Go.Proofs.YtbcpgfnfiekbiaaGreatDoor
open Go.RowKit
section
variable {P:Program} {ops:Array Oper} {Q:Exit→Act→World→Prop} {md:Region.Mode} {S:World→Prop}
def Z7 (P:Program) (md:Region.Mode) (ops:Array Oper) (Q:Exit→Act→World→Prop) (S:World→Prop) (ss:List Nat):Nat→Array Bool→Act→World→Prop
  | 0,listed,a,w=>Region.ready md ops listed= []∧Q .normal a w
  | fuel + 1,listed,a,w=>(Region.ready md ops listed= []→Q .normal a w)∧∀ i ∈ Region.ready md ops listed,wpOp P ops Q i (fun a' w'=>((∀ s ∈ ss,(listed.setIfInBounds i true).getD s false=false)→S w')∧Z7 P md ops Q S ss fuel (listed.setIfInBounds i true) a' w') a w
theorem NJ {ss:List Nat}:∀ (fuel:Nat) (listed:Array Bool) (a:Act) (w:World),Z7 P md ops Q S ss fuel listed a w→wpAny P md ops Q fuel listed a w
  | 0,_,_,_,h=>h
  | fuel + 1,_,_,_,h=>⟨h.1,fun i hi=>wpOp_mono (fun a' w' h'=>NJ fuel _ a' w' h'.2) (h.2 i hi)⟩
theorem C8 {ss W:List Nat} {i:Nat} {oi:Oper} {v:Value} (hi:ops[i]? =some oi) (hsel:∀ (j:Nat) (o:Oper) cs b,ops[j]? =some o→o.op≠ .select cs b)
    (hQ:∀ c a w,Q (.panic c) (a.put oi.dst v) w→Q (.panic c) a w) (hss:∀ s ∈ ss,s ∈ W) (hiW:i ∉ W)
    (hW:∀ k ∈ W,∃ o,ops[k]? =some o∧∃ e ∈ o.after,Region.binds md e=true∧(e.on=i∨e.on ∈ W)):
    ∀ (fuel:Nat) (listed:Array Bool) (a:Act) (w:World),
      (∀ j oj,ops[j]? =some oj→j≠i→listed.getD j true=false→(∀ e ∈ oj.after,Region.binds md e=true→e.on≠i)→oi.apart ops oj=true)→(∀ k ∈ W,listed.getD k false=false)→listed.getD i false=false→
      i ∈ Region.ready md ops listed→YieldsIf P ops S oi v a→S w→
      Z7 P md ops Q S ss fuel (listed.setIfInBounds i true) (a.put oi.dst v) w→Z7 P md ops Q S ss (fuel + 1) listed a w:=by
  intro fuel
  induction fuel with
  | zero=>
    intro listed a w _ _ _ hr hy hS H;refine⟨fun h=>(by rw [h] at hr;cases hr),fun j hj=>?_⟩;by_cases hji:j=i
    · subst hji;exact hy.wpOp hi hS ⟨fun _=>hS,H⟩
    · have:=ready_mono hj hji
      rw [H.1] at this;cases this
  | succ fuel ih=>
    intro listed a w hfree hWl hil hr hy hS H;refine⟨fun h=>(by rw [h] at hr;cases hr),fun j hj=>?_⟩;by_cases hji:j=i
    · subst hji;exact hy.wpOp hi hS ⟨fun _=>hS,H⟩
    · have h1:=H.2 j (ready_mono hj hji)
      obtain⟨hjun,oj,hoj,hall⟩:=mem_ready.1 hj;have hjW:j ∉ W:=fun hjW=>by
        obtain⟨o,ho,e,he,hb,h⟩:=hW j hjW;rw [hoj] at ho;cases ho;have h2:=hall e he hb;rcases h with h | h
        · rw [h,hil] at h2;cases h2
        · rw [hWl _ h] at h2;cases h2
      have hnot:∀ e ∈ oj.after,Region.binds md e=true→e.on≠i:=fun e he hb heq=>by
        have h2:=hall e he hb;rw [heq,hil] at h2;cases h2
      have h2:=wpOp_putIf hoj (hfree j oj hoj hji hjun hnot) (fun cs b=>hsel i oi cs b hi) (fun cs b=>hsel j oj cs b hoj) hQ hy h1;have hset:∀ k,k≠j→∀ d,(listed.setIfInBounds j true).getD k d=listed.getD k d:=fun k hk d=>getD_set_ne d (Ne.symm hk)
      have hfree':∀ k ok,ops[k]? =some ok→k≠i→(listed.setIfInBounds j true).getD k true=false→
          (∀ e ∈ ok.after,Region.binds md e=true→e.on≠i)→oi.apart ops ok=true:=fun k ok hk hki hun hno=>by
        refine hfree k ok hk hki ?_ hno;by_cases hjk:j=k
        · subst hjk;exact hjun
        · rw [getD_set_ne true hjk] at hun;exact hun
      have hW2:∀ k ∈ W,(listed.setIfInBounds j true).getD k false=false:=fun k hk=>by
        rw [hset k (fun e=>hjW (e ▸ hk))];exact hWl k hk
      refine wpOp_mono (fun a' w' h3=>?_) h2
      have hS':S w':=h3.2.1 (fun s hs=>by
        have hsW:=hss s hs;rw [getD_set_ne false (fun e=>hjW (by rw [e];exact hsW)),getD_set_ne false (fun e=>hiW (by rw [e];exact hsW))]
        exact hWl s hsW)
      refine⟨fun _=>hS',ih (listed.setIfInBounds j true) a' w' hfree' hW2 (by rw [hset i (Ne.symm hji)];exact hil) (ready_mono hr (Ne.symm hji)) h3.1 hS' ?_⟩;rw [Array.setIfInBounds_comm _ _ hji];exact h3.2.2
theorem OV {ss:List Nat} {i:Nat} {oi:Oper} {v:Value} (hi:ops[i]? =some oi) (hsel:∀ (j:Nat) (o:Oper) cs b,ops[j]? =some o→o.op≠ .select cs b)
    (hQ:∀ c a w,Q (.panic c) (a.put oi.dst v) w→Q (.panic c) a w):
    ∀ (fuel:Nat) (listed:Array Bool) (a:Act) (w:World),
      (∀ j oj,ops[j]? =some oj→j≠i→listed.getD j true=false→(∀ e ∈ oj.after,Region.binds md e=true→e.on≠i)→oi.apart ops oj=true)→listed.getD i false=false→(∀ s ∈ ss,s≠i)→
      i ∈ Region.ready md ops listed→YieldsIf P ops (fun _=>True) oi v a→((∀ s ∈ ss,listed.getD s false=false)→S w)→
      Z7 P md ops Q S ss fuel (listed.setIfInBounds i true) (a.put oi.dst v) w→Z7 P md ops Q S ss (fuel + 1) listed a w:=by
  intro fuel
  induction fuel with
  | zero=>
    intro listed a w _ _ hsi hr hy hS H;refine⟨fun h=>(by rw [h] at hr;cases hr),fun j hj=>?_⟩;by_cases hji:j=i
    · subst hji;exact hy.wpOp hi trivial ⟨fun h=>hS (fun s hs=>by have:=h s hs;rwa [getD_set_ne false (Ne.symm (hsi s hs))] at this),H⟩
    · have:=ready_mono hj hji
      rw [H.1] at this;cases this
  | succ fuel ih=>
    intro listed a w hfree hil hsi hr hy hS H;refine⟨fun h=>(by rw [h] at hr;cases hr),fun j hj=>?_⟩;by_cases hji:j=i
    · subst hji;exact hy.wpOp hi trivial ⟨fun h=>hS (fun s hs=>by have:=h s hs;rwa [getD_set_ne false (Ne.symm (hsi s hs))] at this),H⟩
    · have h1:=H.2 j (ready_mono hj hji)
      obtain⟨hjun,oj,hoj,hall⟩:=mem_ready.1 hj;have hnot:∀ e ∈ oj.after,Region.binds md e=true→e.on≠i:=fun e he hb heq=>by
        have h2:=hall e he hb;rw [heq,hil] at h2;cases h2
      have h2:=wpOp_putIf hoj (hfree j oj hoj hji hjun hnot) (fun cs b=>hsel i oi cs b hi) (fun cs b=>hsel j oj cs b hoj) hQ hy h1;have hset:∀ k,k≠j→∀ d,(listed.setIfInBounds j true).getD k d=listed.getD k d:=fun k hk d=>getD_set_ne d (Ne.symm hk)
      have hfree':∀ k ok,ops[k]? =some ok→k≠i→(listed.setIfInBounds j true).getD k true=false→
          (∀ e ∈ ok.after,Region.binds md e=true→e.on≠i)→oi.apart ops ok=true:=fun k ok hk hki hun hno=>by
        refine hfree k ok hk hki ?_ hno;by_cases hjk:j=k
        · subst hjk;exact hjun
        · rw [getD_set_ne true hjk] at hun;exact hun
      refine wpOp_mono (fun a' w' h3=>?_) h2
      have hS':(∀ s ∈ ss,(listed.setIfInBounds j true).getD s false=false)→S w':=fun h=>h3.2.1 (fun s hs=>by
        rw [Array.setIfInBounds_comm _ _ (Ne.symm hji),getD_set_ne false (Ne.symm (hsi s hs))];exact h s hs)
      refine⟨hS',ih (listed.setIfInBounds j true) a' w' hfree' (by rw [hset i (Ne.symm hji)];exact hil) hsi (ready_mono hr (Ne.symm hji)) h3.1 hS' ?_⟩;rw [Array.setIfInBounds_comm _ _ hji];exact h3.2.2
end
section held
variable {P:Program} {Q:Exit→Act→World→Prop} {n:Nw} {f:Fr} {w:World} {l:List Oper} {X ss ds is:List Nat}
def mk (m:Nat):List Nat→Array Bool
  | []=>Array.replicate m false
  | i :: is=>(mk m is).setIfInBounds i true
def PQ (Q:Exit→Act→World→Prop):Prop:=∀ (d:Option Tmp) v c a w,Q (.panic c) (Act.put a d v) w→Q (.panic c) a w
def wtL (l:List Oper) (i:Nat):List Nat:=(List.range l.length).foldl (fun acc k=>bif (match l[k]? with | some o=>o.after.any (fun e=>Region.binds .any e && (Nat.beq e.on i || acc.contains e.on)) | none=>false) then k :: acc else acc) []
def wtB (l:List Oper) (ss:List Nat) (listed:Array Bool) (W:List Nat) (i:Nat):Bool:=ss.all W.contains && (!W.contains i && (W.all (fun k=>!listed.getD k false) && W.all (fun k=>match l[k]? with | some o=>o.after.any (fun e=>Region.binds .any e && (e.on == i || W.contains e.on)) | none=>false)))
def Sk (l:List Oper) (i:Nat):Bool:=match l[i]? with | some o=>(match o.op with | .load _ _=>true | _=>false) | none=>true
def wtO (l:List Oper) (ss ds:List Nat) (i:Nat):Bool:=ss.isEmpty || (wtB l ss (mk l.length ds) (wtL l i) i || (!Sk l i && ss.all (fun s=>!Nat.beq s i)))
def okL (l:List Oper) (ss:List Nat):List Nat→List Nat→Bool
  | ds,[]=>(Region.ready .any l.toArray (mk l.length ds)).isEmpty
  | ds,i :: is=>((Region.free .any l.toArray (mk l.length ds) i && ((Region.ready .any l.toArray (mk l.length ds)).contains i && wtO l ss ds i)) || (Region.ready .any l.toArray (mk l.length ds) == [i])) && okL l ss (i :: ds) is
def HL (P:Program) (l:List Oper) (Q:Exit→Act→World→Prop) (X ss ds is:List Nat) (n:Nw) (f:Fr) (w:World):Prop:=
  Region.noSelect l.toArray=true→okL l ss ds is=true→PQ Q→Z7 P .any l.toArray Q (fun w'=>Same X w w') ss is.length (mk l.length ds) (AF n f) w
theorem DX {S S':World→Prop} (hS:∀ w,S' w→S w):∀ (fuel:Nat) (listed:Array Bool) (a:Act) (w:World),Z7 P .any l.toArray Q S' ss fuel listed a w→Z7 P .any l.toArray Q S ss fuel listed a w
  | 0,_,_,_,h=>h
  | fuel + 1,_,_,_,h=>⟨h.1,fun i hi=>wpOp_mono (fun a' w' h'=>⟨fun h1=>hS _ (h'.1 h1),DX hS fuel _ a' w' h'.2⟩) (h.2 i hi)⟩
theorem W2 {S S':World→Prop} {ss':List Nat} {s:Nat} (hs:s ∈ ss):∀ (fuel:Nat) (listed:Array Bool) (a:Act) (w:World),listed.getD s false=true→Z7 P .any l.toArray Q S' ss' fuel listed a w→Z7 P .any l.toArray Q S ss fuel listed a w
  | 0,_,_,_,_,h=>h
  | fuel + 1,listed,_,_,hl,h=>⟨h.1,fun i hi=>wpOp_mono (fun a' w' h'=>by
      have h2:(listed.setIfInBounds i true).getD s false=true:=getD_set_true hl
      exact⟨(fun h1=>by rw [h1 s hs] at h2;cases h2),W2 hs fuel _ a' w' h2 h'.2⟩) (h.2 i hi)⟩
theorem kz {id:Nat} (X ss is:List Nat) (hm:P.follows .mixedOrders=true) (K:∀ w1,Same [] w w1→HL P l Q X ss [] is n f w1) (hc:(Region.noSelect l.toArray && (Nat.beq is.length l.length && okL l ss [] is))=true:=by kernel_rfl) (hQ:PQ Q:=by first | (intro d;cases d <;> exact fun _ _ _ _ h=>h) | (have h:=‹PQ _›;exact fun d v c a w k=>h d v c a w k)):WC P (.region id l.toArray true) Q n f w:=by
  unfold WC;simp only [Bool.and_eq_true] at hc;have e:is.length=l.length:=Nat.eq_of_beq_eq_true hc.2.1;have h:=K { w with drawn:=w.drawn + 1 } (Same.drew w 1) hc.1 hc.2.2 hQ;rw [e] at h;exact wp_region_any hm (NJ _ _ _ _ h)
theorem jx {id:Nat} (X is:List Nat) (hm:P.follows .mixedOrders=true) (K:∀ w1,Same [] w w1→HL P l Q X [] [] is n f w1) (hc:(Region.noSelect l.toArray && (Nat.beq is.length l.length && okL l [] [] is))=true:=by kernel_rfl) (hQ:PQ Q:=by first | (intro d;cases d <;> exact fun _ _ _ _ h=>h) | (have h:=‹PQ _›;exact fun d v c a w k=>h d v c a w k)):WC P (.region id l.toArray true) Q n f w:=
  kz X [] is hm K hc hQ
theorem Sv {i:Nat} {o:Oper} {v:Value} (ho:l[i]? =some o) (hn:Sk l i=false→YieldsIf P l.toArray (fun _=>True) o v (AF n f)) (hy:YieldsIf P l.toArray (fun w'=>Same X w w') o v (AF n f)) (K:HL P l Q X ss (i :: ds) is n (T8 f o.dst v) w):HL P l Q X ss ds (i :: is) n f w:=by
  intro h2 hc hQ;simp only [okL,Bool.and_eq_true,Bool.or_eq_true] at hc;obtain⟨hc1,hc⟩:=hc;have hK:=K h2 hc hQ;rw [← Bj] at hK;have ho':(l.toArray)[i]? =some o:=by simpa using ho
  rcases hc1 with ⟨h3,h4,h5⟩ | h4
  · have h4':i ∈ Region.ready .any l.toArray (mk l.length ds):=by simpa using h4
    have hil:(mk l.length ds).getD i false=false:=by
      have h7:=(mem_ready.1 h4').1;cases h8:(mk l.length ds).getD i false with
      | false=>rfl
      | true=>
        have:(mk l.length ds).getD i true=(mk l.length ds).getD i false:=by
          rcases Nat.lt_or_ge i (mk l.length ds).size with h' | h'
          · simp [h']
          · simp [Array.getElem?_eq_none h'] at h8
        rw [this,h8] at h7;cases h7
    have hW:(∃ W:List Nat,(∀ s ∈ ss,s ∈ W)∧i ∉ W∧(∀ k ∈ W,(mk l.length ds).getD k false=false)∧∀ k ∈ W,∃ o,(l.toArray)[k]? =some o∧∃ e ∈ o.after,Region.binds .any e=true∧(e.on=i∨e.on ∈ W))∨(Sk l i=false∧∀ s ∈ ss,s≠i):=by
      simp only [wtO,Bool.or_eq_true] at h5;rcases h5 with h5 | h5 | h5
      · rw [List.isEmpty_iff] at h5
        exact .inl ⟨[],by rw [h5];simp,by simp,by simp,by simp⟩
      · simp only [wtB,Bool.and_eq_true,List.all_eq_true,Bool.not_eq_true'] at h5
        obtain⟨b1,b2,b3,b4⟩:=h5;refine .inl ⟨wtL l i,fun s hs=>by simpa using b1 s hs,by simpa using b2,b3,fun k hk=>?_⟩;have h6:=b4 k hk;cases ho2:l[k]? with
        | none=>rw [ho2] at h6;cases h6
        | some o2=>
          rw [ho2] at h6;obtain⟨e,he,hb⟩:=Array.any_eq_true'.1 h6;exact⟨o2,by simpa using ho2,e,he,by simpa using hb⟩
      · simp only [Bool.and_eq_true,List.all_eq_true,Bool.not_eq_true'] at h5
        refine .inr ⟨h5.1,fun s hs e=>?_⟩;have h6:=h5.2 s hs;subst e;simp at h6
    rcases hW with ⟨W,w1,w2,w3,w4⟩ | ⟨w1,w2⟩
    · exact C8 ho' (Region.noSelect_spec h2) (hQ _ _) w1 w2 w4 _ _ _ _ (Region.free_spec ho' h3) w3 hil h4' hy (Same.refl _ _) hK
    · exact OV ho' (Region.noSelect_spec h2) (hQ _ _) _ _ _ _ (Region.free_spec ho' h3) hil w2 h4' (hn w1) (fun _=>Same.refl _ _) hK
  · refine⟨fun h0=>absurd ((eq_of_beq h4) ▸ h0) (by simp),fun j hj=>?_⟩
    rw [eq_of_beq h4] at hj;rw [List.mem_singleton.1 hj];exact hy.wpOp ho' (Same.refl _ _) ⟨fun _=>Same.refl _ _,hK⟩
variable {op:Op} {ty t:TypeId} {pos:String} {af:Array Edge} {v:Value} {x:Operand} {d:Tmp} {i:Nat}
theorem Qw {o:Oper} {w':World} (h:RV P n f w o v w'):(execOp (ev n f) o).run P w= .ok (.value v) w':=by unfold RV at h;exact h
theorem hl (ho:l[i]? =some ⟨some d,op,ty,pos,af,none⟩) (h:∀ w',RV P n f w' ⟨some d,op,ty,pos,af,none⟩ v w') (K:HL P l Q X ss (i :: ds) is n (upd f d v) w):HL P l Q X ss ds (i :: is) n f w:=
  Sv ho (fun _=> .inl ⟨by simp [Region.wanted],fun w' _=>by rw [vV];exact Qw (h w')⟩) (.inl ⟨by simp [Region.wanted],fun w' _=>by rw [vV];exact Qw (h w')⟩) K
theorem hle {u:Value} (ho:l[i]? =some ⟨some d,op,ty,pos,af,none⟩) (h:∀ w',RV P n f w' ⟨some d,op,ty,pos,af,none⟩ u w') (e:u=v) (K:HL P l Q X ss (i :: ds) is n (upd f d v) w):HL P l Q X ss ds (i :: is) n f w:=
  hl ho (fun w'=>e ▸ h w') K
theorem Same.cl {w':World} {b o:Nat} (hs:Same X w w') (hb:b ∉ X) (hc:w.cell? ⟨b,o,none⟩=some v):w'.cell? ⟨b,o,none⟩=some v:=by
  have hl:b < w.heap.size:=by
    refine Classical.byContradiction (fun h=>?_);have:w.heap[b]? =none:=Array.getElem?_eq_none oM;simp [World.cell?,this] at hc
  have h:=hs.blk b hl hb;simp only [World.cell?,h] at hc ⊢;exact hc
theorem hl1 {b o:Nat} {dd:TypeDesc} (ho:l[i]? =some ⟨some d,.load t x,ty,pos,af,none⟩) (hu:P.underlying t=some dd) (hd:dd.isRow=false) (hx:ev n f x= .pointer (some ⟨b,o,none⟩)) (hl:w.cell? ⟨b,o,none⟩=some v) (K:HL P l Q X ss (i :: ds) is n (upd f d v) w) (hb:b ∉ X:=by first | exact List.not_mem_nil | (simp only [List.mem_cons,List.not_mem_nil,or_false,not_or];omega)):HL P l Q X ss ds (i :: is) n f w:=
  Sv ho (fun e=>by simp [Sk,ho] at e) (.inl ⟨by simp [Region.wanted],fun w' hs=>by rw [vV];exact Qw (qV hu hd hx (hs.cl hb hl))⟩) K
theorem hlS {b o:Nat} {dd:TypeDesc} {cs:List Value} (ho:l[i]? =some ⟨some d,.load t x,ty,pos,af,none⟩) (hu:P.underlying t=some dd) (hd:dd.isRow=true) (hx:ev n f x= .pointer (some ⟨b,o,none⟩)) (hl:w.rangeAt b o cs) (hi:(P.info? t).map (·.size)=some cs.length) (K:HL P l Q X ss (i :: ds) is n (upd f d (.agg cs.toArray)) w) (hb:b ∉ X:=by first | exact List.not_mem_nil | (simp only [List.mem_cons,List.not_mem_nil,or_false,not_or];omega)):HL P l Q X ss ds (i :: is) n f w:=
  Sv ho (fun e=>by simp [Sk,ho] at e) (.inl ⟨by simp [Region.wanted],fun w' hs=>by rw [vV];exact Qw (zY hu hd hx (fun j v hj=>hs.cl hb (hl j v hj)) hi)⟩) K
theorem hg {dst:Option Tmp} {j:Nat} {b:Bool} (g:Tmp) (ho:l[i]? =some ⟨dst,op,ty,pos,af,some (j,b)⟩) (hj:(l.toArray[j]?).bind (·.dst)=some g) (hv:ev n f (.tmp g)= .bool b) (h:∀ w':World,True→RV P n f w' ⟨dst,op,ty,pos,af,some (j,b)⟩ v w') (K:HL P l Q X ss (i :: ds) is n (T8 f dst v) w):HL P l Q X ss ds (i :: is) n f w:=
  Sv ho (fun _=> .inl ⟨by rw [gw hj hv];simp,fun w' _=>by rw [vV];exact Qw (h w' trivial)⟩) (.inl ⟨by rw [gw hj hv];simp,fun w' _=>by rw [vV];exact Qw (h w' trivial)⟩) K
theorem hge {dst:Option Tmp} {j:Nat} {b:Bool} (g:Tmp) {u:Value} (ho:l[i]? =some ⟨dst,op,ty,pos,af,some (j,b)⟩) (hj:(l.toArray[j]?).bind (·.dst)=some g) (hv:ev n f (.tmp g)= .bool b) (h:∀ w':World,True→RV P n f w' ⟨dst,op,ty,pos,af,some (j,b)⟩ u w') (e:u=v) (K:HL P l Q X ss (i :: ds) is n (T8 f dst v) w):HL P l Q X ss ds (i :: is) n f w:=
  hg g ho hj hv (fun w' hs=>e ▸ h w' hs) K
theorem hg1 {j:Nat} {b':Bool} {b o:Nat} {dd:TypeDesc} (g:Tmp) (ho:l[i]? =some ⟨some d,.load t x,ty,pos,af,some (j,b')⟩) (hj:(l.toArray[j]?).bind (·.dst)=some g) (hv:ev n f (.tmp g)= .bool b') (hu:P.underlying t=some dd) (hd:dd.isRow=false) (hx:ev n f x= .pointer (some ⟨b,o,none⟩)) (hl:w.cell? ⟨b,o,none⟩=some v) (K:HL P l Q X ss (i :: ds) is n (upd f d v) w) (hb:b ∉ X:=by first | exact List.not_mem_nil | (simp only [List.mem_cons,List.not_mem_nil,or_false,not_or];omega)):HL P l Q X ss ds (i :: is) n f w:=
  Sv ho (fun e=>by simp [Sk,ho] at e) (.inl ⟨by rw [gw hj hv];simp,fun w' hs=>by rw [vV];exact Qw (qV hu hd hx (hs.cl hb hl))⟩) K
theorem hgS {j:Nat} {b':Bool} {b o:Nat} {dd:TypeDesc} {cs:List Value} (g:Tmp) (ho:l[i]? =some ⟨some d,.load t x,ty,pos,af,some (j,b')⟩) (hj:(l.toArray[j]?).bind (·.dst)=some g) (hv:ev n f (.tmp g)= .bool b') (hu:P.underlying t=some dd) (hd:dd.isRow=true) (hx:ev n f x= .pointer (some ⟨b,o,none⟩)) (hl:w.rangeAt b o cs) (hi:(P.info? t).map (·.size)=some cs.length) (K:HL P l Q X ss (i :: ds) is n (upd f d (.agg cs.toArray)) w) (hb:b ∉ X:=by first | exact List.not_mem_nil | (simp only [List.mem_cons,List.not_mem_nil,or_false,not_or];omega)):HL P l Q X ss ds (i :: is) n f w:=
  Sv ho (fun e=>by simp [Sk,ho] at e) (.inl ⟨by rw [gw hj hv];simp,fun w' hs=>by rw [vV];exact Qw (zY hu hd hx (fun j v hj=>hs.cl hb (hl j v hj)) hi)⟩) K
theorem hsk {dst:Option Tmp} {j:Nat} {b:Bool} (g:Tmp) (ho:l[i]? =some ⟨dst,op,ty,pos,af,some (j,b)⟩) (hj:(l.toArray[j]?).bind (·.dst)=some g) (hv:ev n f (.tmp g)= .bool (!b)) (K:HL P l Q X ss (i :: ds) is n (T8 f dst undef) w):HL P l Q X ss ds (i :: is) n f w:=
  Sv ho (fun _=> .inr ⟨by rw [gw hj hv];cases b <;> rfl,rfl⟩) (.inr ⟨by rw [gw hj hv];cases b <;> rfl,rfl⟩) K
theorem Sw (t:Nat) {b:Bool} (hv:ev n f (.tmp t)= .bool b) (h1:b=true→HL P l Q X ss ds is n (upd f t (.bool true)) w) (h2:b=false→HL P l Q X ss ds is n (upd f t (.bool false)) w):HL P l Q X ss ds is n f w:=by
  have hf:=XZ hv nu;cases b
  · have:=h2 rfl;rwa [kZ hf] at this
  · have:=h1 rfl;rwa [kZ hf] at this
theorem h_casesd (t:Nat) {p:Prop} {dp:Decidable p} (hv:ev n f (.tmp t)= .bool (@decide p dp)) (h1:p→HL P l Q X ss ds is n (upd f t (.bool true)) w) (h2:¬p→HL P l Q X ss ds is n (upd f t (.bool false)) w):HL P l Q X ss ds is n f w:=
  Sw t hv (fun h=>h1 (of_decide_eq_true h)) (fun h=>h2 (of_decide_eq_false h))
theorem h_know (t:Nat) (v:Value) (h:ev n f (.tmp t)=v) (hv:v≠undef) (K:HL P l Q X ss ds is n (upd f t v) w):HL P l Q X ss ds is n f w:=by
  have:=kZ (XZ h hv);rwa [this] at K
def QH (P:Program) (l:List Oper) (Q:Exit→Act→World→Prop) (S:World→Prop) (ss ds is:List Nat):Exit→Act→World→Prop
  | .normal,a,w=>Region.noSelect l.toArray=true→okL l ss ds is=true→PQ Q→((∀ s ∈ ss,(mk l.length ds).getD s false=false)→S w)∧Z7 P .any l.toArray Q S ss is.length (mk l.length ds) a w
  | e,a,w=>Q e a w
theorem wp_qh {S:World→Prop} {o:Oper} {a:Act} {K:Act→World→Prop} (h:o.wp P a w K (QH P l Q S ss ds is)):o.wp P a w K Q:=by
  unfold Oper.wp at *
  generalize (execOp a.eval o).run P w=r at *
  cases r with
  | ok x w'=>cases x <;> exact h
  | halt x w'=>cases x <;> exact h
theorem e_H {w0:World} {X X':List Nat} (hs:Same X w0 w) (hX:∀ g ∈ X',g ∈ X∨w0.heap.size≤g) (h:HL P l Q X' ss ds is n f w):EX (QH P l Q (fun w'=>Same X w0 w') ss ds is) .normal n f w:=by
  unfold EX;exact fun h2 hc hQ=>⟨fun _=>hs,DX (fun w' (h':Same X' w w')=>⟨h'.os.trans hs.os,h'.tape.trans hs.tape,h'.output.trans hs.output,nLT hs.size h'.size,fun k hk hx=>(h'.blk k (nLL hk hs.size) (fun hm=>(hX k hm).elim hx (fun h2=>by omega))).trans (hs.blk k hk hx)⟩) _ _ _ _ (h h2 hc hQ)⟩
theorem M5 {w0:World} (hs:Same [] w0 w) (h:HL P l Q [] ss ds is n f w):EX (QH P l Q (fun w'=>Same [] w0 w') ss ds is) .normal n f w:=e_H hs (fun _ hg=> .inl hg) h
theorem okL_sub {ss':List Nat} (h:∀ s ∈ ss',s ∈ ss):∀ (is ds:List Nat),okL l ss ds is=true→okL l ss' ds is=true
  | [],_,hc=>hc
  | i :: is,ds,hc=>by
    simp only [okL,Bool.and_eq_true,Bool.or_eq_true] at hc ⊢
    refine⟨hc.1.imp (fun⟨a,b,c⟩=>⟨a,b,?_⟩) id,okL_sub h is _ hc.2⟩
    simp only [wtO,wtB,Bool.or_eq_true,Bool.and_eq_true,List.all_eq_true,List.isEmpty_iff] at c ⊢
    rcases c with c | ⟨c1,c2⟩ | ⟨c1,c2⟩
    · left
      subst c
      cases ss' with
      | nil=>rfl
      | cons a r=>exact absurd (h a (List.mem_cons_self ..)) (by simp)
    · exact .inr (.inl ⟨fun s hs=>c1 s (h s hs),c2⟩)
    · exact .inr (.inr ⟨c1,fun s hs=>c2 s (h s hs)⟩)
theorem V0 {S:World→Prop} (ss':List Nat) (h:HL P l Q [] ss' ds is n f w) (hv:(ss.any (fun s=>(mk l.length ds).getD s false) && ss'.all ss.contains)=true:=by kernel_rfl):EX (QH P l Q S ss ds is) .normal n f w:=by
  unfold EX;simp only [Bool.and_eq_true,List.any_eq_true,List.all_eq_true] at hv;obtain⟨⟨s,hs,hl⟩,hsub⟩:=hv;exact fun h2 hc hQ=>⟨(fun h0=>by rw [h0 s hs] at hl;cases hl),W2 hs _ _ _ _ hl (h h2 (okL_sub (fun x hx=>by simpa using hsub x hx) _ _ hc) hQ)⟩
theorem h1 {o:Oper} (ho:l[i]? =some o) (h:WL P l.toArray (QH P l Q (fun w'=>Same X w w') ss (i :: ds) is) [o] n f w) (hr:Region.ready .any l.toArray (mk l.length ds)= [i]:=by kernel_rfl):HL P l Q X ss ds (i :: is) n f w:=by
  intro h2 hc hQ;simp only [okL,Bool.and_eq_true] at hc;refine⟨fun h0=>absurd (hr ▸ h0) (by simp),fun j hj=>?_⟩;rw [hr] at hj;rw [List.mem_singleton.1 hj];unfold wpOp;have ho':(l.toArray)[i]? =some o:=by simpa using ho
  simp only [ho'];unfold WL wpList at h;by_cases hwt:Region.wanted o (yielded l.toArray (AF n f).tmps)=true
  · rw [if_pos hwt] at h ⊢
    rcases h with h | h
    · exact .inl (Oper.wp_mono (fun a' w' h'=>(show QH P l Q _ _ _ _ .normal a' w' from h') h2 hc.2 hQ) (wp_qh h))
    · exact .inr h
  · rw [if_neg hwt] at h ⊢
    exact(show QH P l Q _ _ _ _ .normal _ w from h) h2 hc.2 hQ
theorem h_end (h:EX Q .normal n f w):HL P l Q X ss ds [] n f w:=fun _ hc _=>by
  unfold EX at h
  exact⟨by simpa [okL] using hc,h⟩
theorem hcl (Rk:Value→World→Prop) {F:FuncId} {xs:Array Operand} {ats:Array TypeId} {args:List Value} {R:Ending→World→Prop} (ho:l[i]? =some ⟨some d,.call { callee:= .value (.func F),args:=xs,argTypes:=ats },ty,pos,af,none⟩) (hF:zK P F=true) (hc:Calls P F args.toArray w R) (hargs:xs.toList.map (ev n f)=args)
    (hR:∀ e' w1,R e' w1→∃ v,e'= .returned v∧Same [] w w1∧Rk v w1) (K:∀ v w1,Same [] w w1→Rk v w1→HL P l Q X ss (i :: ds) is n (upd f d v) w1) (hr:Region.ready .any l.toArray (mk l.length ds)= [i]:=by kernel_rfl):HL P l Q X ss ds (i :: is) n f w:=by
  refine h1 ho (zV hF hc hargs (fun e' w1 h=>?_)) hr;obtain⟨v,h1,h2,h3⟩:=hR e' w1 h;exact⟨v,h1,zJ (e_H (h2.weak (by simp)) (fun g hg=> .inl hg) (K v w1 h2 h3))⟩
end held
attribute [irreducible] HL
end Go.Proofs.YtbcpgfnfiekbiaaGreatDoor
namespace Go.Proofs.YtbcpgfnfiekbiaaGreatDoor
open Go.RowKit
structure Ty where
  name:ByteArray
  par:List Int
structure Ft where
  name:ByteArray
  of:Int
  val:Int
abbrev Fl:=Int×Int
def flV (p:Fl):Value:= .agg #[.int .i64 p.1,.int .i64 p.2]
theorem qK {c i:Int} {p:Fl} (h:p=(c,i)):Ending.returned (.agg [.int .i64 c,.int .i64 i].toArray)= .returned (flV p):=by rw [h];rfl
def yJ:Nat:=9223372036854775807
def IntsIn (w:World) (A:Option Addr) (xs:List Int):Prop:=
  xs.length≤yJ∧(xs≠[]→∃ b o,A=some ⟨b,o,none⟩∧b < w.heap.size∧∀ k (h:k < xs.length),w.cell? ⟨b,o + k * 1,none⟩=some (.int .i64 xs[k]))
theorem IntsIn.mono {w w':World} {A:Option Addr} {xs:List Int} (h:IntsIn w A xs) (hb:Bel w w'):IntsIn w' A xs:=
  ⟨h.1,fun hn=>by
    obtain⟨b,o,e,hl,hc⟩:=h.2 hn
    exact⟨b,o,e,nLL hl hb.size,fun k hk=>hb.cell hl (hc k hk)⟩⟩
theorem IntsIn.at_ {w:World} {A:Option Addr} {xs:List Int} (h:IntsIn w A xs) {k:Nat} (hk:k < xs.length):
    ∃ b o,A=some ⟨b,o,none⟩∧b < w.heap.size∧w.cell? ⟨b,o + k * 1,none⟩=some (.int .i64 xs[k]):=by
  obtain⟨b,o,e,hl,hc⟩:=h.2 (by rintro rfl;simp at hk);exact⟨b,o,e,hl,hc k hk⟩
def TyIn (w:World) (b o:Nat) (t:Ty):Prop:=∃ A c,w.rangeAt b o [.string t.name,.slice A t.par.length c]∧IntsIn w A t.par
def TypesIn (w:World) (A:Option Addr) (l:List Ty):Prop:=
  l.length≤yJ∧(l≠[]→∃ b o,A=some ⟨b,o,none⟩∧b < w.heap.size∧∀ k (h:k < l.length),TyIn w b (o + k * 2) l[k])
theorem TyIn.mono {w w':World} {b o:Nat} {t:Ty} (h:TyIn w b o t) (hb:Bel w w') (hl:b < w.heap.size):TyIn w' b o t:=by
  obtain⟨A,c,h1,h2⟩:=h;exact⟨A,c,hb.range hl h1,h2.mono hb⟩
theorem TypesIn.mono {w w':World} {A:Option Addr} {l:List Ty} (h:TypesIn w A l) (hb:Bel w w'):TypesIn w' A l:=
  ⟨h.1,fun hn=>by
    obtain⟨b,o,e,hl,hc⟩:=h.2 hn
    exact⟨b,o,e,nLL hl hb.size,fun k hk=>(hc k hk).mono hb hl⟩⟩
theorem TypesIn.at_ {w w':World} {A:Option Addr} {l:List Ty} (h:TypesIn w A l) (hb:Bel w w') {k:Nat} (hk:k < l.length):
    ∃ b o A' c,A=some ⟨b,o,none⟩∧b < w.heap.size∧w'.rangeAt b (o + k * 2) [.string (l[k]).name,.slice A' (l[k]).par.length c]∧IntsIn w A' (l[k]).par:=by
  obtain⟨b,o,e,hl,hc⟩:=h.2 (by rintro rfl;simp at hk);obtain⟨A',c,h1,h2⟩:=hc k hk;exact⟨b,o,A',c,e,hl,hb.range hl h1,h2⟩
def FtIn (w:World) (b o:Nat) (t:Ft):Prop:=w.rangeAt b o [.string t.name,.int .i64 t.of,.int .i64 t.val]
def FeatsIn (w:World) (A:Option Addr) (l:List Ft):Prop:=
  l.length≤yJ∧(l≠[]→∃ b o,A=some ⟨b,o,none⟩∧b < w.heap.size∧∀ k (h:k < l.length),FtIn w b (o + k * 3) l[k])
theorem FeatsIn.mono {w w':World} {A:Option Addr} {l:List Ft} (h:FeatsIn w A l) (hb:Bel w w'):FeatsIn w' A l:=
  ⟨h.1,fun hn=>by
    obtain⟨b,o,e,hl,hc⟩:=h.2 hn
    exact⟨b,o,e,nLL hl hb.size,fun k hk=>hb.range hl (hc k hk)⟩⟩
theorem FeatsIn.at_ {w w':World} {A:Option Addr} {l:List Ft} (h:FeatsIn w A l) (hb:Bel w w') {k:Nat} (hk:k < l.length):
    ∃ b o,A=some ⟨b,o,none⟩∧b < w.heap.size∧w'.rangeAt b (o + k * 3) [.string (l[k]).name,.int .i64 (l[k]).of,.int .i64 (l[k]).val]:=by
  obtain⟨b,o,e,hl,hc⟩:=h.2 (by rintro rfl;simp at hk);exact⟨b,o,e,hl,hb.range hl (hc k hk)⟩
def j9 (i:Int):Int→List Int→Int
  | _,[]=>0
  | last,p :: ps=>if p < 0∨i≤p then 3 else if p≤last then 13 else j9 i p ps
def x8 (f:Nat→Int):Nat→Nat→Fl
  | _,0=>(0,0)
  | i,m + 1=>if f i≠0 then (f i,(i:Int)) else x8 f (i + 1) m
theorem qQ {f:Nat→Int} {i m:Nat} {c:Int} (hm:0 < m) (hc:f i=c) (h:c≠0):x8 f i m=(c,(i:Int)):=by
  subst hc;cases m with
  | zero=>omega
  | succ m=>simp [x8,h]
theorem yw {f:Nat→Int} {i n:Nat} (hm:i < n) (h:f i=0):x8 f i (n - i)=x8 f (i + 1) (n - (i + 1)):=by
  obtain⟨m,hm'⟩:∃ m,n - i=m + 1:=⟨n - i - 1,by omega⟩
  rw [hm',show n - (i + 1)=m from by omega];simp [x8,h]
theorem vk {f:Nat→Int} {i n:Nat} (h:n≤i):x8 f i (n - i)=(0,0):=by
  rw [show n - i=0 from by omega];rfl
def jX (l:List ByteArray) (s:ByteArray):Bool:=l.any (fun u=>decide (u=s))
theorem X0 (l:List ByteArray) (u s:ByteArray):jX (l ++ [u]) s=(jX l s || decide (u=s)):=by simp [jX]
theorem Zv {α:Type} (l:List α) {k:Nat} (hk:k < l.length):l.take (k + 1)=l.take k ++ [l[k]]:=by
  rw [List.take_succ_eq_append_getElem hk]
end Go.Proofs.YtbcpgfnfiekbiaaGreatDoor
namespace Go.Proofs.YtbcpgfnfiekbiaaGreatDoor
open Go.RowKit Go.ChangeShapes Go.WideShapes Go.Deep Go.Joins
theorem jV {α:Type} {n:Nat} {p:Nat→α→Prop} (h:∀ i,i < n→∃ x,p i x):∃ l:List α,l.length=n∧∀ k (hk:k < l.length),p k l[k]:=by
  induction n with
  | zero=>exact⟨[],rfl,fun k hk=>by simp at hk⟩
  | succ n ih=>
    obtain⟨l,hl,hp⟩:=ih (fun i hi=>h i oM);obtain⟨x,hx⟩:=h n oM;refine⟨l ++ [x],by simp [hl],fun k hk=>?_⟩;by_cases e:k < l.length
    · rw [List.getElem_append_left e];exact hp k e
    · have e2:k=l.length:=by simp at hk;omega
      subst e2;have e3:(l ++ [x])[l.length]'hk=x:=by simp
      rw [e3,hl];exact hx
section
variable {H:Type} {enc:TypeId×Value→H} {P:Program} {w:World} {base:Nat} {spare:Nat→Bool} {held:Bool}
theorem jq {v v':Value} (h:[v]= [v']):v=v':=by cases h;rfl
theorem Kz {t e:TypeId} {sz fuel:Nat} {v:Value} {x:DataW H×List MemPlace} (ht:P.underlying t=some (.slice e)) (hsz:P.cellsOf e=sz) (hpos:0 < sz) (h:DataW.trod enc P w base spare held fuel t [v]=some x):
    ∃ A len c,v= .slice A len c∧len≤c∧c≤yJ∧(len≠0→∃ b o,A=some ⟨b,o,none⟩∧b < w.heap.size∧∀ i,i < len→∃ cs k y,cs.length=sz∧w.rangeAt b (o + i * sz) cs∧DataW.trod enc P w base spare held k e cs=some y):=by
  rcases open_slice ht h with ⟨hc,_⟩ | ⟨a,len,cap,m,n,D,Pl,hc,hb,hl,hm,hmm,_,hi⟩
  · rw [jq hc]
    exact⟨none,0,0,rfl,Nat.le_refl _,Nat.zero_le _,fun h=>absurd rfl h⟩
  · rw [jq hc]
    rw [hsz] at hi;refine⟨some a,len,cap,rfl,hl,hm,fun h0=>?_⟩;have hlm:len≤m:=by rw [hmm];split <;> omega
    obtain⟨b,o,s⟩:=a;have hsp:s=none∧b < w.heap.size:=by
      obtain⟨cs,h1,_⟩:=hi 0 oM;obtain⟨_,h3,h4⟩:=World.cells?_some h1;have h5:=h4 0 hpos;have h6:cs[0]? =some (cs[0]'oM):=List.getElem?_eq_getElem oM;have h7:(Addr.add (Addr.add ⟨b,o,s⟩ (0 * sz)) 0)=⟨b,o,s⟩:=by simp [Addr.add]
      rw [h7,h6] at h5;exact⟨World.cell?_spot h5,Go.Clock.block_lt h5⟩
    obtain⟨rfl,hlt⟩:=hsp;refine⟨b,o,rfl,hlt,fun i hil=>?_⟩;obtain⟨cs,h1,h2⟩:=hi i oM;obtain⟨_,h3,h4⟩:=World.cells?_some h1;refine⟨cs,n,_,h3,fun j v hj=>?_,h2⟩;have hjl:=(List.getElem?_eq_some_iff.1 hj).1;have h5:=h4 j oM;rw [Addr.add_mid,Addr.add_mid] at h5;rw [h5];exact hj
theorem ints_open {t e:TypeId} {fuel:Nat} {v:Value} {x:DataW H×List MemPlace} (ht:P.underlying t=some (.slice e)) (he:P.underlying e=some (.int .i64)) (hsz:P.cellsOf e=1) (h:DataW.trod enc P w base spare held fuel t [v]=some x):
    ∃ A xs c,v= .slice A (List.length xs) c∧xs.length≤c∧IntsIn w A xs:=by
  obtain⟨A,len,c,rfl,hl,hm,hx⟩:=Kz ht hsz dE h;by_cases h0:len=0
  · subst h0
    exact⟨A,[],c,rfl,Nat.zero_le _,Nat.zero_le _,fun h=>absurd rfl h⟩
  · obtain⟨b,o,rfl,hlt,hc⟩:=hx h0
    obtain⟨xs,hxl,hxs⟩:=jV (p:=fun i (z:Int)=>w.cell? ⟨b,o + i * 1,none⟩=some (.int .i64 z)) (n:=len) (fun i hi=>by
      obtain⟨cs,k,y,h1,h2,h3⟩:=hc i hi;obtain⟨z,rfl,_,_⟩:=DataW.trod_int he h3
      exact⟨z,h2 0 _ rfl⟩)
    subst hxl;exact⟨_,xs,c,rfl,hl,nLT hl hm,fun _=>⟨b,o,rfl,hlt,hxs⟩⟩
theorem Ix {e:TypeId} {f0 f1:Field} {fuel:Nat} {cs:List Value} {x:DataW H×List MemPlace} (he:P.underlying e=some (.struct #[f0,f1])) (hl:cs.length=2) (o0:f0.offset=0) (o1:f1.offset=1) (c0:P.cellsOf f0.type=1) (c1:P.cellsOf f1.type=1) (h:DataW.trod enc P w base spare held fuel e cs=some x):
    ∃ v0 v1 n y0 y1,cs= [v0,v1]∧DataW.trod enc P w base spare held n f0.type [v0]=some y0∧DataW.trod enc P w base spare held n f1.type [v1]=some y1:=by
  obtain⟨y0,y1,n,_,_,h0,h1⟩:=trod_struct2 he h
  match cs,hl with
  | [v0,v1],_=>
    simp [o0,o1,c0,c1] at h0 h1;exact⟨v0,v1,n,y0,y1,rfl,h0,h1⟩
theorem Tj {e:TypeId} {f0 f1 f2:Field} {fuel:Nat} {cs:List Value} {x:DataW H×List MemPlace} (he:P.underlying e=some (.struct #[f0,f1,f2])) (hl:cs.length=3) (o0:f0.offset=0) (o1:f1.offset=1) (o2:f2.offset=2) (c0:P.cellsOf f0.type=1) (c1:P.cellsOf f1.type=1) (c2:P.cellsOf f2.type=1) (h:DataW.trod enc P w base spare held fuel e cs=some x):
    ∃ v0 v1 v2 n y0 y1 y2,cs= [v0,v1,v2]∧DataW.trod enc P w base spare held n f0.type [v0]=some y0∧DataW.trod enc P w base spare held n f1.type [v1]=some y1∧DataW.trod enc P w base spare held n f2.type [v2]=some y2:=by
  obtain⟨y0,y1,y2,n,_,_,h0,h1,h2⟩:=trod_struct3 he h
  match cs,hl with
  | [v0,v1,v2],_=>
    simp [o0,o1,o2,c0,c1,c2] at h0 h1 h2;exact⟨v0,v1,v2,n,y0,y1,y2,rfl,h0,h1,h2⟩
theorem H1 {t e ts ti tis:TypeId} {f0 f1:Field} {fuel:Nat} {v:Value} {x:DataW H×List MemPlace} (ht:P.underlying t=some (.slice e)) (he:P.underlying e=some (.struct #[f0,f1])) (hsz:P.cellsOf e=2) (o0:f0.offset=0) (o1:f1.offset=1) (e0:f0.type=ts) (e1:f1.type=tis) (hs:P.underlying ts=some .string) (hcs:P.cellsOf ts=1) (hci:P.cellsOf tis=1)
    (hti:P.underlying tis=some (.slice ti)) (hi:P.underlying ti=some (.int .i64)) (hc1:P.cellsOf ti=1) (h:DataW.trod enc P w base spare held fuel t [v]=some x):
    ∃ A l c,v= .slice A (List.length l) c∧l.length≤c∧TypesIn w A l:=by
  subst e0 e1;obtain⟨A,len,c,rfl,hl,hm,hx⟩:=Kz ht hsz dE h;by_cases h0:len=0
  · subst h0
    exact⟨A,[],c,rfl,Nat.zero_le _,Nat.zero_le _,fun h=>absurd rfl h⟩
  · obtain⟨b,o,rfl,hlt,hc⟩:=hx h0
    obtain⟨l,hxl,hxs⟩:=jV (p:=fun i (z:Ty)=>TyIn w b (o + i * 2) z) (n:=len) (fun i hi'=>by
      obtain⟨cs,k,y,h1,h2,h3⟩:=hc i hi';obtain⟨v0,v1,n,y0,y1,rfl,g0,g1⟩:=Ix he h1 o0 o1 hcs hci h3;obtain⟨s,h4,_,_⟩:=DataW.trod_string hs g0;obtain⟨A',xs,c',rfl,_,hin⟩:=ints_open hti hi hc1 g1;rw [jq h4] at h2
      exact⟨⟨s,xs⟩,A',c',h2,hin⟩)
    subst hxl;exact⟨_,l,c,rfl,hl,nLT hl hm,fun _=>⟨b,o,rfl,hlt,hxs⟩⟩
theorem LW {t e ts ti:TypeId} {f0 f1 f2:Field} {fuel:Nat} {v:Value} {x:DataW H×List MemPlace} (ht:P.underlying t=some (.slice e)) (he:P.underlying e=some (.struct #[f0,f1,f2])) (hsz:P.cellsOf e=3) (o0:f0.offset=0) (o1:f1.offset=1) (o2:f2.offset=2) (e0:f0.type=ts) (e1:f1.type=ti) (e2:f2.type=ti) (hs:P.underlying ts=some .string) (hcs:P.cellsOf ts=1)
    (hi:P.underlying ti=some (.int .i64)) (hc1:P.cellsOf ti=1) (h:DataW.trod enc P w base spare held fuel t [v]=some x):
    ∃ A l c,v= .slice A (List.length l) c∧l.length≤c∧FeatsIn w A l:=by
  subst e0;obtain⟨A,len,c,rfl,hl,hm,hx⟩:=Kz ht hsz dE h;by_cases h0:len=0
  · subst h0
    exact⟨A,[],c,rfl,Nat.zero_le _,Nat.zero_le _,fun h=>absurd rfl h⟩
  · obtain⟨b,o,rfl,hlt,hc⟩:=hx h0
    obtain⟨l,hxl,hxs⟩:=jV (p:=fun i (z:Ft)=>FtIn w b (o + i * 3) z) (n:=len) (fun i hi'=>by
      obtain⟨cs,k,y,h1,h2,h3⟩:=hc i hi';obtain⟨v0,v1,v2,n,y0,y1,y2,rfl,g0,g1,g2⟩:=Tj he h1 o0 o1 o2 hcs (by rw [e1];exact hc1) (by rw [e2];exact hc1) h3;rw [e1] at g1;rw [e2] at g2;obtain⟨s,h4,_,_⟩:=DataW.trod_string hs g0;obtain⟨z1,h5,_,_⟩:=DataW.trod_int hi g1;obtain⟨z2,h6,_,_⟩:=DataW.trod_int hi g2;rw [jq h4,jq h5,jq h6] at h2
      exact⟨⟨s,z1,z2⟩,h2⟩)
    subst hxl;exact⟨_,l,c,rfl,hl,nLT hl hm,fun _=>⟨b,o,rfl,hlt,hxs⟩⟩
theorem post_bel {f:Func} {s:ChangeSpec} {apart fresh handsOn again:Bool} {W W':World} {args:Array Value} {v:Value} {ds gs:List (DataW H)} {before pa pv:List MemPlace} (hW:DataW.Whole enc P f.params.toList s.vars apart W args.toList ds gs before)
    (hres:∀ (b:Nat) (sp:Nat→Bool) (hd:Bool),DataW.TrodAll enc P W' b sp hd f.resultTypes.toList (v.resultList f.resultTypes.size) (s.fn H (ds ++ gs)).results [])
    (hargs:∀ sp:Nat→Bool,(∀ p ∈ before,sp p.block=true)→DataW.TrodAll enc P W' 0 sp true f.params.toList args.toList (s.fn H (ds ++ gs)).args pa)
    (hvars:∀ sp:Nat→Bool,(∀ p ∈ before,sp p.block=true)→DataW.TrodVars enc P W' sp s.vars (s.fn H (ds ++ gs)).vars pv)
    (hps:before=pa ++ pv) (hb:Bel W W')
    (hok:∀ (j:Nat) (t:TypeId) (r:Value),f.resultTypes[j]? =some t→(v.resultList f.resultTypes.size)[j]? =some r→Value.okWide P W' .any 0 t r):
    s.post enc P f apart fresh handsOn again W args v W':=by
  have hlt:=fun p hp=>hW.lt p hp
  have hold:∀ p ∈ before,(fun b=>decide (b < W.heap.size)) p.block=true:=fun p hp=>by simpa using hlt p hp
  refine⟨ds,gs,before,[],pa,pv,hW,hres _ _ _,hargs _ hold,hvars _ hold,World.keptBut_mono (fun p hp=>⟨hp,?_⟩) (hb.frame (· ∈ before)),fun _=>?_⟩
  · rw [hps,List.mem_append] at hp;exact .inr hp
  obtain⟨_,_,_,_,_,hz,hn⟩:=hW;refine⟨hok,_,_,([] ++ pa) ++ pv,⟨[] ++ pa,pv,trodAll_append (hargs _ (fun _ _=>rfl)) (hres _ _ _),hvars _ (fun _ _=>rfl),rfl,fun b off hp=>?_,fun ha=>?_⟩,fun p hp _=>?_⟩
  · have hin:MemPlace.cell b off ∈ before:=by rw [hps];simpa using hp
    rw [hb.frozen (hlt _ hin)];exact hz b off hin
  · have:=hn ha
    rw [hps] at this;simpa using this
  · rw [hps];simpa using hp
end
end Go.Proofs.YtbcpgfnfiekbiaaGreatDoor
