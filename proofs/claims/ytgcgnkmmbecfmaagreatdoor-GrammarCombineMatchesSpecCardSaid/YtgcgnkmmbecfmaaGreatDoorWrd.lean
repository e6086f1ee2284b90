/- Plain laws, and steps of programs, at every world. -/
import Derived.Test.YtgcgnkmmbecfmaaGreatDoorGro
import Derived.Laws.CopyRow
import Derived.Laws.Externs
import Derived.Lib.Overlaps
import Derived.Lib.Builder
import Derived.Lib.AppendStr
import Derived.Lib.UnsafeStr
import Derived.Lib.Bytealg
import Derived.Laws.RangeAny
import Derived.Scope
import Derived.Lib.RuneCount
import Derived.Lib.DecodeNEq
namespace Go.Proofs.YtgcgnkmmbecfmaaGreatDoor
open Go.RowKit
variable {A:Option Addr}{F:FuncId}{a a2 b c cap g k l m n o p sz:Nat}{cs:List Value}{cur:Array Value}{dst:Option Tmp}{gd:Option (Nat×Bool)}{s x:ByteArray}{w:World}
section
section six
variable {P:Program} {Q:Exit->Act->World->Prop} {n:Nw} {f:Fr} {w:World} {ops:Array Oper} {rest:List Oper} {d:Tmp} {ty t e:TypeId} {pos:String} {af:Array Edge} {x y:Operand} {v:Value}
def cpy(cur:Array Value)(o:Nat)(cs:List Value):Array Value:=(cur.toList.take o++cs++cur.toList.drop (o+cs.length)).toArray
theorem QV(h:o+cs.length<=cur.size):(cpy cur o cs).size=cur.size:=by
 unfold cpy;simp only[List.size_toArray,List.length_append,List.length_take,List.length_drop,Array.length_toList];omega
theorem run_copyC{dCap a1 sCap:Nat}{a:Addr}{e' sT:TypeId}(hu:P.underlying t=some (.slice e))(hs:(P.info? e).map (·.size)=some sz)
  (hg:Blk w g e' cur) (hn:Nat.min a1 a2=m) (hl:cs.length=m*sz) (a3:∀ j v,cs[j]? =some v->w.cell? (a.add j)=some v) (a4:o+cs.length<=cur.size) (h1:∀ v∈cs,v.oneCell'=true):
  (Builtin.copy_ #[t,sT] ty #[.slice (some ⟨g,o,none⟩) a2 dCap,.slice (some a) a1 sCap]).run P w= .ok (goInt m) (w.setRow g (cpy cur o cs)):=by
 have hld:=run_loadCells_list (P:=P) w a cs a3;have hst:=run_storeCells_at P g o e' cs 0 cur w hg (by simpa using a4) h1;cases hq:P.info? e with
 | none=>simp[hq]at hs
 | some i=>
  have hi:i.size=sz:=by simpa[hq]using hs
  simp[Builtin.copy_,run_underlying hu,Builtin.lenOf,Builtin.firstCells,sizeOf,typeInfo,hq,hi,hn,<- hl,hld,hst,cpy]
theorem wl_cp{dCap a1 sCap:Nat}{a:Addr}{e':TypeId}(hu:P.underlying t=some (.slice e))(hs:(P.info? e).map (·.size)=some sz)(hx:ev n f x= .slice (some ⟨g,o,none⟩) a2 dCap)(hy:ev n f y= .slice (some a) a1 sCap)
  (hg:Blk w g e' cur) (hn:Nat.min a1 a2=m) (hl:cs.length=m*sz) (a3:∀ j v,cs[j]? =some v->w.cell? (a.add j)=some v) (a4:o+cs.length<=cur.size) (h1:∀ v∈cs,v.oneCell'=true)
  (K:∀ w1,Blk w1 g e' (cpy cur o cs)->Same [g] w w1->WL P ops Q rest n (upd f d (goInt m)) w1):
  WL P ops Q (⟨some d,.call { callee:= .builtin .copy,args:=#[x,y],argTypes:=#[t,t] },ty,pos,af,none⟩::rest) n f w:=by
 have hr:=run_copyC (P:=P) (ty:=ty) (sT:=t) (dCap:=dCap) (sCap:=sCap) hu hs hg hn hl a3 a4 h1;refine wl (v:=goInt m) (w':=w.setRow g (cpy cur o cs)) ?_ (K _ (setRow_heap w g cur _ e' _ hg) (P8 w g _));simp only[RV,execOp,resolve,invoke,builtin,Sem.run_bind,Sem.run_pure,Result.andThen_ok,List.map_toArray,List.map_cons,List.map_nil,hx,hy,hr]
theorem wl_appZ2{tn:TypeId}{zv:Value}{olds:List Value}(hu:P.underlying t=some (.slice e))(hn:P.underlying tn=some (.int .i64))(hi:(P.info? e).map (fun i=>(i.zero,i.size,i.bytes))=some (some zv,sz,a2))(h0:0<k)(hs:0<sz)(a1:cap<m+k)(hb:(m+k)*a2<=140737488355328)(h63:m+k<=4611686018427387904)
  (hx:ev n f x= .slice (some ⟨g,0,none⟩) m cap) (hy:ev n f y= .int .i64 (k:Int)) (hl:olds.length=m*sz) (a3:∀ j v,olds[j]? =some v->w.cell? ⟨g,j,none⟩=some v)
  (K:∀ b cap' w1,Blk w1 b e (olds.toArray++Builtin.zeroCells zv.cells k++Builtin.zeroCells zv.cells (cap'-(m+k)))->Same [] w w1->w.heap.size<=b->m+k<=cap'->cap'<=9223372036854775807->WL P ops Q rest n (upd f d (.slice (some ⟨b,0,none⟩) (m+k) cap')) w1):
  WL P ops Q (⟨some d,.call { callee:= .builtin .append,args:=#[x,y],argTypes:=#[t,tn] },ty,pos,af,none⟩::rest) n f w:=by
 obtain⟨i,hq,hzz⟩:=aT.1 hi;simp only[Prod.mk.injEq]at hzz;obtain⟨z1,z2,z3⟩:=hzz
 have hld:=run_loadCells_list (P:=P) w.drew ⟨g,0,none⟩ olds (fun j v hj=>by
  rw[Addr.add_mid,Nat.zero_add];exact a3 j v hj)
 have a4:(Builtin.firstCells i.size m (.slice (some ⟨g,0,none⟩) m cap)).run P w.drew= .ok olds.toArray w.drew:=by
  simp only[Builtin.firstCells,z2,<- hl,hld]
 have a5:=growslice_fits (need:=m+k) (old:=cap) (bytes:=i.bytes) a1 (by rw[z3];exact hb);have hkb:k*a2<=(m+k)*a2:=aV _ (Nat.le_add_left _ _);have hr:=Lib.run_append_grow_zeros w t tn ty e i zv .i64 .i64 hu hn hq z1 (some ⟨g,0,none⟩) m cap olds a4 k h0 oG a1 oG (by rw[z3];omega) a5;have hge:=grownCap_ge w (m+k) cap e;have hle:=grownCap_le_maxLen w (m+k) cap e (by unfold maxLen;omega)
 generalize grownCap w (m+k) cap e=C at hr hge hle
 refine wl (v:= .slice (some ⟨w.heap.size,0,none⟩) (m+k) C) (w':=w.drew.alloc (.cells (olds.toArray++Builtin.zeroCells zv.cells k++Builtin.zeroCells zv.cells (C-(m+k))) e)) ?_ (K _ _ _ ?_ ?_ (ah _) hge (by unfold maxLen at hle;omega))
 ·simp only[RV,execOp,resolve,invoke,builtin,Sem.run_bind,Sem.run_pure,Result.andThen_ok,List.map_toArray,List.map_cons,List.map_nil,hx,hy,hr]
 ·exact heap_alloc_new w.drew _
 ·have hd:Same [] w w.drew:=⟨rfl,rfl,rfl,ah _,fun _ _ _=>rfl⟩
  exact hd.trans (uJ w.drew _)
theorem r_ext{xs:Array Operand}{ats:Array TypeId}{args:List Value}{dst:Option Nat}(h:(callFunc F args.toArray).run P w= .ok (.value v) w)(a1:xs.toList.map (ev n f)=args):
  RV P n f w ⟨dst,.call { callee:= .value (.func F),args:=xs,argTypes:=ats },ty,pos,af,gd⟩ v w:=by
 subst a1;have hm:(xs.toList.map (ev n f)).toArray=xs.map (ev n f):=by rw[<- Array.toList_map,Array.toArray_toList]
 rw[hm]at h;simp[RV,execOp,resolve,ev,Deferred.ofValue,invoke,h]
theorem T7{cs:Array Value}(h:Blk w b t cs):w.shape? b=some (t,cs.size):=by
 unfold Blk at h;simp[World.shape?,h]
theorem Bw{cs:Array Value}(h:Blk w b t cs):w.frozen? ⟨b,o,none⟩=false:=by
 unfold Blk at h;simp[World.frozen?,h]
theorem run_apart{fn:Func}{tR tA tB:TypeId}{la ca lb cb oa ob:Nat}{ka kb:Array Value}(hf:P.funcs[F]? =some fn)(a1:(fn.name == "runtime.NumGoroutine")=false)(hb:fn.body.isNone=true)(hn:Extern.findNext fn=none)(he:Extern.find fn=some (Extern.SlicesOverlaps.overlaps #[t,t] #[tR]))
  (hu:P.underlying t=some (.slice e)) (hz:(P.info? e).map (·.size)=some sz) (ha:Blk w a tA ka) (hb2:Blk w b tB kb) (hne:a≠b) (hk:kb.size≠0):
  (callFunc F #[.slice (some ⟨a,oa,none⟩) la ca,.slice (some ⟨b,ob,none⟩) lb cb]).run P w= .ok (.value (.bool false)) w:=by
 have hsz:∀ w,(Go.sizeOf e).run P w= .ok sz w:=fun w=>by
  cases hq:P.info? e with
  | none=>simp[hq]at hz
  | some i=>
   have hi:i.size=sz:=by simpa[hq]using hz
   simp[Go.sizeOf,typeInfo,hq,hi]
 rw[run_callFunc_extern hf a1 hb hn he,Lib.run_overlaps_apart w t tR e hu sz hsz ⟨a,oa,none⟩ ⟨b,ob,none⟩ la ca lb cb hne tA tB ka.size kb.size (T7 ha) (T7 hb2) hk (Bw ha) (Bw ha)];rfl
theorem c_monoZ{id:Nat}{l:List Oper}(m:Nat)(S:List Nat)(s:Nat)(R:Bool->Nat->Value->Nat->Nat->World->Prop)(hm:P.follows .mixedOrders=true)(hB:Iz l m S=true)
  (hst:∀ b i v la ha w w',R b i v la ha w->Same [] w w'->R b i v la ha w')
  (step:∀ b i o,i<m->i≠s->l[i]? =some o->∀ f' w' (la ha:Nat->Nat),Same [] w w'->Ag S f' f->(∀ j∈vk o,R b j (f' (y5 l.toArray j)) (la j) (ha j) w')->OS P n f' w' o (fun v w''=>Same [] w' w''/\R b i v w'.heap.size w''.heap.size w''))
  (b3:∀ o,l[s]? =some o->∀ f' w' (la ha:Nat->Nat),Same [] w w'->Ag S f' f->(∀ j∈vk o,R false j (f' (y5 l.toArray j)) (la j) (ha j) w')->(∀ i j,i∈vk o->j∈vk o->i≠j->ha i<=la j\/ha j<=la i)->OS P n f' w' o (fun v w''=>Same [] w w''/\w'.heap.size<=w''.heap.size/\R true s v w'.heap.size w''.heap.size w''/\∀ k v x y,k≠s->R false k v x y w'->R true k v x y w''))
  (hsm:s<m)
  (fin:∀ f' w' (la ha:Nat->Nat),Same [] w w'->Ag S f' f->(∀ i,i<m->R true i (f' (y5 l.toArray i)) (la i) (ha i) w')->WL P l.toArray Q (l.drop m) n f' w'):WC P (.region id l.toArray true) Q n f w:=by
 unfold WC;refine wp_region_any hm ?_;simp only[Iz,Bool.and_eq_true,List.all_eq_true,List.mem_range,decide_eq_true_eq]at hB;obtain⟨⟨hh,hlen⟩,hl⟩:=hB;have b6:∀ i,i<m->∃ o d,l[i]? =some o/\o.dst=some d/\mem S d=true/\o.guard=none/\(∀ j∈vk o,j<i)/\(∀ j,j<m->i≠j->y5 l.toArray i≠y5 l.toArray j)/\y5 l.toArray i=d:=by
  intro i hi;have h:=hh i hi;cases ho:l[i]? with
  | none=>simp[ho]at h
  | some o=>
   simp only[ho,Bool.and_eq_true]at h;obtain⟨⟨⟨h1,h2⟩,h3⟩,h4⟩:=h;cases hd:o.dst with
   | none=>simp[hd]at h1
   | some d=>
    simp only[hd]at h1;refine⟨o,d,rfl,hd,h1,by simpa using h2,fun j hj=>by simpa using aC.1 h3 j hj,fun j hj a9=>?_,by simp[y5,ho,hd]⟩;have:=aC.1 h4 j (aw.2 hj)
    simpa[a9]using this
 have a3:∀(listed:Array Bool) (i:Nat) (o:Oper),listed.size=l.length->l[i]? =some o->listed.getD i false=false->(∀ j∈vk o,listed.getD j false=true)->i∈Region.ready .any l.toArray listed:=by
  intro listed i o hs ho hn hd;have hi:i<l.length:=(au.1 ho).1;simp only[Region.ready,List.mem_filter,List.mem_range,Bool.and_eq_true,Bool.not_eq_true'];refine⟨by simpa using hi,?_,?_⟩
  ·simp only[Array.getD_eq_getD_getElem?]at hn ⊢
   have:i<listed.size:=by omega
   simp only[Array.getElem?_eq_getElem this,Option.getD_some]at hn ⊢;exact hn
  ·simp only[List.getElem?_toArray,ho,Option.map_some,Option.getD_some]
   exact PX hd
 have a2:∀(listed:Array Bool) (i:Nat),i∈Region.ready .any l.toArray listed->∃ o,l[i]? =some o/\listed.getD i false=false/\∀ j∈vk o,listed.getD j false=true:=by
  intro listed i hi;simp only[Region.ready,List.mem_filter,List.mem_range,Bool.and_eq_true,Bool.not_eq_true']at hi;obtain⟨hi,hn,hd⟩:=hi;have hi':i<l.length:=by simpa using hi
  refine⟨l[i],aN hi',?_,?_⟩
  ·simp only[Array.getD_eq_getD_getElem?]at hn ⊢
   cases hq:listed[i]? with
   | none=>rfl
   | some b=>simpa[hq]using hn
  ·simp only[List.getElem?_toArray,List.getElem?_eq_getElem hi',Option.map_some,Option.getD_some]at hd
   exact deps_mem hd
 have key:∀(a4:Nat) (listed:Array Bool) (f':Fr) (w':World) (la ha:Nat->Nat),listed.size=l.length->Dn l listed->(∀ t,m<=t->listed.getD t false=false)->Same [] w w'->Ag S f' f->(∀ i,i<m->listed.getD i false=true->R (listed.getD s false) i (f' (y5 l.toArray i)) (la i) (ha i) w')->(∀ i,i<m->listed.getD i false=true->ha i<=w'.heap.size)->(∀ i j,i<m->j<m->i≠j->listed.getD i false=true->listed.getD j false=true->ha i<=la j\/ha j<=la i)->
   (List.range m).countP (fun i=>!listed.getD i false)+(l.length-m)<=a4->wpAny P .any l.toArray Q a4 listed (AF n f') w':=by
  intro a4
  induction a4 with
  | zero=>
   intro listed f' w' la ha hs hD ht ao an hR hH hI hc;have hlm:l.length=m:=by omega
   have a1:∀ i,i<m->listed.getD i false=true:=by
    intro i hi;have h0:(List.range m).countP (fun i=>!listed.getD i false)=0:=by omega
    rw[List.countP_eq_zero]at h0;have:=h0 i (aw.2 hi)
    simpa using this
   refine⟨?_,?_⟩
   ·cases hr:Region.ready .any l.toArray listed with
    | nil=>rfl
    | cons i r=>
     have hi:i∈Region.ready .any l.toArray listed:=by rw[hr];simp
     obtain⟨o,ho,hn,_⟩:=a2 listed i hi;have:i<l.length:=(au.1 ho).1;rw[a1 i oG]at hn;cases hn
   ·have:=fin f' w' la ha ao an (fun i hi=>by have:=hR i hi (a1 i hi);rwa[a1 s hsm]at this)
    rw[List.drop_eq_nil_of_le oG]at this;unfold WL at this;exact this
  | succ a4 ih=>
   intro listed f' w' la ha hs hD ht ao an hR hH hI hc;refine⟨fun hr=>?_,fun i hi=>?_⟩
   ·-- nothing is ready:all is done
    have a1:∀ k,k<=m->∀ i,i<k->listed.getD i false=true:=by
     intro k
     induction k with
     | zero=>intro _ i hi;omega
     | succ k ihk=>
      intro hk i hi;have b4:=ihk oG;by_cases hik:i<k
      ·exact b4 i hik
      ·have:i=k:=by omega
       subst this;cases hb:listed.getD i false with
       | true=>rfl
       | false=>
        obtain⟨o,d,ho,_,_,_,hd,_,_⟩:=b6 i oG;have:=a3 listed i o hs ho hb (fun j hj=>b4 j (hd j hj));rw[hr]at this;cases this
    have hlm:l.length=m:=by
     rcases aQ m l.length with hm'|hm'
     ·exfalso
      have ho:l[m]? =some l[m]:=aN hm';have hd:∀ j∈vk l[m],listed.getD j false=true:=fun j hj=>a1 m (ah _) j (Hx (hl m hm') oG ho j hj)
      have:=a3 listed m _ hs ho (ht m (ah _)) hd;rw[hr]at this;cases this
     ·omega
    have:=fin f' w' la ha ao an (fun i hi=>by have:=hR i hi (a1 m (ah _) i hi);rwa[a1 m (ah _) s hsm]at this);rw[List.drop_eq_nil_of_le oG]at this;unfold WL at this;exact this
   ·obtain⟨o,ho,hn,hd⟩:=a2 listed i hi
    have hil:i<l.length:=(au.1 ho).1;unfold wpOp;simp only[List.getElem?_toArray,ho];by_cases ac:i<m
    ·obtain⟨o',d,ho',b7,hSd,hg,b9,hdd,hde⟩:=b6 i ac
     rw[ho]at ho';cases ho';have hnw:o.guard=none:=hg;rw[if_pos (by simp[Region.wanted,hnw])]
     left
     have next:∀ v w'' (bb:Bool),Same [] w w''->w'.heap.size<=w''.heap.size->bb=(listed.setIfInBounds i true).getD s false->R bb i v w'.heap.size w''.heap.size w''->(∀ k v la ha,k≠i->R (listed.getD s false) k v la ha w'->R bb k v la ha w'')->wpAny P .any l.toArray Q a4 (listed.setIfInBounds i true) (AF n (upd f' d v)) w'':=by
      intro v w'' bb bc hsz hbb b1 b8;have ab:∀ j,j<m->i≠j->upd f' d v (y5 l.toArray j)=f' (y5 l.toArray j):=fun j hj a5=>by
       have a9:=hdd j hj a5;rw[hde]at a9;simp only[upd];have:Nat.beq (y5 l.toArray j) d=false:=by
        cases hb:Nat.beq (y5 l.toArray j) d
        ·rfl
        ·exact absurd (aR hb).symm a9
       simp[this]
      have b2:∀ j,i≠j->(listed.setIfInBounds i true).getD j false=listed.getD j false:=fun j a5=>by
       simp only[Array.getD_eq_getD_getElem?,Array.getElem?_setIfInBounds_ne a5]
      have bd:(listed.setIfInBounds i true).getD i false=true:=by
       have:i<listed.size:=by omega
       simp[this]
      rw[hbb]at b1 b8;refine ih _ _ _ (fun k=>if k=i then w'.heap.size else la k) (fun k=>if k=i then w''.heap.size else ha k) (by simpa using hs) (hD.set oG ho hd) ?_ bc (OW hSd an) ?_ ?_ ?_ ?_
      ·intro t hmt
       have:i≠t:=by omega
       rw[b2 t this];exact ht t hmt
      ·intro j hj hl'
       by_cases a5:i=j
       ·subst a5
        rw[hde];have:upd f' d v d=v:=by simp[upd]
        rw[this];simp only[if_true];exact b1
       ·rw[ab j hj a5]
        rw[b2 j a5]at hl';simp only[if_neg (Ne.symm a5)];exact b8 j _ _ _ (Ne.symm a5) (hR j hj hl')
      ·intro j hj hl'
       by_cases a5:i=j
       ·subst a5;simp
       ·rw[b2 j a5]at hl'
        simp only[if_neg (Ne.symm a5)];exact nLT (hH j hj hl') hsz
      ·intro j1 j2 b5 hj2 a9 hl1 hl2
       by_cases e1:i=j1
       ·subst e1
        rw[b2 j2 a9]at hl2;have:=hH j2 hj2 hl2;simp only[if_true,if_neg (Ne.symm a9)];exact .inr this
       ·rw[b2 j1 e1]at hl1
        by_cases e2:i=j2
        ·subst e2
         have:=hH j1 b5 hl1;simp only[if_true,if_neg (Ne.symm e1)];exact .inl this
        ·rw[b2 j2 e2]at hl2
         simp only[if_neg (Ne.symm e1),if_neg (Ne.symm e2)];exact hI j1 j2 b5 hj2 a9 hl1 hl2
      ·have hlt:=gK (p:=fun i=>!listed.getD i false) (q:=fun k=>!(listed.setIfInBounds i true).getD k false) (fun x hx=>by
        by_cases hix:i=x
        ·subst hix;simp[hn]
        ·simpa only[Array.getD_eq_getD_getElem?,Array.getElem?_setIfInBounds_ne hix]using hx) (List.range m) i (aw.2 ac) (by simp[hn]) (by rw[bd];rfl)
       omega
     by_cases e:i=s
     ·subst e
      have h1:=b3 o ho f' w' la ha ao an (fun j hj=>by have:=hR j (aF (b9 j hj) ac) (hd j hj);rwa[hn]at this) (fun i1 j1 hi1 b5 a9=>hI i1 j1 (aF (b9 i1 hi1) ac) (aF (b9 j1 b5) ac) a9 (hd i1 hi1) (hd j1 b5));unfold OS at h1;refine h1 _ _ ?_
      rintro v w'' ⟨bc,hsz,b1,b8⟩
      rw[b7,X0];have bd:(listed.setIfInBounds i true).getD i false=true:=by
       have:i<listed.size:=by omega
       simp[this]
      exact next v w'' true bc hsz bd.symm b1 (fun k v la ha hk h=>b8 k v la ha hk (by rwa[hn]at h))
     ·have h1:=step _ i o ac e ho f' w' la ha ao an (fun j hj=>hR j (aF (b9 j hj) ac) (hd j hj))
      unfold OS at h1;refine h1 _ _ ?_
      rintro v w'' ⟨hs1,b1⟩
      rw[b7,X0];have hls:(listed.setIfInBounds i true).getD s false=listed.getD s false:=by
       simp only[Array.getD_eq_getD_getElem?,Array.getElem?_setIfInBounds_ne e]
      exact next v w'' _ (ao.trans hs1) hs1.size hls.symm b1 (fun k v la ha _ h=>hst _ k v la ha _ _ h hs1)
    ·-- the tail
     have a1:=N7 (hl i hil) oG ho hD hd;have:i=m:=by
      rcases aQ m i with h|h
      ·have h1:=a1 m h
       rw[ht m (Nat.le_refl _)]at h1;cases h1
      ·omega
     subst this;have hW:=fin f' w' la ha ao an (fun j hj=>by have:=hR j hj (a1 j hj);rwa[a1 s oG]at this);have hT:=any_tail (Q:=Q) hl (l.length-i) (a4+1) i listed (AF n f') w' oG oG (ah _) hs hD a1 ht (by unfold WL at hW;exact hW);have:=hT.2 i hi;unfold wpOp at this;simp only[List.getElem?_toArray,ho]at this;exact this
 have h0:=key l.length (Array.replicate l.length false) f { w with drawn:=w.drawn+1 } (fun _=>0) (fun _=>0) (by simp) (fun j o _ h=>by
  simp only[Array.getD_eq_getD_getElem?,Array.getElem?_replicate]at h
  split at h<;>cases h) (fun t _=>by
  simp only[Array.getD_eq_getD_getElem?,Array.getElem?_replicate];split<;>rfl) (Same.drew w 1) Xk (fun i hi h=>by
  simp only[Array.getD_eq_getD_getElem?,Array.getElem?_replicate]at h
  split at h<;>cases h) (fun _ _ _=>ag _) (fun _ _ _ _ _ _ _=> .inl (ah _)) (by
   have:=List.countP_le_length (p:=fun i=>!(Array.replicate l.length false).getD i false) (l:=List.range m);simp only[List.length_range]at this
   omega)
 simpa using h0
theorem c_monoZO{id:Nat}{l:List Oper}(m:Nat)(S:List Nat)(s:Nat)(R:Bool->Nat->Value->Nat->Nat->World->Prop)(hm:P.follows .mixedOrders=true)(hB:Iz l m S=true)
  (hst:∀ b i v la ha w1 w2,R b i v la ha w1->Same [] w1 w2->R b i v la ha w2)
  (step:∀ b i o,i<m->i≠s->l[i]? =some o->∀ g w' (la ha:Nat->Nat),Same [] w w'->(∀ j∈vk o,R b j (g (y5 l.toArray j)) (la j) (ha j) w')->OS P n (ovr S g f) w' o (fun v w''=>Same [] w' w''/\R b i v w'.heap.size w''.heap.size w''))
  (a1:∀ o,l[s]? =some o->∀ g w' (la ha:Nat->Nat),Same [] w w'->(∀ j∈vk o,R false j (g (y5 l.toArray j)) (la j) (ha j) w')->(∀ i j,i∈vk o->j∈vk o->i≠j->ha i<=la j\/ha j<=la i)->OS P n (ovr S g f) w' o (fun v w''=>Same [] w w''/\w'.heap.size<=w''.heap.size/\R true s v w'.heap.size w''.heap.size w''/\∀ k v x y,k≠s->R false k v x y w'->R true k v x y w''))
  (hsm:s<m)
  (fin:∀ g w' (la ha:Nat->Nat),Same [] w w'->(∀ i,i<m->R true i (g (y5 l.toArray i)) (la i) (ha i) w')->WL P l.toArray Q (l.drop m) n (ovr S g f) w'):WC P (.region id l.toArray true) Q n f w:=by
 refine c_monoZ m S s R hm hB hst (fun b i o hi hne ho f' w' la ha hs a2 hd=>?_) (fun o ho f' w' la ha hs a2 hd hI=>?_) hsm (fun f' w' la ha hs a2 hR=>?_)
 ·have:=step b i o hi hne ho f' w' la ha hs hd
  rwa[<- o7 a2]at this
 ·have:=a1 o ho f' w' la ha hs hd hI
  rwa[<- o7 a2]at this
 ·have:=fin f' w' la ha hs hR
  rwa[<- o7 a2]at this
theorem CZ{l2:Nat}(hu:P.underlying t=some (.slice e))(hs:(P.info? e).map (·.size)=some sz)(hx:ev n f x= .slice (some ⟨g,o,none⟩) m c)(hy:ev n f y= .int .i64 (l:Int))(hl:l<=m)(hc:l<c)(hl2:m-l=l2):
  RV P n f w ⟨dst,.slice t x (some y) none none,ty,pos,af,gd⟩ (.slice (some ⟨g,o+l*sz,none⟩) l2 (c-l)) w:=by
 have h:=T9 (w:=w) (dst:=dst) (gd:=gd) (ty:=ty) (pos:=pos) (af:=af) hu hs hx hy hl;rw[if_neg oG]at h;subst hl2;have e1:Option.map (fun z:Addr=>z.add (l*sz)) (some (⟨g,o,none⟩:Addr))=some ⟨g,o+l*sz,none⟩:=by
  show some (Addr.add _ _)=_;rw[Addr.add_mid]
 rw[e1]at h;exact h
theorem Own.whole{base:Nat}{xs:List Value}(h:Own w base e sz A k cap xs)(hk:0<k):∃(g:Nat) (cur:Array Value),A=some ⟨g,0,none⟩/\base<=g/\Blk w g e cur/\cap<=9223372036854775807/\cur.size=cap*sz/\cur.toList.take (k*sz)=xs:=by
 rcases h.2 with ⟨_,h0⟩|⟨g,c,cur,hv,hb,hg,hkc,hm,hs,ht⟩
 ·omega
 ·cases hv
  exact⟨g,cur,rfl,hb,hg,by simpa[maxLen]using hm,hs,ht⟩
theorem own_mk{base:Nat}{xs:List Value}(hb:Blk w g e cur)(a1:base<=g)(hk:k<=cap)(hm:cap<=9223372036854775807)(hs:cur.size=cap*sz)(hx:cur.toList.take (k*sz)=xs):Own w base e sz (some ⟨g,0,none⟩) k cap xs:=by
 have hle:k*sz<=cap*sz:=aV sz hk;subst hx;exact⟨by rw[List.length_take,Array.length_toList];omega,.inr ⟨g,cap,cur,rfl,a1,hb,hk,by simpa[maxLen]using hm,hs,rfl⟩⟩
theorem Ey(cur:Array Value)(o:Nat)(cs:List Value):(cpy cur o cs).toList=cur.toList.take o++(cs++cur.toList.drop (o+cs.length)):=by simp[cpy]
theorem cpy_new{Ps Zs Xs Ys:List Value}{o1 o2:Nat}(h:cur.toList=Ps++Zs)(h1:o1=Ps.length)(h2:o2=Ps.length+Xs.length):(cpy (cpy cur o1 Xs) o2 Ys).toList.take (Ps.length+Xs.length+Ys.length)=Ps++(Xs++Ys):=by
 subst h1 h2;have e1:(cpy cur Ps.length Xs).toList=(Ps++Xs)++Zs.drop Xs.length:=by
  rw[Ey,h,List.take_append_of_le_length (Nat.le_refl _),List.take_length,List.drop_append,List.drop_eq_nil_of_le (Nat.le_add_right _ _),Nat.add_sub_cancel_left];simp
 have e2:Ps.length+Xs.length=(Ps++Xs).length:=by simp
 rw[Ey,e1,e2,List.take_append_of_le_length (Nat.le_refl _),List.take_length,<- List.append_assoc,<- List.length_append,List.take_append_of_le_length (Nat.le_refl _),List.take_length];simp
theorem cpy_move{Ps Zs Xs Ys:List Value}{o1 o2:Nat}(h:cur.toList=Ps++(Ys++Zs))(h1:o1=Ps.length)(h2:o2=Ps.length+Xs.length)(hz:Xs.length<=Zs.length):(cpy (cpy cur o2 Ys) o1 Xs).toList.take (Ps.length+Xs.length+Ys.length)=Ps++(Xs++Ys):=by
 subst h1 h2;have hc:(cpy cur (Ps.length+Xs.length) Ys).toList=cur.toList.take (Ps.length+Xs.length)++(Ys++cur.toList.drop (Ps.length+Xs.length+Ys.length)):=Ey _ _ _;have hl:(cur.toList.take (Ps.length+Xs.length)).length=Ps.length+Xs.length:=by
  rw[List.length_take,h];simp only[List.length_append];omega
 have ht:(cur.toList.take (Ps.length+Xs.length)).take Ps.length=Ps:=by
  rw[List.take_take,Nat.min_eq_left (Nat.le_add_right _ _),h,List.take_append_of_le_length (Nat.le_refl _),List.take_length]
 have e1:(cpy cur (Ps.length+Xs.length) Ys).toList.take Ps.length=Ps:=by
  rw[hc,List.take_append_of_le_length oG,ht]
 have e2:(cpy cur (Ps.length+Xs.length) Ys).toList.drop (Ps.length+Xs.length)=Ys++cur.toList.drop (Ps.length+Xs.length+Ys.length):=by
  rw[hc,List.drop_append,List.drop_eq_nil_of_le oG,hl,Nat.sub_self];simp
 rw[Ey,e1,e2];have e3:Ps++(Xs++(Ys++cur.toList.drop (Ps.length+Xs.length+Ys.length)))=(Ps++(Xs++Ys))++cur.toList.drop (Ps.length+Xs.length+Ys.length):=by simp
 have e4:Ps.length+Xs.length+Ys.length=(Ps++(Xs++Ys)).length:=by simp[Nat.add_assoc]
 rw[e3,e4,List.take_append_of_le_length (Nat.le_refl _),List.take_length]
end six
end
section
def bl(s:ByteArray):List UInt8:=s.data.toList
theorem bl_app(p q:ByteArray):bl (p++q)=bl p++bl q:=by
 unfold bl;rw[ByteArray.data_append,Array.toList_append]
theorem Dy(p:ByteArray):(bl p).length=p.size:=by unfold bl;rw[Array.length_toList];rfl
theorem Wv{p q:ByteArray}(h:bl p=bl q):p=q:=by
 cases p;cases q;unfold bl at h;simp only[ByteArray.mk.injEq];exact Array.toList_inj.1 h
section rules
variable {P:Program} {Q:Exit->Act->World->Prop} {n:Nw} {f:Fr} {w w':World} {ops:Array Oper} {rest:List Oper} {d:Nat} {ty:TypeId} {pos:String} {af:Array Edge} {x y z:Operand} {t t' e:TypeId}
theorem Fk{p q:ByteArray}(hx:ev n f x= .string p)(hy:ev n f y= .string q)(hb:p.size+q.size<=9223372036854775807):
  RV P n f w ⟨dst,.binOp .add t x y t',ty,pos,af,gd⟩ (.string (p++q)) w:=by
 have h:¬((p.size+q.size:Nat):Int)>IntKind.i64.max:=by
  have e:IntKind.i64.max=9223372036854775807:=by decide
  rw[e];omega
 simp only[RV,execOp,hx,hy,eqGuard,binOp,Op.stringOp,if_neg h];rfl
end rules
end
section
abbrev cD:Array Value:=#[.int .i64 0,.string ⟨#[]⟩,.int .i64 0,.string ⟨#[]⟩,.slice none 0 0,.slice none 0 0]
def stk(h:Nat)(s:ByteArray):ByteArray:=⟨((bl s).take h).toArray⟩
def sdr(l:Nat)(s:ByteArray):ByteArray:=⟨((bl s).drop l).toArray⟩
theorem Iw(l:Nat)(s:ByteArray):bl (sdr l s)=(bl s).drop l:=rfl
theorem yX(l:Nat)(s:ByteArray):(sdr l s).size=s.size-l:=by rw[<- Dy,<- Dy,Iw,List.length_drop]
theorem ext_bl(s:ByteArray)(l h:Nat):bl (s.extract l h)=((bl s).drop l).take (h-l):=by
 unfold bl;rw[ByteArray.data_extract,Array.toList_extract,List.extract_eq_take_drop]
theorem ext_sdr:s.extract l s.size=sdr l s:=Wv (by
 rw[ext_bl,Iw,List.take_of_length_le]
 rw[List.length_drop,Dy]
 exact ah _)
section rules
variable {P:Program} {Q:Exit->Act->World->Prop} {n:Nw} {f:Fr} {w w':World} {ops:Array Oper} {rest:List Oper} {d:Nat} {ty:TypeId} {pos:String} {af:Array Edge} {x y z:Operand} {t t' e:TypeId}
theorem VJ(hu:P.underlying t=some .string)(hx:ev n f x= .string s)(hy:ev n f y= .int .i64 (l:Int))(hl:l<=s.size):
  RV P n f w ⟨dst,.slice t x (some y) none none,ty,pos,af,gd⟩ (.string (sdr l s)) w:=by
 have h1:(Instr.sliceBound (.int .i64 (l:Int)) s.size .sliceB).run P w= .ok l w:=by
  simp[Instr.sliceBound,asIntOf,hl]
 simp[RV,execOp,hx,hy,Instr.sliceAt,run_underlying hu,Instr.slice,Instr.sliceBounds,h1,ext_sdr]
end rules
def RK(c:UInt8):List UInt8->List (List UInt8)
 | []=>[[]]
 | x::xs=>if x=c then []::RK c xs else (x::(RK c xs).headD [])::(RK c xs).tail
theorem ixb_pos{c:UInt8}:∀ {l:List UInt8} {m:Nat},Lib.indexByte l c=(m:Int)->m<l.length/\¬c∈l.take m/\l=l.take m++c::l.drop (m+1)
 | [],m,h=>by simp[Lib.indexByte]at h
 | b::l,m,h=>by
  unfold Lib.indexByte at h
  by_cases e:b=c
  ·have e2:(b==c)=true:=by simpa using e
   simp only[e2,if_true]at h
   have:m=0:=by omega
   grind
  ·have e2:(b==c)=false:=by simpa using e
   simp only[e2,Bool.false_eq_true,if_false]at h
   by_cases q:Lib.indexByte l c= -1
   ·simp[q]at h
   ·have q2:(Lib.indexByte l c== -1)=false:=by simpa using q
    simp only[q2,Bool.false_eq_true,if_false]at h
    have h3:=Lib.indexByte_ge l c
    obtain⟨k,rfl⟩:∃ k,m=k+1:=⟨m-1,by omega⟩
    obtain⟨a1,a2,a3⟩:=ixb_pos (c:=c) (l:=l) (m:=k) oG
    grind
def sp(c:UInt8)(s:ByteArray):List ByteArray:=(RK c (bl s)).map (fun p=>⟨p.toArray⟩)
def pc(c:UInt8)(s:ByteArray)(k:Nat):ByteArray:=(sp c s).getD k ⟨#[]⟩
def StrsIn(w:World)(A:Option Addr)(xs:List ByteArray):Prop:=
 xs.length<=vJ/\(xs≠[]->∃ b o,A=some ⟨b,o,none⟩/\b<w.heap.size/\∀ k (h:k<xs.length),w.cell? ⟨b,o+k*1,none⟩=some (.string xs[k]))
theorem StrsIn.mono{w':World}{xs:List ByteArray}(h:StrsIn w A xs)(hb:Bel w w'):StrsIn w' A xs:=
 ⟨h.1,fun hn=>by
  obtain⟨b,o,e,hl,hc⟩:=h.2 hn
  exact⟨b,o,e,nLL hl hb.size,fun k hk=>hb.cell hl (hc k hk)⟩⟩
theorem StrsIn.at_{xs:List ByteArray}(h:StrsIn w A xs)(hk:k<xs.length):
  ∃ b o,A=some ⟨b,o,none⟩/\b<w.heap.size/\w.cell? ⟨b,o+k*1,none⟩=some (.string xs[k]):=by
 obtain⟨b,o,e,hl,hc⟩:=h.2 (by rintro rfl;simp at hk)
 grind
end
section
def ItIn(w:World)(b:Nat)(s:ByteArray)(p:Nat):Prop:=w.heap[b]? =some (.stringIter s p)
section it
variable {w w':World} {b p:Nat} {s:ByteArray} {X:List Nat}
theorem ItIn.lt(h:ItIn w b s p):b<w.heap.size:=uv h
theorem ItIn.tr(h:ItIn w b s p)(hs:Same X w w')(hx:b∉X):ItIn w' b s p:=(hs.blk b h.lt hx).trans h
theorem ItIn.tr0(h:ItIn w b s p)(hs:Same [] w w'):ItIn w' b s p:=h.tr hs (by simp)
theorem ItIn.tr1(h:ItIn w b s p)(hs:Same [c] w w')(hne:b≠c):ItIn w' b s p:=h.tr hs (by simpa using hne)
end it
section rules
variable {P:Program} {Q:Exit->Act->World->Prop} {n:Nw} {f:Fr} {w w':World} {ops:Array Oper} {rest:List Oper} {d:Nat} {ty:TypeId} {pos:String} {af:Array Edge} {x y z:Operand} {t t' e:TypeId}
theorem wl_rg(hu:P.underlying t=some .string)(hx:ev n f x= .string s)
  (K:∀ b w1,ItIn w1 b s 0->Same [] w w1->w.heap.size<=b->WL P ops Q rest n (upd f d (.pointer (some ⟨b,0,none⟩))) w1):WL P ops Q (⟨some d,.range t x,ty,pos,af,none⟩::rest) n f w:=by
 refine wl (v:= .pointer (some ⟨w.heap.size,0,none⟩)) (w':=w.iter s 0) ?_ (K _ _ (World.iter_heap w s 0) (uJ w _) (ah _));simp only[RV,execOp,hx,run_range_string w t s hu,Sem.run_bind,Result.andThen_ok];simp
theorem run_nx(h:ItIn w b s p)(hp:p<s.size):
  (Instr.next (.pointer (some ⟨b,0,none⟩)) true ty).run P w= .ok (.tuple #[.bool true,.int .i64 p,.int .i32 ((Utf8.decode s p).1:Nat)]) { w with heap:=w.heap.setIfInBounds b (.stringIter s (p+(Utf8.decode s p).2)) }:=by
 have h':w.heap[b]? =some (.stringIter s p):=h;simp only[Instr.next,getObj,setObj,Sem.run_bind,Sem.run,h',Result.andThen,hp,if_true];simp[goInt]
theorem same_setO(w:World)(b:Nat)(o:Obj):Same [b] w { w with heap:=w.heap.setIfInBounds b o }:=
 ⟨rfl,rfl,rfl,by simp,fun k _ hx=>by
  have:k≠b:=fun e=>hx (aq.2 e)
  simp[Ne.symm this]⟩
theorem wl_nx(h:ItIn w b s p)(hx:ev n f x= .pointer (some ⟨b,0,none⟩))(hp:p<s.size)
  (K:∀ w1,ItIn w1 b s (p+(Utf8.decode s p).2)->Same [b] w w1->WL P ops Q rest n (upd f d (.tuple #[.bool true,.int .i64 ((p:Nat):Int),.int .i32 (((Utf8.decode s p).1:Nat):Int)])) w1):WL P ops Q (⟨some d,.next x true,ty,pos,af,none⟩::rest) n f w:=by
 refine wl (v:= .tuple #[.bool true,.int .i64 p,.int .i32 ((Utf8.decode s p).1:Nat)]) (w':={ w with heap:=w.heap.setIfInBounds b (.stringIter s (p+(Utf8.decode s p).2)) }) ?_ (K _ ?_ (same_setO w b _))
 ·simp only[RV,execOp,hx,run_nx h hp,Sem.run_bind,Result.andThen_ok]
  simp
 ·show (w.heap.setIfInBounds b _)[b]? =_
  have:=h.lt;simp[this]
theorem r_ne(h:ItIn w b s p)(hx:ev n f x= .pointer (some ⟨b,0,none⟩))(hp:¬p<s.size):RV P n f w ⟨dst,.next x true,ty,pos,af,gd⟩ (.tuple #[.bool false]) w:=by
 have h':w.heap[b]? =some (.stringIter s p):=h;have h2:(Instr.next (.pointer (some ⟨b,0,none⟩)) true ty).run P w= .ok (.tuple #[.bool false]) w:=by
  simp[Instr.next,getObj,Sem.run,h',hp]
 simp only[RV,execOp,hx,h2,Sem.run_bind,Result.andThen_ok];simp
theorem E2{k k':IntKind}{a:Int}{dd:TypeDesc}(hs:P.underlying t=some dd)(hd:P.underlying t'=some (.int k'))(hx:ev n f x= .int k a)(ha:k'.wrap a=a):
  RV P n f w ⟨dst,.convert t t' x,ty,pos,af,gd⟩ (.int k' a) w:=by
 simp[RV,execOp,hx,convert,run_underlying hs,run_underlying hd,Conv.intToInt,ha]
theorem MX{kb:IntKind}(hx:ev n f x= .int .u64 (a:Int))(hy:ev n f y= .int kb (b:Int))(hb:b<64)(ha:a*2^b<18446744073709551616)(hc:a*2^b=c):
  RV P n f w ⟨dst,.binOp .shl t x y t',ty,pos,af,gd⟩ (.int .u64 (c:Int)) w:=by
 subst hc;have h1:min b 64=b:=by omega
 have h2:IntKind.u64.wrap ((a:Int)*2^b)=((a*2^b:Nat):Int):=by
  rw[IntKind.wrap_u64];have:((a:Int)*2^b)=((a*2^b:Nat):Int):=by simp
  rw[this]
  generalize a*2^b=c at ha
  omega
 have h0:¬((b:Int)<0):=by omega
 simp only[RV,execOp,hx,hy,eqGuard,binOp,Op.shift,IntKind.bits,if_neg h0,Int.toNat_natCast,h1,h2];rfl
theorem r_shr8{kb:IntKind}(hx:ev n f x= .int .u8 (a:Int))(hy:ev n f y= .int kb (b:Int))(hb:b<8)(hc:a/2^b=c):
  RV P n f w ⟨dst,.binOp .shr t x y t',ty,pos,af,gd⟩ (.int .u8 (c:Int)) w:=by
 subst hc;have h1:min b 8=b:=by omega
 have h2:(a:Int).fdiv (2^b)=((a/2^b:Nat):Int):=by
  rw[Int.fdiv_eq_ediv_of_nonneg _ (by exact Int.le_of_lt (Int.pow_pos dE))];simp
 have h0:¬((b:Int)<0):=by omega
 simp only[RV,execOp,hx,hy,eqGuard,binOp,Op.shift,IntKind.bits,if_neg h0];simp[h1,h2]
theorem u8_and7:∀ a:Nat,a<256->bits .and .u8 (a:Int) 7=((a%8:Nat):Int):=by decide +kernel
theorem r_and7(hx:ev n f x= .int .u8 (a:Int))(hy:ev n f y= .int .u8 7)(ha:a<256):
  RV P n f w ⟨dst,.binOp .and t x y t',ty,pos,af,gd⟩ (.int .u8 ((a%8:Nat):Int)) w:=by
 have:=u8_and7 a ha;simp only[RV,execOp,hx,hy,eqGuard,binOp];simp[go_sem,this]
theorem r_rstr{r:Int}(hs:P.underlying t=some (.int .i32))(hd:P.underlying t'=some .string)(hx:ev n f x= .int .i32 r):
  RV P n f w ⟨dst,.convert t t' x,ty,pos,af,gd⟩ (.string (Utf8.encode r)) w:=by
 simp[RV,execOp,hx,convert,run_underlying hs,run_underlying hd,Conv.intToString]
def QN(Q:Exit->Act->World->Prop):Exit->Act->World->Prop:=Exit.noGoto Q
theorem c_scope{c:Code}(h:WC P c (QN Q) n f w):WC P (.scope c) Q n f w:=by
 unfold WC at h ⊢;exact wp_scope_straight h
theorem e_Nr(h:EX Q .ret n f w):EX (QN Q) .ret n f w:=by unfold EX at h ⊢;exact h
end rules
end
def gb(s:ByteArray)(k:Nat):Nat:=(s.get! k).toNat
theorem ov(s:ByteArray)(k:Nat):gb s k<256:=(s.get! k).toNat_lt
theorem gb_at(h:k<s.size):(s[k]'h).toNat=gb s k:=by
 unfold gb;rw[show s.get! k=s[k]'h from get_at s k h]
theorem gb_bl(s:ByteArray)(k:Nat):gb s k=((bl s).getD k 0).toNat:=by
 unfold gb bl
 congr 1
 simp only[ByteArray.get!,List.getD];rw[Array.getElem?_toList];cases h:s.data[k]? with
 | none=>rw[getElem!_def,h];rfl
 | some c=>rw[getElem!_def,h];rfl
theorem Vz(p:Nat)(s:ByteArray)(k:Nat):gb (sdr p s) k=gb s (p+k):=by
 rw[gb_bl,gb_bl,Iw];simp[List.getD]
def wdt(s:ByteArray)(p:Nat):Nat:=(Utf8.decode s p).2
def Y5(s:ByteArray)(p:Nat):Bool:=decide (gb s p<128)||decide (2<=wdt s p)
theorem Qy(s:ByteArray)(p:Nat):Utf8.decode s p=Lib.decodeN (s.size-p) (gb s p) (gb s (p+1)) (gb s (p+2)) (gb s (p+3)):=Lib.decode_at s p
theorem N4(h:gb s p<128):wdt s p=1/\(Utf8.decode s p).1=gb s p:=by
 unfold wdt;rw[Qy];unfold Lib.decodeN;rw[if_pos h];exact⟨rfl,rfl⟩
theorem Yw(h:p<s.size):1<=wdt s p:=Lib.decode_width_pos s p h
theorem dec_high(h:p<s.size)(hb:128<=gb s p):128<=(Utf8.decode s p).1:=(decode_high s p h (by rw[gb_at h];exact hb)).1
theorem H3{j:Nat}(h1:0<j)(h2:j<wdt s p):128<=gb s (p+j)/\p+j<s.size:=by
 unfold wdt at h2;rw[Qy]at h2;unfold Lib.decodeN at h2
 split at h2
 ·simp at h2;omega
 ·split at h2
  ·rename_i _ q
   split at h2
   ·obtain rfl:j=1:=by simp at h2;omega
    omega
   ·simp at h2;omega
  ·split at h2
   ·rename_i _ _ q
    split at h2
    ·have:j=1\/j=2:=by simp at h2;omega
     rcases this with rfl|rfl<;>omega
    ·simp at h2;omega
   ·split at h2
    ·rename_i _ _ _ q
     split at h2
     ·have:j=1\/j=2\/j=3:=by simp at h2;omega
      rcases this with rfl|rfl|rfl<;>omega
     ·simp at h2;omega
    ·simp at h2;omega
theorem Rz(h:p<s.size):p+wdt s p<=s.size:=by
 by_cases e:wdt s p<=1
 ·omega
 ·have:=(H3 (s:=s) (p:=p) (j:=wdt s p-1) oG oG).2
  omega
def chF(s:ByteArray):Nat->Nat->List Nat
 | 0,_=>[]
 | f+1,p=>if p<s.size then p::chF s f (p+wdt s p)else []
theorem JV{f:Nat}(h:¬p<s.size):chF s f p= []:=by cases f<;>simp[chF,h]
theorem chF_fuel{s:ByteArray}:∀ {f g p:Nat},s.size-p<=f->s.size-p<=g->chF s f p=chF s g p
 | 0,g,p,hf,_=>by rw[JV oG,JV oG]
 | f+1,0,p,_,hg=>by rw[JV oG,JV oG]
 | f+1,g+1,p,hf,hg=>by
  by_cases h:p<s.size
  ·have:=Yw h
   simp only[chF,if_pos h]
   rw[chF_fuel (f:=f) (g:=g) oG oG]
  ·rw[JV h,JV h]
def ch(s:ByteArray)(p:Nat):List Nat:=chF s (s.size-p) p
theorem Wk(h:¬p<s.size):ch s p= []:=JV h
theorem EQ(h:p<s.size):ch s p=p::ch s (p+wdt s p):=by
 have hw:=Yw h;unfold ch;obtain⟨k,hk⟩:∃ k,s.size-p=k+1:=⟨s.size-p-1,by omega⟩
 rw[hk];simp only[chF,if_pos h];rw[chF_fuel (g:=s.size-(p+wdt s p)) oG (Nat.le_refl _)]
def vq(s:ByteArray)(p:Nat):Bool:=(ch s p).all (Y5 s)
theorem vq_end(h:¬p<s.size):vq s p=true:=by unfold vq;rw[Wk h];rfl
theorem H5(h:p<s.size)(ho:Y5 s p=true):vq s p=vq s (p+wdt s p):=by
 unfold vq;rw[EQ h,List.all_cons,ho,Bool.true_and]
theorem H4(h:p<s.size)(ho:Y5 s p=false):vq s p=false:=by
 unfold vq;rw[EQ h,List.all_cons,ho,Bool.false_and]
theorem vq_low(h:p<s.size)(hb:gb s p<128):vq s p=vq s (p+1):=by
 rw[H5 h (by unfold Y5;rw[decide_eq_true hb];rfl),(N4 hb).1]
theorem D3{s:ByteArray}:∀ {k p:Nat},p+k<=s.size->(∀ j,j<k->gb s (p+j)<128)->vq s p=vq s (p+k)
 | 0,_,_,_=>rfl
 | k+1,p,h,hb=>by
  rw[vq_low (p:=p) oG (hb 0 oG),D3 (k:=k) (p:=p+1) oG (fun j hj=>by have:=hb (j+1) oG;rwa[show p+(j+1)=p+1+j by omega]at this)]
  congr 1;omega
def spc(c:Nat):Bool:=decide (c=32)||decide (c=9)||decide (c=10)||decide (c=40)||decide (c=41)||decide (c=91)||decide (c=93)||decide (c=44)||decide (c=59)
theorem RW(h:spc c=true):c<128:=by
 unfold spc at h;simp only[Bool.or_eq_true,decide_eq_true_eq]at h;omega
def brd(s:ByteArray)(p:Nat):Bool:=(ch s p).any (fun q=>spc (Utf8.decode s q).1)
theorem Dw(h:¬p<s.size):brd s p=false:=by unfold brd;rw[Wk h];rfl
theorem J2(h:p<s.size):brd s p=(spc (Utf8.decode s p).1||brd s (p+wdt s p)):=by
 unfold brd;rw[EQ h,List.any_cons]
theorem brd_byte:∀ {m p k:Nat},s.size-p<=m->p<=k->k<s.size->spc (gb s k)=true->brd s p=true:=by
 intro m
 induction m with
 | zero=>intro p k h1 h2 h3;omega
 | succ m ih=>
  intro p k h1 h2 h3 h4;have hp:p<s.size:=by omega
  have hw:=Yw hp;rw[J2 hp];by_cases e:p=k
  ·subst e
   have hl:=RW h4;rw[(N4 hl).2,h4];rfl
  ·by_cases e2:p+wdt s p<=k
   ·rw[ih (p:=p+wdt s p) (k:=k) oG e2 h3 h4,Bool.or_true]
   ·have:=(H3 (s:=s) (p:=p) (j:=k-p) oG oG).1
    rw[show p+(k-p)=k by omega]at this;have:=RW h4;omega
theorem byte_brd:∀ {m p:Nat},s.size-p<=m->brd s p=true->∃ k,p<=k/\k<s.size/\spc (gb s k)=true:=by
 intro m
 induction m with
 | zero=>intro p h1 h;rw[Dw oG]at h;cases h
 | succ m ih=>
  intro p h1 h;by_cases hp:p<s.size
  ·have hw:=Yw hp
   rw[J2 hp,Bool.or_eq_true]at h;rcases h with h|h
   ·refine⟨p,ah _,hp,?_⟩
    by_cases hl:gb s p<128
    ·rwa[(N4 hl).2]at h
    ·have:=dec_high hp oG
     have:=RW h;omega
   ·obtain⟨k,h2,h3,h4⟩:=ih oG h
    exact⟨k,by omega,h3,h4⟩
  ·rw[Dw hp]at h;cases h
def kw(s:ByteArray):Bool:=decide (1<=(ch s 0).length)&&decide ((ch s 0).length<=30)&&vq s 0 && !brd s 0
theorem ok_bad(hb:128<=gb s p)(h:Lib.firstT (gb s p)%8≠2)(h3:Lib.firstT (gb s p)%8≠3)(h4:Lib.firstT (gb s p)%8≠4):Y5 s p=false:=by
 have hc:Lib.firstT (gb s p)=241\/Lib.firstT (gb s p)<240:=by
  generalize gb s p=b at hb
  unfold Lib.firstT;rw[if_neg oG]
  repeat' split
  all_goals omega
 have ht:Lib.firstT (gb s p)=241:=by
  rcases hc with ht|hl
  ·exact ht
  ·exfalso
   rcases Lib.firstT_low hl with q|q|q|q|q|q|q
   ·rw[Lib.firstT_C2 q]at h;exact h rfl
   ·rw[Lib.firstT_E0 q]at h3;exact h3 rfl
   ·rw[Lib.firstT_E1 q]at h3;exact h3 rfl
   ·rw[Lib.firstT_ED q]at h3;exact h3 rfl
   ·rw[Lib.firstT_F0 q]at h4;exact h4 rfl
   ·rw[Lib.firstT_F1 q]at h4;exact h4 rfl
   ·rw[Lib.firstT_F4 q]at h4;exact h4 rfl
 have:wdt s p=1:=by
  unfold wdt;rw[Qy,Lib.bad_eq _ _ _ _ _ (ov s p) ht]
 unfold Y5;rw[this,decide_eq_false oG];rfl
theorem first_256(b:Nat):Lib.firstT b<256:=by
 unfold Lib.firstT
 repeat' split
 all_goals omega
theorem first_lt(h:Lib.firstT (gb s p)%8=2\/Lib.firstT (gb s p)%8=3\/Lib.firstT (gb s p)%8=4):Lib.firstT (gb s p)<240:=by
 have hc:Lib.firstT (gb s p)=240\/Lib.firstT (gb s p)=241\/Lib.firstT (gb s p)<240:=by
  generalize gb s p=b
  unfold Lib.firstT
  repeat' split
  all_goals omega
 omega
def jk(s:ByteArray)(p n:Nat):Prop:=s.size-p<n\/gb s (p+1)<Lib.accLo (Lib.firstT (gb s p)/16)\/Lib.accHi (Lib.firstT (gb s p)/16)<gb s (p+1)\/(3<=n/\(gb s (p+2)<128\/191<gb s (p+2)))\/(4<=n/\(gb s (p+3)<128\/191<gb s (p+3)))
instance(s:ByteArray)(p n:Nat):Decidable (jk s p n):=by unfold jk;infer_instance
theorem ok_n(hp:p<s.size)(hn:n=2\/n=3\/n=4)(h:Lib.firstT (gb s p)%8=n):(jk s p n->Y5 s p=false)/\(¬jk s p n->Y5 s p=true/\wdt s p=n):=by
 have hx:=first_lt (s:=s) (p:=p) oG;have hb:128<=gb s p:=by
  by_cases e:gb s p<128
  ·unfold Lib.firstT at hx;rw[if_pos e]at hx;omega
  ·omega
 have he:=Lib.slow_eq (s.size-p) (gb s p) (gb s (p+1)) (gb s (p+2)) (gb s (p+3)) oG (ov _ _) (ov _ _) (ov _ _) hx;rw[h]at he;have hw:wdt s p=(Lib.slowN (s.size-p) (gb s p) (gb s (p+1)) (gb s (p+2)) (gb s (p+3)) n (Lib.accLo (Lib.firstT (gb s p)/16)) (Lib.accHi (Lib.firstT (gb s p)/16))).2:=by
  unfold wdt;rw[Qy,he]
 have hok:Y5 s p=decide (2<=wdt s p):=by unfold Y5;rw[decide_eq_false oG,Bool.false_or]
 constructor
 ·intro hbad
  have:wdt s p=1:=by
   rw[hw];unfold Lib.slowN;unfold jk at hbad
   repeat' split
   all_goals first|rfl|(exfalso;omega)
  rw[hok,this];rfl
 ·intro hbad
  have:wdt s p=n:=by
   rw[hw];unfold Lib.slowN;unfold jk at hbad
   repeat' split
   all_goals first|(exfalso;omega)|(simp only;omega)
  rw[hok,this];exact⟨ai oG,rfl⟩
theorem u7{P:Program}{n:Nw}{f:Fr}{ty:TypeId}{pos:String}{af:Array Edge}{x y:Operand}{t:TypeId}{i:Nat}(hu:P.underlying t=some .string)(hx:ev n f x= .string s)(hy:ev n f y= .int .i64 i)(hi:i<s.size):
  RV P n f w ⟨dst,.index t x y,ty,pos,af,gd⟩ (.int .u8 ((gb s i:Nat):Int)) w:=by
 rw[<- gb_at hi];exact K1 hu hx hy hi
theorem P0(h:a<18446744073709551616):IntKind.u64.wrap (a:Int)=a:=by rw[IntKind.wrap_u64];omega
def hiB:Nat:=9259542123273814144
def wo:Nat->ByteArray->Nat
 | 0,s=>gb s 0
 | k+1,s=>wo k s|||(gb s (k+1)*2^(8*(k+1)))
theorem uQ(s:ByteArray):∀ {k:Nat},k<8->wo k s<18446744073709551616
 | 0,_=>by have:=ov s 0;unfold wo;omega
 | k+1,h=>by
  have h1:=uQ s (k:=k) oG
  have h2:=ov s (k+1)
  have h3:gb s (k+1)*2^(8*(k+1))<2^64:=by
   have:(2:Nat)^64=2^(64-8*(k+1))*2^(8*(k+1)):=by rw[<- Nat.pow_add];congr 1;omega
   rw[this];refine Nat.mul_lt_mul_of_pos_right ?_ (Nat.pow_pos dE);have:(2:Nat)^8<=2^(64-8*(k+1)):=Nat.pow_le_pow_right dE oG;omega
  exact aX (n:=64) h1 h3
theorem BX(h:(a|||b)&&&c=0):a&&&c=0/\b&&&c=0:=by
 constructor<;>refine Nat.eq_of_testBit_eq (fun i=>?_)<;>(have:=congrArg (fun z=>z.testBit i) h;simp at this ⊢;grind)
theorem wo_z(s:ByteArray):∀ {k:Nat},k<8->wo k s&&&hiB=0->∀ j,j<=k->gb s j<128
 | 0,_,h,j,hj=>by
  obtain rfl:j=0:=by omega
  have h1:=ov s 0
  have h2:=congrArg (fun z=>z.testBit 7) h
  simp only[wo,Nat.testBit_and,Nat.zero_testBit]at h2
  have h3:hiB.testBit 7=true:=by decide
  rw[h3,Bool.and_true,Nat.testBit_eq_decide_div_mod_eq]at h2
  simp at h2
  omega
 | k+1,hk,h,j,hj=>by
  obtain⟨h1,h2⟩:=BX h
  by_cases e:j=k+1
  ·subst e
   have h3:=ov s (k+1)
   have h4:=congrArg (fun z=>z.testBit (8*(k+1)+7)) h2
   have h5:hiB.testBit (8*(k+1)+7)=true:=by
    have:∀ k,k<8->hiB.testBit (8*k+7)=true:=by decide
    exact this (k+1) hk
   simp only[Nat.testBit_and,Nat.zero_testBit,h5,Bool.and_true,Nat.testBit_mul_two_pow]at h4;rw[Nat.add_sub_cancel_left,Nat.testBit_eq_decide_div_mod_eq]at h4;simp at h4;omega
  ·exact wo_z s oG h1 j oG
theorem Q1(a p:Nat)(s:ByteArray):sdr a (sdr p s)=sdr (p+a) s:=Wv (by rw[Iw,Iw,Iw,List.drop_drop])
theorem asc8(h:wo 7 (sdr p s)&&&hiB=0):∀ j,j<8->gb s (p+j)<128:=fun j hj=>by
 rw[<- Vz];exact wo_z _ dE h j oG
theorem asc16(h:(wo 7 (sdr p s)|||wo 7 (sdr 8 (sdr p s)))&&&hiB=0):∀ j,j<16->gb s (p+j)<128:=fun j hj=>by
 obtain⟨h1,h2⟩:=BX h
 rw[Q1]at h2
 by_cases e:j<8
 ·exact asc8 h1 j e
 ·have:=asc8 h2 (j-8) oG
  rwa[show p+8+(j-8)=p+j by omega]at this
theorem asc32(h:((wo 7 (sdr p s)|||wo 7 (sdr 8 (sdr p s)))|||(wo 7 (sdr 16 (sdr p s))|||wo 7 (sdr 24 (sdr p s))))&&&hiB=0):∀ j,j<32->gb s (p+j)<128:=fun j hj=>by
 obtain⟨h1,h2⟩:=BX h
 by_cases e:j<16
 ·exact asc16 h1 j e
 ·have h3:(wo 7 (sdr (p+16) s)|||wo 7 (sdr 8 (sdr (p+16) s)))&&&hiB=0:=by
   rw[Q1,Q1]at h2;rw[Q1];exact h2
  have:=asc16 h3 (j-16) oG
  rwa[show p+16+(j-16)=p+j by omega]at this
def U8In(w:World):Prop:=(1<w.heap.size/\∀ k,k<256->w.cell? ⟨1,0+k*1,none⟩=some (.int .u8 ((Lib.firstT k:Nat):Int)))/\2<w.heap.size/\∀ k,k<16->w.rangeAt 2 (0+k*2) [.int .u8 ((Lib.accLo k:Nat):Int),.int .u8 ((Lib.accHi k:Nat):Int)]
theorem U8In.mono{w':World}(h:U8In w)(hb:Bel w w'):U8In w':=⟨⟨nLL h.1.1 hb.size,fun k hk=>hb.cell h.1.1 (h.1.2 k hk)⟩,nLL h.2.1 hb.size,fun k hk=>hb.range h.2.1 (h.2.2 k hk)⟩
def CH:ByteArray:=⟨#[32,9,10,40,41,91,93,44,59]⟩
theorem ch_lt:∀ i,i<9->gb CH i<128:=by decide +kernel
theorem ch_ix:∀ c,c<256->decide (0<=Lib.indexByte (bl CH) c.toUInt8)=spc c:=by decide +kernel
def chs(k x:Nat):Bool:=(List.range k).any (fun j=>decide (gb CH j=x))
theorem chs_all:∀ x,x<256->chs 9 x=spc x:=by decide +kernel
theorem chs_step(k x:Nat):chs (k+1) x=if x=gb CH k then true else chs k x:=by
 unfold chs;rw[List.range_succ,List.any_append];by_cases h:x=gb CH k
 ·simp[h]
 ·simp[h,Ne.symm h]
theorem run_ixb{P:Program}{fn:Func}{c:Int}(hf:P.funcs[F]? =some fn)(a1:(fn.name == "runtime.NumGoroutine")=false)(hb:fn.body.isNone=true)(hn:Extern.findNext fn=none)(he:Extern.find fn=some Extern.BytealgIndexByte.indexByte):
  (callFunc F #[.string s,.int .u8 c]).run P w= .ok (.value (.int .i64 (Lib.indexByte (bl s) c.toNat.toUInt8))) w:=by
 rw[run_callFunc_extern hf a1 hb hn he,Lib.run_indexByteString];rfl
theorem ixb_none{l:List UInt8}{c:UInt8}(h:¬c∈l):Lib.indexByte l c<0:=by
 by_cases e:Lib.indexByte l c<0
 ·exact e
 ·obtain⟨m,hm⟩:∃ m:Nat,Lib.indexByte l c=m:=⟨(Lib.indexByte l c).toNat,by omega⟩
  obtain⟨_,_,h3⟩:=ixb_pos hm;exact absurd (by rw[h3];simp) h
theorem enc_hi{r:Nat}(h:128<=r):2<=(Utf8.encode (r:Int)).size/\(Utf8.encode (r:Int)).size<=4/\∀ i,i<(Utf8.encode (r:Int)).size->128<=gb (Utf8.encode (r:Int)) i:=by
 have key:∀ c:Nat,128<=c->c<=1114111->∀ e:ByteArray,e=(if c<0x80 then ⟨#[UInt8.ofNat c]⟩else if c<0x800 then ⟨#[UInt8.ofNat (0xC0+c/64),UInt8.ofNat (0x80+c%64)]⟩else if c<0x10000 then ⟨#[UInt8.ofNat (0xE0+c/4096),UInt8.ofNat (0x80+c/64%64),UInt8.ofNat (0x80+c%64)]⟩else ⟨#[UInt8.ofNat (0xF0+c/262144),UInt8.ofNat (0x80+c/4096%64),UInt8.ofNat (0x80+c/64%64),UInt8.ofNat (0x80+c%64)]⟩)->2<=e.size/\e.size<=4/\∀ i,i<e.size->128<=gb e i:=by
  intro c h1 h2 e he;have u8:∀ n:Nat,128<=n->n<256->128<=(UInt8.ofNat n).toNat:=fun n a b=>by rw[UInt8.toNat_ofNat_of_lt' (by exact b)];exact a
  rw[if_neg oG]at he
  split at he
  ·subst he
   refine⟨ah _,by show 2<=4;decide,fun i hi=>?_⟩
   match i,hi with
   | 0,_=>exact u8 _ oG oG
   | 1,_=>exact u8 _ oG oG
  ·split at he
   ·subst he
    refine⟨by show 2<=3;decide,by show 3<=4;decide,fun i hi=>?_⟩
    match i,hi with
    | 0,_=>exact u8 _ oG oG
    | 1,_=>exact u8 _ oG oG
    | 2,_=>exact u8 _ oG oG
   ·subst he
    refine⟨by show 2<=4;decide,ah _,fun i hi=>?_⟩
    match i,hi with
    | 0,_=>exact u8 _ oG oG
    | 1,_=>exact u8 _ oG oG
    | 2,_=>exact u8 _ oG oG
    | 3,_=>exact u8 _ oG oG
 refine key (if Utf8.valid (r:Int)then (r:Int).toNat else Utf8.runeError) ?_ ?_ _ rfl
 ·split
  ·exact h
  ·decide
 ·split
  ·rename_i hv
   unfold Utf8.valid at hv;simp at hv;omega
  ·decide
def Hd(b n:Nat)(v l:Int):Prop:=(194<=b/\b<=223/\n=2/\v=(b:Int)-192/\l=128)\/(224<=b/\b<=239/\n=3/\v=(b:Int)-224/\l=2048)\/(240<=b/\b<=244/\n=4/\v=(b:Int)-240/\l=65536)
def vv(x:ByteArray)(v:Int):Nat->Int
 | 0=>v
 | k+1=>64*vv x v k+gb x (k+1)-128
def E0(x:ByteArray):Int:=if Y5 x 0=true then ((wdt x 0:Nat):Int)else 0
theorem rlen_low(h:gb x 0<128):E0 x=1:=by
 unfold E0 Y5;rw[decide_eq_true h,(N4 h).1];rfl
theorem rlen_no(h:128<=gb x 0)(hn:¬(194<=gb x 0/\gb x 0<=244)):E0 x=0:=by
 have h0:=ov x 0;have:wdt x 0=1:=by
  unfold wdt;rw[Qy];unfold Lib.decodeN
  repeat' split
  all_goals first|rfl|(exfalso;omega)|(simp only;omega)
 unfold E0 Y5;rw[this,decide_eq_false oG];rfl
theorem F8(h:128<=gb x 0)(hn:2<=n)(h1:wdt x 0=n):E0 x=n:=by
 unfold E0 Y5;rw[h1,decide_eq_true hn,Bool.or_true];rfl
theorem rlen_z(h:128<=gb x 0)(h1:wdt x 0=1):E0 x=0:=by
 unfold E0 Y5;rw[h1,decide_eq_false oG];rfl
theorem hd_rl{v l:Int}(hd:Hd (gb x 0) n v l):(n<=x.size->(∀ j,1<=j->j<n->128<=gb x j/\gb x j<=191)->¬(vv x v (n-1)<l\/1114111<vv x v (n-1)\/(55296<=vv x v (n-1)/\vv x v (n-1)<=57343))->E0 x=n)/\((x.size<n\/(∃ j,1<=j/\j<n/\¬(128<=gb x j/\gb x j<=191))\/(vv x v (n-1)<l\/1114111<vv x v (n-1)\/(55296<=vv x v (n-1)/\vv x v (n-1)<=57343))/\(∀ j,1<=j->j<n->128<=gb x j/\gb x j<=191))->E0 x=0):=by
 have b1:=ov x 1;have b2:=ov x 2;have b3:=ov x 3;rcases hd with ⟨h1,h2,rfl,rfl,rfl⟩|⟨h1,h2,rfl,rfl,rfl⟩|⟨h1,h2,rfl,rfl,rfl⟩
 ·refine⟨fun hs hj hz=>F8 oG oG ?_,fun hs=>rlen_z oG ?_⟩
  ·have q1:=hj 1 oG oG
   simp only[vv,Nat.zero_add,Nat.reduceAdd,Nat.add_one_sub_one,Nat.reduceSub]at hz;unfold wdt;rw[Qy];simp only[Nat.zero_add,Nat.sub_zero];unfold Lib.decodeN
   repeat' split
   all_goals first|rfl|(exfalso;omega)
  ·have a1:x.size<2\/¬(128<=gb x 1/\gb x 1<=191)\/((64*((gb x 0:Int)-192)+gb x 1-128<128\/1114111<64*((gb x 0:Int)-192)+gb x 1-128\/(55296<=64*((gb x 0:Int)-192)+gb x 1-128/\64*((gb x 0:Int)-192)+gb x 1-128<=57343))/\128<=gb x 1/\gb x 1<=191):=by
    rcases hs with h|⟨j,p1,p2,p3⟩|⟨hz,hj⟩
    ·exact .inl h
    ·obtain rfl:j=1:=by omega
     exact .inr (.inl p3)
    ·exact .inr (.inr ⟨hz,hj 1 oG oG⟩)
   unfold wdt;rw[Qy];simp only[Nat.zero_add,Nat.sub_zero];unfold Lib.decodeN
   repeat' split
   all_goals first|rfl|(exfalso;omega)
 ·refine⟨fun hs hj hz=>F8 oG oG ?_,fun hs=>rlen_z oG ?_⟩
  ·have q1:=hj 1 oG oG
   have q2:=hj 2 oG oG;simp only[vv,Nat.zero_add,Nat.reduceAdd,Nat.add_one_sub_one,Nat.reduceSub]at hz;unfold wdt;rw[Qy];simp only[Nat.zero_add,Nat.sub_zero];unfold Lib.decodeN
   repeat' split
   all_goals first|rfl|(exfalso;omega)
  ·have a1:x.size<3\/¬(128<=gb x 1/\gb x 1<=191)\/¬(128<=gb x 2/\gb x 2<=191)\/((vv x ((gb x 0:Int)-224) 2<2048\/1114111<vv x ((gb x 0:Int)-224) 2\/(55296<=vv x ((gb x 0:Int)-224) 2/\vv x ((gb x 0:Int)-224) 2<=57343))/\(128<=gb x 1/\gb x 1<=191)/\128<=gb x 2/\gb x 2<=191):=by
    rcases hs with h|⟨j,p1,p2,p3⟩|⟨hz,hj⟩
    ·exact .inl h
    ·have:j=1\/j=2:=by omega
     rcases this with rfl|rfl
     ·exact .inr (.inl p3)
     ·exact .inr (.inr (.inl p3))
    ·exact .inr (.inr (.inr ⟨hz,hj 1 oG oG,hj 2 oG oG⟩))
   simp only[vv,Nat.zero_add,Nat.reduceAdd,Nat.reduceSub]at a1;unfold wdt;rw[Qy];simp only[Nat.zero_add,Nat.sub_zero];unfold Lib.decodeN
   repeat' split
   all_goals first|rfl|(exfalso;omega)
 ·refine⟨fun hs hj hz=>F8 oG oG ?_,fun hs=>rlen_z oG ?_⟩
  ·have q1:=hj 1 oG oG
   have q2:=hj 2 oG oG;have q3:=hj 3 oG oG;simp only[vv,Nat.zero_add,Nat.reduceAdd,Nat.add_one_sub_one,Nat.reduceSub]at hz;unfold wdt;rw[Qy];simp only[Nat.zero_add,Nat.sub_zero];unfold Lib.decodeN
   repeat' split
   all_goals first|rfl|(exfalso;omega)
  ·have a1:x.size<4\/¬(128<=gb x 1/\gb x 1<=191)\/¬(128<=gb x 2/\gb x 2<=191)\/¬(128<=gb x 3/\gb x 3<=191)\/((vv x ((gb x 0:Int)-240) 3<65536\/1114111<vv x ((gb x 0:Int)-240) 3\/(55296<=vv x ((gb x 0:Int)-240) 3/\vv x ((gb x 0:Int)-240) 3<=57343))/\(128<=gb x 1/\gb x 1<=191)/\(128<=gb x 2/\gb x 2<=191)/\128<=gb x 3/\gb x 3<=191):=by
    rcases hs with h|⟨j,p1,p2,p3⟩|⟨hz,hj⟩
    ·exact .inl h
    ·have:j=1\/j=2\/j=3:=by omega
     rcases this with rfl|rfl|rfl
     ·exact .inr (.inl p3)
     ·exact .inr (.inr (.inl p3))
     ·exact .inr (.inr (.inr (.inl p3)))
    ·exact .inr (.inr (.inr (.inr ⟨hz,hj 1 oG oG,hj 2 oG oG,hj 3 oG oG⟩)))
   simp only[vv,Nat.zero_add,Nat.reduceAdd,Nat.reduceSub]at a1;unfold wdt;rw[Qy];simp only[Nat.zero_add,Nat.sub_zero];unfold Lib.decodeN
   repeat' split
   all_goals first|rfl|(exfalso;omega)
theorem wdt_sdr(p:Nat)(s:ByteArray):wdt (sdr p s) 0=wdt s p:=by
 unfold wdt;rw[Qy,Qy,Vz,Vz,Vz,Vz,yX];rfl
theorem rlen_sdr(p:Nat)(s:ByteArray):E0 (sdr p s)=if Y5 s p=true then ((wdt s p:Nat):Int)else 0:=by
 have e:Y5 (sdr p s) 0=Y5 s p:=by unfold Y5;rw[wdt_sdr,Vz];rfl
 unfold E0;rw[e,wdt_sdr]
theorem spc_iff(c:Nat):spc c=true↔(c=32\/c=9\/c=10\/c=40\/c=41\/c=91\/c=93\/c=44\/c=59):=by
 unfold spc;simp only[Bool.or_eq_true,decide_eq_true_eq];omega
end Go.Proofs.YtgcgnkmmbecfmaaGreatDoor
