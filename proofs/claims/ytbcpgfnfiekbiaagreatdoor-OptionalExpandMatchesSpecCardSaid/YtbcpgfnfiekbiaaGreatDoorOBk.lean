/- Walking a range over a function whose loop variable is a boxed struct. No program in sight. The iterator of slices.Backward over a row of types: the places from the last one downwards, each with its type. Proved for a body that keeps the row. A term wrapped in a row's types, from the last one down; and pointers to what stands for daughters. No program in sight. Steps of programs: shifts, the lowest bit and division of i64. No program in sight. What these functions of the program compute, at every world: slices.Backward[[]glosswright/api.Simple,glosswright/api.Simple]. -/
import Derived.RangeFuncNested
import Derived.RangeFuncLeaves
import Derived.OwnWalkIn
import Derived.Test.YtbcpgfnfiekbiaaGreatDoorEng
import Derived.RangeFuncBox
import Derived.Shelf.Abstract
import Derived.WalkKit
import Derived.TacticsInMore
import Derived.LoopNIn
import Derived.LoopIn
import Derived.Test.YtbcpgfnfiekbiaaGreatDoorProg
import Derived.Test.YtbcpgfnfiekbiaaGreatDoorERx
import Derived.Test.YtbcpgfnfiekbiaaGreatDoorTrm
import Derived.Test.YtbcpgfnfiekbiaaGreatDoorORe
namespace Go.Proofs.YtbcpgfnfiekbiaaGreatDoor
open Go.RowKit
structure XK (o:Oper):Prop where
  nd:∀ c,o.op≠ .defer c
  nc:∀ c,o.op≠ .call c
  sem:∀ ρ,(∃ m:Sem Value,execOp ρ o=(do pure (.value (← m))))∨(∃ m:Sem Unit,execOp ρ o=(do m;pure .skip))
theorem KW {F:Fence} {k:Nat} {P:Program} {ops:Array Oper} {Q:Exit→Act→World→Prop} (hQ:¬LetsOut Q):∀ (l:List Oper) (a:Act) (w:World),(∀ o ∈ l,XK o)→wpList P ops Q l a w→wpListIn F k P ops Q l a w
  | [],_,_,_,h=>h
  | o :: l,a,w,hl,h=>by
    have hp:=hl o List.mem_cons_self
    have hr:=fun o ho=>hl o (List.mem_cons_of_mem _ ho)
    have ha:o.about P w a.eval=none:=by
      unfold Oper.about;cases ho:o.op <;> first | rfl | exact absurd ho (hp.nc _)
    unfold wpList at h;unfold wpListIn;by_cases hw:Region.wanted o (yielded ops a.tmps)=true
    · rw [if_pos hw] at h ⊢
      rcases h with h | ⟨_,h⟩
      · refine⟨fun f hf=>(by rw [ha] at hf;cases hf),?_⟩
        rw [Oper.semAt_plain F _ _ hp.nd];unfold Oper.wp at h;rcases hp.sem a.eval with ⟨m,hm⟩ | ⟨m,hm⟩
        · rw [hm] at h ⊢
          simp only [Sem.run_bind] at h ⊢;cases hx:m.run P w with
          | ok v w1=>
            rw [hx] at h;simp only [Result.andThen,Sem.run_pure,Oper.upon_value,Oper.uponIn_value] at h ⊢;exact KW hQ l _ _ hr h
          | halt x w1=>
            rw [hx] at h;simp only [Result.andThen] at h ⊢;cases x <;> exact h
        · rw [hm] at h ⊢
          simp only [Sem.run_bind] at h ⊢;cases hx:m.run P w with
          | ok v w1=>
            rw [hx] at h;simp only [Result.andThen,Sem.run_pure,Oper.upon_skip,Oper.uponIn_skip] at h ⊢;exact KW hQ l _ _ hr h
          | halt x w1=>
            rw [hx] at h;simp only [Result.andThen] at h ⊢;cases x <;> exact h
      · exact absurd h hQ
    · rw [if_neg hw] at h ⊢
      exact⟨fun f hf=>(by rw [ha] at hf;cases hf),KW hQ l _ _ hr h⟩
section ops
variable {ty t:TypeId} {pos:String} {af:Array Edge} {d:Option Tmp} {gd:Option (Nat×Bool)} {x y:Operand} {parts:Array (Nat×Operand)} {len:Nat}
theorem po_alloc:XK ⟨d,.alloc t,ty,pos,af,gd⟩:=⟨fun _ h=>by simp at h,fun _ h=>by simp at h,fun _=> .inl ⟨_,rfl⟩⟩
theorem po_load:XK ⟨d,.load t x,ty,pos,af,gd⟩:=⟨fun _ h=>by simp at h,fun _ h=>by simp at h,fun _=> .inl ⟨_,rfl⟩⟩
theorem F3:XK ⟨d,.store t x y,ty,pos,af,gd⟩:=⟨fun _ h=>by simp at h,fun _ h=>by simp at h,fun _=> .inr ⟨_,rfl⟩⟩
theorem po_build:XK ⟨d,.build t parts,ty,pos,af,gd⟩:=⟨fun _ h=>by simp at h,fun _ h=>by simp at h,fun _=> .inl ⟨_,rfl⟩⟩
theorem po_bs:XK ⟨d,.buildSlice t len parts,ty,pos,af,gd⟩:=⟨fun _ h=>by simp at h,fun _ h=>by simp at h,fun _=> .inl ⟨_,rfl⟩⟩
end ops
theorem Same.grown {w w':World} (h:Same [] w w'):w.grownBy w' none:=⟨h.os,h.tape,h.output,h.size,fun k hk _=>h.blk k hk (by simp)⟩
theorem Same.keepsFrom {B:Nat} {X:List Nat} {w w':World} (h:Same X w w') (hX:∀ k ∈ X,k < B):KeepsFrom B w w':=
  ⟨h.size,fun k o hk ho _=>(h.blk k (y5 ho) (fun hm=>by have:=hX k hm;omega)).trans ho⟩
theorem AF_set (n:Nw) (f:Fr) (d:Nat) (v:Value):(AF n f).tmps.setIfInBounds d v=(AF n (upd f d v)).tmps:=by
  have:=oZ n f d v;exact congrArg Act.tmps this
theorem WL.list {P:Program} {ops:Array Oper} {Q:Exit→Act→World→Prop} {l:List Oper} {n:Nw} {f:Fr} {w:World} (h:WL P ops Q l n f w):wpList P ops Q l (AF n f) w:=by unfold WL at h;exact h
section rangef
variable {α:Type} {P:Program} {n:Nw} {f:Fr} {w:World} {g:Operand} {p1 p2 s iA iB bid tx:Nat} {ty1 ty2:TypeId} {pos1 pos2:String} {af1 af2:Array Edge} {opsB:List Oper} {Q:Exit→Act→World→Prop}
theorem c_rangeX {gf:Nat} {lb:Array Value} (hg:ev n f g= .func (.func gf) #[] lb) (eg:∀ args w,(callFunc gf args).run P w= .ok (.enter gf args) w)
    (enc:α→Value) (cells:α→Array Value) {Kp:World→World→Prop} {S Sp:List α→Prop} {N:Nat} (hseq:SeqStopsK Fence.wide 1 P gf lb (fun x=>#[enc x,.agg (cells x)]) Kp S Sp N w)
    (hKt:∀ {A B C:World},Kp A B→Kp B C→Kp A C) (hKb:∀ (W:World) (l:Nat) (o o':Obj),w.heap.size≤l→W.heap[l]? =some o→o.isCells=false→o.isWalk=false→Kp W (W.putObj l o')) (hKs:∀ {A B:World},Same [] A B→w.heap.size≤A.heap.size→Kp A B)
    (I:List α→World→Prop) (hI:OwnFrom w.heap.size I) (hIz:∀ pre W,I pre W→w.heap.size≤W.heap.size) (h0:I [] w)
    {zv:Value} (hz:(P.info? tx).map (·.zero)=some (some zv)) (hzs:∀ x,(P.info? tx).map (·.size)=some (cells x).size) (hzz:∀ x,zv.cells.size=(cells x).size) (hone:∀ x,(cells x).toList.all (·.oneCell')=true)
    (hp2:Nat.ble (p2 + 1) n.n=true) (hs:Nat.ble (s + 1) n.n=true) (h2s:Nat.beq p2 s=false) (hpl:∀ o ∈ opsB,XK o)
    (hbody:∀ (pre:List α) (x:α) (b:Nat) (W:World),I pre W→w.heap.size≤b→Blk W b tx (cells x)→WL P opsB.toArray (fun e _ W'=>e= .normal∧KeepsFrom w.heap.size W W'∧Kp W W'∧I (pre ++ [x]) W') opsB ⟨n.n,[]⟩ (upd (upd (upd f p1 (enc x)) p2 (.agg (cells x))) s (.pointer (some ⟨b,0,none⟩))) W)
    (hdone:∀ (D:Nat) (xs:List α) (W:World),w.heap.size≤D→S xs→I xs W→W.heap[D]? =some (.deferred (some []))→EX Q .normal ⟨n.n,{ target:= .collected D,args:=#[] } :: n.ds⟩ f W):
    WC P (Code.rangeFunc g #[p1,p2] (Code.region iA #[⟨some s,.alloc tx,ty1,pos1,af1,none⟩,⟨none,.store tx (.tmp s) (.tmp p2),ty2,pos2,af2,none⟩] false) (Code.block bid (Code.region iB opsB.toArray false))) Q n f w:=by
  unfold WC;refine(wpIn_wide (n:=2)).1 ?_;refine wpIn_rangeFunc_ownH (F:=Fence.wide) (n:=2) rfl dE (gf:=gf) (lb:=lb) (by rw [vV];exact hg) trivial eg hseq hKt hKb (Below.refl _ _) (fun _=>rfl) I (fun _ _ _=>False) hI (fun _ _ _ _ _ h=>h.elim) h0
    (fun x a' W=>∃ b,a'=AF ⟨n.n,[]⟩ (upd (upd (upd f p1 (enc x)) p2 (.agg (cells x))) s (.pointer (some ⟨b,0,none⟩)))∧w.heap.size≤b∧Blk W b tx (cells x)) ?_ ?_ ?_ ?_ ?_
  · rintro x a' _ W W' row ⟨b,e,hb,hk⟩ hgr hrow
    refine⟨b,e,hb,(hgr.block b (y5 hk) (fun e=>?_)).trans hk⟩;obtain⟨_,o,ho,hc⟩:=hrow b e.symm;rw [show W.heap[b]? =_ from hk] at ho;cases ho;cases hc
  · intro l pre x W K hi hK
    refine wpIn_region_list ?_;have ha:({ tmps:=(#[p1,p2].zip #[enc x,.agg (cells x)]).foldl (fun t (p,v)=>t.setIfInBounds p v) (AF n f).tmps,defers:=[] }:Act)=AF ⟨n.n,[]⟩ (upd (upd f p1 (enc x)) p2 (.agg (cells x))):=by
      have e:(#[p1,p2].zip #[enc x,Value.agg (cells x)])= #[(p1,enc x),(p2,.agg (cells x))]:=by simp
      rw [e];simp only [List.foldl_toArray,List.foldl_cons,List.foldl_nil];rw [AF_set,AF_set];rfl
    rw [ha]
    refine KW (fun⟨_,_,h⟩=>h) _ _ _ (fun o ho=>by
      rcases List.mem_cons.1 ho with rfl | ho
      · exact po_alloc
      · rw [List.mem_singleton.1 ho];exact F3) ?_
    refine WL.list ?_;refine qq hz rfl (fun b w1 hb1 hs1 hr1=>?_);have e2:Nat.beq p2 s=false:=h2s;refine zk hb1 ?_ ?_ (hzs x) (hzz x) (hone x) (fun w2 hb2 hs2=>?_)
    · show (bif Nat.ble (s + 1) n.n then upd _ s _ s else undef)=_
      rw [hs];simp [upd]
    · show (bif Nat.ble (p2 + 1) n.n then upd (upd (upd f p1 (enc x)) p2 (.agg (cells x))) s _ p2 else undef)=_
      rw [hp2];simp [upd,e2]
    · have hss:Same [] W w2:=⟨hs2.os.trans hs1.os,hs2.tape.trans hs1.tape,hs2.output.trans hs1.output,nLT hs1.size hs2.size,fun k hk _=>(hs2.blk k (nLL hk hs1.size) (fun hm=>by have:=List.mem_singleton.1 hm;omega)).trans (hs1.blk k hk (by simp))⟩
      unfold WL;exact hK _ _ (hss.keepsFrom (by simp)) (hKs hss (hIz pre W hi)) (hI pre W w2 none hi hss.grown (fun r h=>by cases h)) ⟨b,rfl,nLT (hIz pre W hi) hr1,hb2⟩
  · rintro l pre x a' W hl _ hi ⟨b,rfl,hb,hk⟩ _
    have hQ:¬LetsOut (fun(e:Exit) (_:Act) (W':World)=>e= .normal∧KeepsFrom w.heap.size W W'∧Kp W W'∧I (pre ++ [x]) W'):=fun⟨_,_,h⟩=>by cases h.1
    refine wpIn_block (wpIn_mono (wpIn_region_list (KW hQ _ _ _ (by rw [List.toList_toArray];exact hpl) (by rw [List.toList_toArray];exact WL.list (hbody pre x b W hi hb hk)))) ?_)
    rintro e a W' ⟨rfl,h1,h2,h3⟩
    exact⟨h1,h2,h3⟩
  · intro D xs W a b c d
    have h:=hdone D xs W a b c d;unfold EX at h;exact h
  · rintro _ _ _ _ _ _ h;exact h.elim
end rangef
def BPM (P:Program) (fn:Func) (R:Ending→World→Prop):Exit→Act→World→Prop
  | .panic _,_,_=>False
  | .normal,a,w=>bodyPostM Fence.wide 2 P fn R .normal a w
  | .ret,a,w=>bodyPostM Fence.wide 2 P fn R .ret a w
  | _,_,_=>False
theorem enterM {k:Nat} {P:Program} {F:FuncId} {fn:Func} {c:Code} {args:Array Value} {R:Ending→World→Prop} {w:World} (hf:P.funcs[F]? =some fn) (hn:fn.ntmps=k) (hb:fn.body=some c) (hsz:args.size≤k)
    (h:WC P c (BPM P fn R) (nw0 k) (C1 args.toList) w):Calls P F args w R:=by
  refine(callsIn_wide (n:=2)).1 (callsIn_of_wp_marks hf hb trivial (wpIn_mono (wpIn_wide.2 (?_:c.wp P (BPM P fn R) _ w)) (fun e a w hq=>by cases e <;> first | exact hq | exact hq.elim)));have:({ tmps:=args ++ Array.replicate (fn.ntmps - args.size) undef,defers:=[] }:Act)=AF (nw0 k) (C1 args.toList):=by
    simp only [AF,Act.mk.injEq,and_true]
    apply Array.ext
    · simp;omega
    · intro i h1 h2
      rw [Array.getElem_ofFn];simp only [C1];by_cases hi:i < args.size
      · rw [Array.getElem_append_left hi];simp [hi]
      · rw [Array.getElem_append_right oM];simp [hi]
  rw [this];unfold WC at h;exact h
section fin
variable {P:Program} {k D:Nat} {f:Fr} {w:World} {fn:Func} {R:Ending→World→Prop} {r0:ResultVar} {v0:Value} {e:Exit}
theorem fin1N (he:e= .ret∨e= .normal) (hf:fn.results= #[r0]) (h0:RR P (nw0 k) f w r0 v0) (hR:R (.returned v0) w):EX (BPM P fn R) e (nw0 k) f w:=by
  have h:(results fn (AF (nw0 k) f).tmps).run P w= .ok v0 w:=by
    have a0:=Yw h0;rw [Z2,hf];simp [a0]
  unfold EX;rcases he with rfl | rfl <;> exact⟨v0,h,hR⟩
theorem fin1M (he:e= .ret∨e= .normal) (hf:fn.results= #[r0]) (hD:w.heap[D]? =some (.deferred (some []))) (hK:∀ w1,Same [D] w w1→RR P (nw0 k) f w1 r0 v0∧R (.returned v0) w1):EX (BPM P fn R) e ⟨k,[{ target:= .collected D,args:=#[] }]⟩ f w:=by
  have hs:Same [D] w (w.putObj D (.deferred none)):=⟨rfl,rfl,rfl,by simp,fun j hj hm=>World.putObj_heap_other (by simpa using hm)⟩
  obtain⟨h0,hR⟩:=hK _ hs;have h:(results fn (AF (nw0 k) f).tmps).run P (w.putObj D (.deferred none))= .ok v0 (w.putObj D (.deferred none)):=by
    have a0:=Yw h0;rw [Z2,hf];simp [a0]
  unfold EX;rcases he with rfl | rfl <;> exact⟨by simp,.inl ⟨D,_,rfl,run_takeDeferred hD,v0,h,hR⟩⟩
end fin
end Go.Proofs.YtbcpgfnfiekbiaaGreatDoor
namespace Go.Proofs.YtbcpgfnfiekbiaaGreatDoor
open Go.RowKit Go.Shelf
attribute [local go_sem] Oper.semAt_some
def bkL (len k:Nat):List Nat:=(List.range k).map (fun t=>len - 1 - t)
theorem Wv (len k:Nat):bkL len (k + 1)=bkL len k ++ [len - 1 - k]:=by simp [bkL,List.range_succ]
theorem G0 (len k:Nat):(bkL len k).length=k:=by simp [bkL]
def KpB (b c:Nat) (W W':World):Prop:=W'.heap[b]? =W.heap[b]?∧W'.heap[c]? =W.heap[c]?
theorem KpB.cell {b c o:Nat} {W W':World} {v:Value} (h:KpB b c W W') (hc:W.cell? ⟨b,o,none⟩=some v):W'.cell? ⟨b,o,none⟩=some v:=by
  unfold World.cell? at hc ⊢;rw [h.1];exact hc
theorem KpB.cell2 {b c o:Nat} {W W':World} {v:Value} (h:KpB b c W W') (hc:W.cell? ⟨c,o,none⟩=some v):W'.cell? ⟨c,o,none⟩=some v:=by
  unfold World.cell? at hc ⊢;rw [h.2];exact hc
set_option maxRecDepth 100000 in
set_option maxHeartbeats 4000000 in
theorem back1_in (F:Fence) (n:Nat) (h7:F.fn 114) (hro:F.round=none) (hn:1≤n) (l Bs b off len cap:Nat) (bs:Nat→ByteArray) (As:Nat→Option Addr) (ns cs:Nat→Nat) (hreach:len * 48≤140737488351232) (J Jx:List Nat→World→Prop)
    (hY:∀ (pre:List Nat) (x:Nat) (W:World),J pre W→pre.length < len→YieldAt F (n - 1) Tryz.prog l #[.int .i64 (x:Int),.agg #[.string (bs x),.slice (As x) (ns x) (cs x)]] W fun e W'=>
      (e= .returned (.bool true)∧J (pre ++ [x]) W'∧KpB b Bs W W')∨(e= .returned (.bool false)∧Jx (pre ++ [x]) W'))
    (W:World) (hBs:W.cell? ⟨Bs,0,none⟩=some (.slice (some ⟨b,off,none⟩) len cap)) (hc:∀ j,j < len→W.cell? ⟨b,off + j * 2,none⟩=some (.string (bs j))∧W.cell? ⟨b,off + j * 2 + 1,none⟩=some (.slice (As j) (ns j) (cs j))) (h0:J [] W):
    CallsIn F n Tryz.prog 114 #[.func (.yield l) #[] #[],.pointer (some ⟨Bs,0,none⟩)] W fun e W'=>(∃ v,e= .returned v)∧
      ((∃ ys,ys=bkL len len∧J ys W')∨(∃ pre,(∃ k,k≤len∧pre=bkL len k)∧Jx pre W')):=by
  refine callsIn_of_wp Tryz.func114 rfl h7 ?_ hro;simp only [Tryz.ntmps114,List.size_toArray,List.length_cons,List.length_nil,Nat.reduceAdd,Nat.reduceSub,Array.replicate_succ,Array.replicate_zero,List.push_toArray,List.append_toArray,List.nil_append,List.cons_append]
  gi_wp2
  gi_loopw [3] (fun i wr=>∃ k:Nat,k≤len∧i= .int .i64 ((len:Int) - 1 - k)∧J (bkL len k) wr∧KpB b Bs W wr)
    (fun i _=>(intOf i + 1).toNat)
  case atStart=>exact⟨0,Nat.zero_le _,by simp,h0,rfl,rfl⟩
  case round=>
    obtain⟨k,hk,rfl,hJs,hnx⟩:=hrel;have hBw:wr.cell? ⟨Bs,0,none⟩=some (.slice (some ⟨b,off,none⟩) len cap):=hnx.cell2 hBs;by_cases hlt:k < len
    · obtain⟨j,hjl,hje,hjk⟩:∃ j:Nat,j < len∧(len:Int) - 1 - k=(j:Int)∧bkL len (k + 1)=bkL len k ++ [j]:=⟨len - 1 - k,by omega,by omega,Wv len k⟩
      have hc0:=hnx.cell (hc j hjl).1;have hc1:=hnx.cell (hc j hjl).2;obtain⟨fn,tmps,assign,body,hy,hR⟩:=hY _ j wr hJs (by rw [G0];exact hlt);rw [hje]
      gi_wp2
      refine hR.mono ?_
      rintro e W3 (⟨rfl,hJ3,hk3⟩ | ⟨rfl,hJx3⟩)
      · gi_wp2
        go_roundw
        case rel=>exact⟨k + 1,by omega,by (simp;omega),by rw [hjk];exact hJ3,hk3.1.trans hnx.1,hk3.2.trans hnx.2⟩
        case measure=>simp [intOf]
      · gi_wp2
        refine bodyPost_ret (results_none rfl _ _ _) rfl ?_;exact⟨⟨_,rfl⟩,.inr ⟨_,⟨k + 1,by omega,hjk.symm⟩,hJx3⟩⟩
    · obtain rfl:k=len:=by omega
      gi_wp2
      go_end0
      exact⟨⟨_,rfl⟩,.inl ⟨_,rfl,hJs⟩⟩
theorem G4 (len b Bs off cap:Nat) (bs:Nat→ByteArray) (As:Nat→Option Addr) (ns cs:Nat→Nat) (hreach:len * 48≤140737488351232) (w:World) (hb:b < w.heap.size) (hB:Bs < w.heap.size) (hBs:w.cell? ⟨Bs,0,none⟩=some (.slice (some ⟨b,off,none⟩) len cap)) (hc:∀ j,j < len→w.cell? ⟨b,off + j * 2,none⟩=some (.string (bs j))∧w.cell? ⟨b,off + j * 2 + 1,none⟩=some (.slice (As j) (ns j) (cs j))):
    SeqStopsK Fence.wide 1 Tryz.prog 114 #[.pointer (some ⟨Bs,0,none⟩)] (fun x:Nat=>#[.int .i64 (x:Int),.agg #[.string (bs x),.slice (As x) (ns x) (cs x)]]) (KpB b Bs) (fun ys=>ys=bkL len len) (fun pre=>∃ k,k≤len∧pre=bkL len k) len w:=fun l J Jx W hW _ _ hY h0=>by
  refine back1_in Fence.wide 1 trivial rfl (Nat.le_refl _) l Bs b off len cap bs As ns cs hreach J Jx hY W ((hW.cell (p:=⟨Bs,0,none⟩) hB).trans hBs) (fun j hj=>⟨(hW.cell (p:=⟨b,off + j * 2,none⟩) hb).trans (hc j hj).1,(hW.cell (p:=⟨b,off + j * 2 + 1,none⟩) hb).trans (hc j hj).2⟩) h0
end Go.Proofs.YtbcpgfnfiekbiaaGreatDoor
namespace Go.Proofs.YtbcpgfnfiekbiaaGreatDoor
open Go.RowKit
theorem Blk.grownBy {W W':World} {B:Nat} {row:Option Nat} {b t:Nat} {cs:Array Value} (h:Blk W b t cs) (hg:W.grownBy W' row) (hr:∀ r,row=some r→B≤r∧∃ o:Obj,W.heap[r]? =some o∧o.isCells=false):Blk W' b t cs:=
  (hg.block b (y5 h) (fun e=>by
    obtain⟨_,o,ho,hc⟩:=hr b e.symm
    rw [show W.heap[b]? =_ from h] at ho
    cases ho;cases hc)).trans h
section
variable {W W':World} {lo t c0 d0 c d:Nat} {sm:Nat→Sm} {As:Nat→Option Addr} {cs:Nat→Nat} {m0 m:Tm} {S0 B0 S B:Option Addr} {pre:List Nat}
inductive WrI (W:World) (lo t:Nat) (sm:Nat→Sm) (As:Nat→Option Addr) (cs:Nat→Nat) (m0:Tm) (S0 B0:Option Addr) (c0 d0:Nat):List Nat→Tm→Option Addr→Option Addr→Nat→Nat→Prop
  | nil:WrI W lo t sm As cs m0 S0 B0 c0 d0 [] m0 S0 B0 c0 d0
  | snoc {pre:List Nat} {m:Tm} {S B:Option Addr} {c d x g:Nat}:WrI W lo t sm As cs m0 S0 B0 c0 d0 pre m S B c d→lo≤g→Blk W g t (tmC m S B c d).toArray→WrI W lo t sm As cs m0 S0 B0 c0 d0 (pre ++ [x]) (Cv (sm x) m) (As x) (some ⟨g,0,none⟩) (cs x) 1
theorem WrI.mono (h:WrI W lo t sm As cs m0 S0 B0 c0 d0 pre m S B c d) (hk:∀ g l,lo≤g→Blk W g t l→Blk W' g t l):WrI W' lo t sm As cs m0 S0 B0 c0 d0 pre m S B c d:=by
  induction h with
  | nil=>exact .nil
  | snoc _ hg hb ih=>exact .snoc ih hg (hk _ _ hg hb)
theorem WrI.eq (h:WrI W lo t sm As cs m0 S0 B0 c0 d0 pre m S B c d):m=pre.foldl (fun m x=>Cv (sm x) m) m0:=by
  induction h with
  | nil=>rfl
  | snoc _ _ _ ih=>rw [List.foldl_append,← ih];rfl
theorem WrI.data (h:WrI W lo t sm As cs m0 S0 B0 c0 d0 pre m S B c d) (h1:SimsIn W S0 m0.type.args) (h2:TmsIn W B0 m0.args) (hA:∀ x ∈ pre,SimsIn W (As x) (sm x).args):SimsIn W S m.type.args∧TmsIn W B m.args:=by
  induction h with
  | nil=>exact⟨h1,h2⟩
  | @snoc pre m S B c d x g _ hg hb ih=>
    have h3:=ih (fun x hx=>hA x (List.mem_append_left _ hx));exact⟨hA x (List.mem_append_right _ (List.mem_singleton.2 rfl)),Ck hb h3.1 h3.2⟩
end
theorem Py (L:List Ts) (sm:Nat→Sm) (m0:Tm) (h:∀ j (hj:j < L.length),sm j=(L[j]).sm):∀ k,k≤L.length→(bkL L.length k).foldl (fun m x=>Cv (sm x) m) m0=xZ (L.drop (L.length - k)) m0
  | 0,_=>by rw [Nat.sub_zero,List.drop_length];rfl
  | k + 1,hk=>by
    rw [Wv,List.foldl_append,Py L sm m0 h k oM]
    have hj:L.length - 1 - k < L.length:=by omega
    rw [show L.length - (k + 1)=L.length - 1 - k by omega,List.drop_eq_getElem_cons hj,show L.length - 1 - k + 1=L.length - k by omega]
    show Cv _ _=Cv _ _
    rw [h _ hj]
theorem wrap_all (L:List Ts) (sm:Nat→Sm) (m0:Tm) (h:∀ j (hj:j < L.length),sm j=(L[j]).sm):(bkL L.length L.length).foldl (fun m x=>Cv (sm x) m) m0=xZ L m0:=by
  rw [Py L sm m0 h _ (Nat.le_refl _),Nat.sub_self,List.drop_zero]
theorem bkL_mem {len x:Nat} (h:x ∈ bkL len len):x < len:=by
  unfold bkL at h;obtain⟨t,ht,rfl⟩:=List.mem_map.1 h;have:=List.mem_range.1 ht;omega
def WrK (w:World) (bd t:Nat) (sm:Nat→Sm) (As:Nat→Option Addr) (cs:Nat→Nat) (m0:Tm) (S0 B0:Option Addr) (c0 d0:Nat) (pre:List Nat) (W:World):Prop:=
  Same [bd] w W∧∃ m S B c d,WrI W w.heap.size t sm As cs m0 S0 B0 c0 d0 pre m S B c d∧Blk W bd t (tmC m S B c d).toArray
section
variable {w W W':World} {bd t c0 d0 c d:Nat} {sm:Nat→Sm} {As:Nat→Option Addr} {cs:Nat→Nat} {m0 m:Tm} {S0 B0 S B:Option Addr} {pre:List Nat}
theorem WrK.size (h:WrK w bd t sm As cs m0 S0 B0 c0 d0 pre W):w.heap.size≤W.heap.size:=h.1.size
theorem WrK.own:OwnFrom w.heap.size (WrK w bd t sm As cs m0 S0 B0 c0 d0):=fun pre W W' row h hg hr=>by
  obtain⟨hs,m,S,B,c,d,h1,h2⟩:=h
  refine⟨⟨hg.os.trans hs.os,hg.tape.trans hs.tape,hg.output.trans hs.output,nLT hs.size hg.size,fun k hk hm=>(hg.block k (nLL hk hs.size) (fun e=>?_)).trans (hs.blk k hk hm)⟩,m,S,B,c,d,h1.mono (fun g l _ hb=>hb.grownBy hg hr),h2.grownBy hg hr⟩
  have:=(hr k e.symm).1
  omega
theorem WrK.start (hb:Blk w bd t (tmC m0 S0 B0 c0 d0).toArray):WrK w bd t sm As cs m0 S0 B0 c0 d0 [] w:=⟨Same.refl _ _,m0,S0,B0,c0,d0,.nil,hb⟩
theorem WrK.put {x g:Nat} (h:Same [bd] w W) (hI:WrI W w.heap.size t sm As cs m0 S0 B0 c0 d0 pre m S B c d) (hs:Same [bd] W W') (hbd:bd < w.heap.size) (hg:w.heap.size≤g) (hb:Blk W' g t (tmC m S B c d).toArray) (hb2:Blk W' bd t (tmC (Cv (sm x) m) (As x) (some ⟨g,0,none⟩) (cs x) 1).toArray):WrK w bd t sm As cs m0 S0 B0 c0 d0 (pre ++ [x]) W':=
  ⟨⟨hs.os.trans h.os,hs.tape.trans h.tape,hs.output.trans h.output,nLT h.size hs.size,fun k hk hm=>(hs.blk k (nLL hk h.size) hm).trans (h.blk k hk hm)⟩,_,_,_,_,_,.snoc (hI.mono (fun g l hg hb=>(hs.blk g hb.lt (fun hm=>by have:=List.mem_singleton.1 hm;omega)).trans hb)) hg hb,hb2⟩
end
theorem Same.th {X:List Nat} {w0 w w':World} (h:Same X w0 w) (hs:Same [] w w'):Same X w0 w':=h.trans (hs.weak (by simp))
theorem KpB.tr {b c:Nat} {A B C:World} (h:KpB b c A B) (k:KpB b c B C):KpB b c A C:=⟨k.1.trans h.1,k.2.trans h.2⟩
theorem KpB.put {b c n:Nat} (hb:b < n) (hc:c < n) (W:World) (l:Nat) (o':Obj) (h:n≤l):KpB b c W (W.putObj l o'):=⟨World.putObj_heap_other oM,World.putObj_heap_other oM⟩
theorem KpB.of {X:List Nat} {b c n:Nat} (hb:b < n) (hc:c < n) {A B:World} (hs:Same X A B) (h:n≤A.heap.size) (hx:b ∉ X) (hy:c ∉ X):KpB b c A B:=⟨hs.blk b oM hx,hs.blk c oM hy⟩
theorem uz {X:List Nat} {D:Nat} {w w':World} {o:Obj} (h:w.heap[D]? =some o) (hs:Same X w w') (hx:D ∉ X):w'.heap[D]? =some o:=(hs.blk D (y5 h) hx).trans h
def K9 (l:List Ts) (j:Nat):Sm:=match l[j]? with
  | some σ=>σ.sm
  | none=>smZ
theorem smAt_eq {l:List Ts} {j:Nat} (h:j < l.length):K9 l j=(l[j]).sm:=by unfold K9;rw [List.getElem?_eq_getElem h]
theorem row_tys {w:World} {l:List Ts} {vs:List Value} (h:RowD smC 2 w (l.map Ts.sm) vs):∃ (As:Nat→Option Addr) (cs:Nat→Nat),∀ j,j < l.length→(vs[j * 2 + 0]? =some (.string (K9 l j).base)∧vs[j * 2 + 1]? =some (.slice (As j) (K9 l j).args.length (cs j)))∧SimsIn w (As j) (K9 l j).args:=by
  have h1:∀ j,∃ p:Option Addr×Nat,j < l.length→(vs[j * 2 + 0]? =some (.string (K9 l j).base)∧vs[j * 2 + 1]? =some (.slice p.1 (K9 l j).args.length p.2))∧SimsIn w p.1 (K9 l j).args:=fun j=>by
    by_cases hj:j < l.length
    · obtain⟨v,_,⟨A,c,rfl,hA⟩,hv⟩:=h.get j (by rw [List.length_map];exact hj)
      rw [List.getElem_map] at hA hv;rw [smAt_eq hj];exact⟨(A,c),fun _=>⟨⟨hv 0 _ rfl,hv 1 _ rfl⟩,hA⟩⟩
    · exact⟨(none,0),fun h=>absurd h hj⟩
  exact⟨fun j=>(Classical.choose (h1 j)).1,fun j=>(Classical.choose (h1 j)).2,fun j=>Classical.choose_spec (h1 j)⟩
structure PtI (w:World) (cs:Array Value) (K:Nat) (L:Nat→Option Tm):Prop where
  size:cs.size=K + 1
  no:∀ k,k≤K→L k=none→cs[k]? =some (.pointer none)
  yes:∀ k,k≤K→∀ x,L k=some x→∃ b o S B c d,cs[k]? =some (.pointer (some ⟨b,o,none⟩))∧b < w.heap.size∧w.rangeAt b o (tmC x S B c d)∧SimsIn w S x.type.args∧TmsIn w B x.args
section
variable {w w':World} {cs:Array Value} {K k:Nat} {L L':Nat→Option Tm}
theorem PtI.put {x:Tm} {b o c d:Nat} {S B:Option Addr} (h:PtI w cs K L) (hk:k≤K) (hL:∀ j,L' j=if j=k then some x else L j) (hb:b < w.heap.size) (hr:w.rangeAt b o (tmC x S B c d)) (h1:SimsIn w S x.type.args) (h2:TmsIn w B x.args):PtI w (cs.setIfInBounds k (.pointer (some ⟨b,o,none⟩))) K L':=by
  refine⟨by rw [Array.size_setIfInBounds];exact h.size,fun j hj hn=>?_,fun j hj y hy=>?_⟩
  · rw [hL j] at hn
    by_cases e:j=k
    · rw [if_pos e] at hn;cases hn
    · rw [if_neg e] at hn
      rw [Array.getElem?_setIfInBounds_ne (Ne.symm e)];exact h.no j hj hn
  · rw [hL j] at hy
    by_cases e:j=k
    · rw [if_pos e] at hy
      cases hy;subst e;exact⟨b,o,S,B,c,d,by rw [Array.getElem?_setIfInBounds,if_pos rfl,if_pos (by rw [h.size];omega)],hb,hr,h1,h2⟩
    · rw [if_neg e] at hy
      obtain⟨b,o,S,B,c,d,h3,h4⟩:=h.yes j hj y hy;exact⟨b,o,S,B,c,d,by rw [Array.getElem?_setIfInBounds_ne (Ne.symm e)];exact h3,h4⟩
theorem PtI.get (h:PtI w cs K L) (hk:k≤K):∃ pv:Option Addr,cs[k]? =some (.pointer pv)∧((pv=none∧L k=none)∨∃ x b o S B c d,pv=some ⟨b,o,none⟩∧L k=some x∧b < w.heap.size∧w.rangeAt b o (tmC x S B c d)∧SimsIn w S x.type.args∧TmsIn w B x.args):=by
  cases e:L k with
  | none=>exact⟨none,h.no k hk e,.inl ⟨rfl,rfl⟩⟩
  | some x=>
    obtain⟨b,o,S,B,c,d,h1,h2⟩:=h.yes k hk x e;exact⟨_,h1,.inr ⟨x,b,o,S,B,c,d,rfl,rfl,h2⟩⟩
theorem PtI.mono (h:PtI w cs K L) (hB:Bel w w'):PtI w' cs K L:=
  ⟨h.size,h.no,fun k hk x hx=>by
    obtain⟨b,o,S,B,c,d,h1,h2,h3,h4,h5⟩:=h.yes k hk x hx
    exact⟨b,o,S,B,c,d,h1,nLL h2 hB.size,hB.range h2 h3,h4.mono hB,h5.mono hB⟩⟩
end
def nuK (L:Nat→Option Tm) (k j:Nat):Int:=if 1≤j∧j≤k∧L j=none then ((j6 L j:Nat):Int) else 0
theorem nu_zero (L:Nat→Option Tm) (j:Nat):nuK L 0 j=0:=if_neg oM
theorem nu_yes {L:Nat→Option Tm} {k:Nat} {x:Tm} (h:L (k + 1)=some x):nuK L (k + 1)=nuK L k:=by
  funext j
  unfold nuK;by_cases e:j=k + 1
  · subst e;rw [if_neg (fun h2=>by rw [h] at h2;cases h2.2.2),if_neg oM]
  · by_cases g:1≤j∧j≤k∧L j=none
    · rw [if_pos g,if_pos ⟨g.1,by omega,g.2.2⟩]
    · rw [if_neg g,if_neg (fun h2=>g ⟨h2.1,by omega,h2.2.2⟩)]
theorem nu_no {L:Nat→Option Tm} {k:Nat} (h:L (k + 1)=none):nuK L (k + 1)=fun j=>if j=k + 1 then ((j6 L (k + 1):Nat):Int) else nuK L k j:=by
  funext j
  unfold nuK;by_cases e:j=k + 1
  · subst e;rw [if_pos rfl,if_pos ⟨by omega,Nat.le_refl _,h⟩]
  · rw [if_neg e]
    by_cases g:1≤j∧j≤k∧L j=none
    · rw [if_pos g,if_pos ⟨g.1,by omega,g.2.2⟩]
    · rw [if_neg g,if_neg (fun h2=>g ⟨h2.1,by omega,h2.2.2⟩)]
theorem nu_at {L:Nat→Option Tm} {K f:Nat} (h1:1≤f) (h2:f≤K) (h:L f=none):nuK L K f=((j6 L f:Nat):Int):=if_pos ⟨h1,h2,h⟩
end Go.Proofs.YtbcpgfnfiekbiaaGreatDoor
namespace Go.Proofs.YtbcpgfnfiekbiaaGreatDoor
open Go.RowKit
section rules
variable {P:Program} {n:Nw} {f:Fr} {w:World} {ty t t':TypeId} {pos:String} {af:Array Edge} {x y:Operand} {dst:Option Tmp} {gd:Option (Nat×Bool)}
theorem r_shrI {a b:Nat} {kb:IntKind} (hx:ev n f x= .int .i64 (a:Int)) (hy:ev n f y= .int kb (b:Int)) (hb:b < 64):
    RV P n f w ⟨dst,.binOp .shr t x y t',ty,pos,af,gd⟩ (.int .i64 ((a / 2 ^ b:Nat):Int)) w:=by
  have h1:min b 64=b:=by omega
  have h2:(a:Int).fdiv (2 ^ b)=((a / 2 ^ b:Nat):Int):=by
    rw [Int.fdiv_eq_ediv_of_nonneg _ (by exact Int.le_of_lt (Int.pow_pos dE))];simp
  have h0:¬((b:Int) < 0):=by omega
  simp only [RV,execOp,hx,hy,eqGuard,binOp,Op.shift,IntKind.bits,if_neg h0];simp [h1,h2]
theorem i64_and1 (a:Nat) (ha:a < 9223372036854775808):bits .and .i64 (a:Int) 1=((a % 2:Nat):Int):=by
  show IntKind.i64.wrap ((BitVec.ofInt 64 (a:Int) &&& BitVec.ofInt 64 1).toNat:Int)=_;have e1:(BitVec.ofInt 64 (a:Int)).toNat=a:=by
    rw [BitVec.toNat_ofInt];omega
  rw [BitVec.toNat_and,e1,show (BitVec.ofInt 64 1).toNat=2 ^ 1 - 1 from rfl,Nat.and_two_pow_sub_one_eq_mod];have:a % 2 ^ 1 < 2:=Nat.mod_lt _ dE;rw [IntKind.wrap_i64];omega
theorem r_and1 {a:Nat} (hx:ev n f x= .int .i64 (a:Int)) (hy:ev n f y= .int .i64 1) (ha:a < 9223372036854775808):
    RV P n f w ⟨dst,.binOp .and t x y t',ty,pos,af,gd⟩ (.int .i64 ((a % 2:Nat):Int)) w:=by
  have:=i64_and1 a ha;simp only [RV,execOp,hx,hy,eqGuard,binOp];simp [go_sem,this]
theorem HY {b c:Nat} {kb:IntKind} (hx:ev n f x= .int .i64 1) (hy:ev n f y= .int kb (b:Int)) (hb:b < 63) (hc:2 ^ b=c):
    RV P n f w ⟨dst,.binOp .shl t x y t',ty,pos,af,gd⟩ (.int .i64 (c:Int)) w:=by
  subst hc;have h1:min b 64=b:=by omega
  have h3:(2:Nat) ^ b < 2 ^ 63:=Nat.pow_lt_pow_right dE hb;have h2:IntKind.i64.wrap (1 * 2 ^ b)=((2 ^ b:Nat):Int):=by
    rw [IntKind.wrap_i64];have:((1:Int) * 2 ^ b)=((2 ^ b:Nat):Int):=by simp
    rw [this]
    generalize (2:Nat) ^ b=c at h3
    omega
  have h0:¬((b:Int) < 0):=by omega
  simp only [RV,execOp,hx,hy,eqGuard,binOp,Op.shift,IntKind.bits,if_neg h0,Int.toNat_natCast,h1,h2];rfl
theorem r_quoI {a b:Nat} (hx:ev n f x= .int .i64 (a:Int)) (hy:ev n f y= .int .i64 (b:Int)) (hb:0 < b) (ha:a < 9223372036854775808):
    RV P n f w ⟨dst,.binOp .quo t x y t',ty,pos,af,gd⟩ (.int .i64 ((a / b:Nat):Int)) w:=by
  have h0:¬(b:Int)=0:=by omega
  have h2:IntKind.i64.wrap ((a:Int).tdiv (b:Int))=((a / b:Nat):Int):=by
    rw [Int.tdiv_eq_ediv_of_nonneg oM,IntKind.wrap_i64];have:((a:Int) / (b:Int))=((a / b:Nat):Int):=by simp
    rw [this];have:=Nat.div_le_self a b
    generalize a / b=c at this
    omega
  simp only [RV,execOp,hx,hy,eqGuard,binOp,Op.intDiv,if_neg h0,h2];rfl
end rules
end Go.Proofs.YtbcpgfnfiekbiaaGreatDoor
namespace Go.Proofs.YtbcpgfnfiekbiaaGreatDoor
open Go.RowKit
theorem SY (A:Option Addr) (n c:Nat) (w:World):Calls Tryz.prog 82 #[.slice A n c] w fun e w'=>(∃ b,e= .returned (.func (.func 114) #[] #[.pointer (some ⟨b,0,none⟩)])∧w.heap.size≤b∧Blk w' b 39 #[.slice A n c])∧Bel w w':=by
 refine enT Tryz.func82 Tryz.ntmps82 rfl rfl fun hB=>?_;refine zn2 ?_;refine x6 (v:= .slice _ _ _) rfl rfl (fun b1 w1 hb1 s1 hr=>?_);have lo1:=nLT (Bel.size hB) hr;refine wl (Y0 (v:= .nilFunc) rfl) (zn4 ?_);refine wl (r_mf rfl) (zn5 ?_);exact⟨⟨b1,rfl,lo1,hb1⟩,hB.u⟩
end Go.Proofs.YtbcpgfnfiekbiaaGreatDoor
