/- What these functions of the program compute, at every world: . Targets of links, walks along paths, what At answers. No program in sight. The engine's sixth part: copy, zeros appended to a slice, functions that the model has itself, a drawn region in which an operation changes what another one has made. Bytes of strings; sums of strings: rules for them. No program in sight. Strings cut at places and at bytes. No program in sight. Rules: a range over a string; scopes; numbers of a few bits. No program in sight. Words: the places of a string's runes, which of them are right, which bytes are barred. No program in sight. Rules, words and grammars as plain values, how a world holds them, and what is wrong with them. No program in sight. -/
import Derived.Test.YtdkfnakncaggoaaGreatDoorGNodes
import Derived.Laws.CopyRow
import Derived.Laws.Externs
import Derived.Lib.Overlaps
import Derived.Lib.Builder
import Derived.Lib.AppendStr
import Derived.Lib.UnsafeStr
import Derived.Lib.Bytealg
import Derived.Laws.RangeAny
import Derived.Scope
import Derived.Lib.RuneCount
import Derived.Lib.DecodeNEq
import Derived.Test.YtdkfnakncaggoaaGreatDoorMask
namespace Go.Proofs.YtdkfnakncaggoaaGreatDoor
open Go.RowKit
inductive NdVs (w:World):List Nd→List Value→Prop
  | nil:NdVs w [] []
  | cons {x:Nd} {l:List Nd} {vs:List Value} {A:Option Addr} {c:Nat} (h:LinksIn w A x.ln) (r:NdVs w l vs):NdVs w (x :: l) (.int .i64 x.ty :: .slice A x.ln.length c :: vs)
theorem NdVs.get {w:World} {l:List Nd} {vs:List Value} (h:NdVs w l vs):∀ k (hk:k < l.length),∃ A c,vs[k * 2]? =some (.int .i64 (l[k]).ty)∧vs[k * 2 + 1]? =some (.slice A (l[k]).ln.length c)∧LinksIn w A (l[k]).ln:=by
  induction h with
  | nil=>intro k hk;simp at hk
  | cons h r ih=>
    intro k hk
    match k,hk with
    | 0,_=>exact⟨_,_,rfl,rfl,h⟩
    | k + 1,hk=>
      obtain⟨A,c,h1,h2,h3⟩:=ih k (by simpa using hk);refine⟨A,c,?_,?_,h3⟩
      · rw [show (k + 1) * 2=k * 2 + 1 + 1 from by omega];simpa using h1
      · rw [show (k + 1) * 2 + 1=k * 2 + 1 + 1 + 1 from by omega];simpa using h2
end Go.Proofs.YtdkfnakncaggoaaGreatDoor
namespace Go.Proofs.YtdkfnakncaggoaaGreatDoor
open Go.RowKit
def tgt (xs:List (Int×Int)) (f:Int):Int:=match xs.find? (fun y=>decide (y.1=f)) with
  | some y=>y.2
  | none=>-1
theorem R6 {f:Int}:∀ {xs:List (Int×Int)} {i:Nat} (hi:i < xs.length),(xs[i]).1=f→(∀ j (hj:j < xs.length),j < i→¬(xs[j]).1=f)→tgt xs f=(xs[i]).2
  | [],_,hi,_,_=>absurd hi (by simp)
  | x :: xs,0,_,h,_=>by
    have h1:x.1=f:=h
    unfold tgt
    rw [List.find?_cons,decide_eq_true h1]
    rfl
  | x :: xs,i + 1,hi,h,hb=>by
    have h0:¬x.1=f:=hb 0 (by simp) om
    have ih:=R6 (xs:=xs) (i:=i) (by simpa using hi) h (fun j hj hji=>hb (j + 1) (by simpa using hj) om)
    unfold tgt at ih ⊢
    rw [List.find?_cons,decide_eq_false h0]
    exact ih
theorem R5 {f:Int}:∀ {xs:List (Int×Int)},(∀ j (hj:j < xs.length),¬(xs[j]).1=f)→tgt xs f= -1
  | [],_=>rfl
  | x :: xs,h=>by
    have h0:¬x.1=f:=h 0 (by simp)
    have ih:=R5 (xs:=xs) (f:=f) (fun j hj=>h (j + 1) (by simpa using hj))
    unfold tgt at ih ⊢
    rw [List.find?_cons,decide_eq_false h0]
    exact ih
theorem KJ {nf n:Nat}:∀ {xs:List (Int×Int)} {last:Int},yZ nf n last xs=0→(∀ j (hj:j < xs.length),last < (xs[j]).1)∧∀ i j (hi:i < xs.length) (hj:j < xs.length),i < j→(xs[i]).1 < (xs[j]).1
  | [],_,_=>⟨fun j hj=>absurd hj (by simp),fun i j hi=>absurd hi (by simp)⟩
  | y :: ys,last,h=>by
    unfold yZ at h
    by_cases h1:uK nf n y
    · rw [if_pos h1] at h;cases h
    rw [if_neg h1] at h
    by_cases h2:y.1≤last
    · rw [if_pos h2] at h;cases h
    rw [if_neg h2] at h
    obtain⟨ih1,ih2⟩:=KJ h
    refine⟨fun j hj=>?_,fun i j hi hj hij=>?_⟩
    · match j,hj with
      | 0,_=>show last < y.1;omega
      | j + 1,hj=>
        have:=ih1 j (by simpa using hj)
        show last < (ys[j]'(by simpa using hj)).1
        omega
    · match i,j,hi,hj,hij with
      | 0,j + 1,_,hj,_=>exact ih1 j (by simpa using hj)
      | i + 1,j + 1,hi,hj,hij=>exact ih2 i j (by simpa using hi) (by simpa using hj) om
theorem tgt_bs {nf n:Nat} {xs:List (Int×Int)} {last f:Int} {i:Nat} (hs:yZ nf n last xs=0) (hlo:∀ j (hj:j < xs.length),j < i→(xs[j]).1 < f) (hhi:∀ j (hj:j < xs.length),i≤j→f≤(xs[j]).1):
    (∀ h:i < xs.length,(xs[i]).1=f→tgt xs f=(xs[i]).2)∧((¬∃ h:i < xs.length,(xs[i]).1=f)→tgt xs f= -1):=by
  refine⟨fun h e=>R6 h e (fun j hj hji=>by have:=hlo j hj hji;omega),fun hn=>R5 (fun j hj e=>?_)⟩;by_cases h1:j < i
  · have:=hlo j hj h1;omega
  · by_cases h2:j=i
    · subst h2;exact hn ⟨hj,e⟩
    · have h3:=(KJ hs).2 i j om hj om
      have h4:=hhi i om (Nat.le_refl _);omega
def walkT (g:List Nd):List Int→Int→Int
  | [],a=>a
  | f :: p,a=>if a < 0 then a else walkT g p (tgt (nd g a.toNat).ln f)
def pF (nf:Nat) (p:List Int) (i:Nat):Int:=match p[i]? with
  | none=>0
  | some x=>if x < 0∨(nf:Int)≤x then 3 else 0
noncomputable def atF (l:List Ty) (fs:List Ft) (g:List Nd) (p:List Int):Fl:=if ¬(graphF l fs g).1=0 then graphF l fs g else if 300 < p.length then (2,-3) else qy (pF fs.length p) 0 p.length
def AtOk (l:List Ty) (fs:List Ft) (g:List Nd) (p:List Int):Prop:=(atF l fs g p).1=0∧0≤walkT g p 0
noncomputable instance (l:List Ty) (fs:List Ft) (g:List Nd) (p:List Int):Decidable (AtOk l fs g p):=Classical.propDecidable _
end Go.Proofs.YtdkfnakncaggoaaGreatDoor
namespace Go.Proofs.YtdkfnakncaggoaaGreatDoor
open Go.RowKit
section six
variable {P:Program} {Q:Exit→Act→World→Prop} {n:Nat} {f:Fr} {w:World} {ops:Array Oper} {rest:List Oper} {d:Tmp} {ty t e:TypeId} {pos:String} {af:Array Edge} {x y:Operand} {v:Value}
theorem r_ext {F:FuncId} {xs:Array Operand} {ats:Array TypeId} {args:List Value} {dst:Option Nat} {gd:Option (Nat×Bool)} (h:(callFunc F args.toArray).run P w= .ok (.value v) w) (hargs:xs.toList.map (ev n f)=args):
    RV P n f w ⟨dst,.call { callee:= .value (.func F),args:=xs,argTypes:=ats },ty,pos,af,gd⟩ v w:=by
  subst hargs;have hm:(xs.toList.map (ev n f)).toArray=xs.map (ev n f):=by rw [← Array.toList_map,Array.toArray_toList]
  rw [hm] at h;simp [RV,execOp,resolve,ev,Deferred.ofValue,invoke,h]
theorem Own.whole {base sz k cap:Nat} {A:Option Addr} {xs:List Value} (h:Own w base e sz A k cap xs) (hk:0 < k):∃ (g:Nat) (cur:Array Value),A=some ⟨g,0,none⟩∧base≤g∧Blk w g e cur∧cap≤9223372036854775807∧cur.size=cap * sz∧cur.toList.take (k * sz)=xs:=by
  rcases h.2 with ⟨_,h0⟩ | ⟨g,c,cur,hv,hb,hg,hkc,hm,hs,ht⟩
  · omega
  · cases hv
    exact⟨g,cur,rfl,hb,hg,by simpa [maxLen] using hm,hs,ht⟩
end six
end Go.Proofs.YtdkfnakncaggoaaGreatDoor
namespace Go.Proofs.YtdkfnakncaggoaaGreatDoor
open Go.RowKit
def bl (s:ByteArray):List UInt8:=s.data.toList
theorem bl_app (p q:ByteArray):bl (p ++ q)=bl p ++ bl q:=by
  unfold bl;rw [ByteArray.data_append,Array.toList_append]
theorem IY (p:ByteArray):(bl p).length=p.size:=by unfold bl;rw [Array.length_toList];rfl
theorem C6 {p q:ByteArray} (h:bl p=bl q):p=q:=by
  cases p;cases q;unfold bl at h;simp only [ByteArray.mk.injEq];exact Array.toList_inj.1 h
section rules
variable {P:Program} {Q:Exit→Act→World→Prop} {n:Nat} {f:Fr} {w w':World} {ops:Array Oper} {rest:List Oper} {d:Nat} {ty:TypeId} {pos:String} {af:Array Edge} {x y z:Operand} {t t' e:TypeId}
theorem O9 {dst:Option Tmp} {gd:Option (Nat×Bool)} {p q:ByteArray} (hx:ev n f x= .string p) (hy:ev n f y= .string q) (hb:p.size + q.size≤9223372036854775807):
    RV P n f w ⟨dst,.binOp .add t x y t',ty,pos,af,gd⟩ (.string (p ++ q)) w:=by
  have h:¬((p.size + q.size:Nat):Int) > IntKind.i64.max:=by
    have e:IntKind.i64.max=9223372036854775807:=by decide
    rw [e];omega
  simp only [RV,execOp,hx,hy,eqGuard,binOp,Op.stringOp,if_neg h];rfl
end rules
end Go.Proofs.YtdkfnakncaggoaaGreatDoor
namespace Go.Proofs.YtdkfnakncaggoaaGreatDoor
open Go.RowKit
def stk (h:Nat) (s:ByteArray):ByteArray:=⟨((bl s).take h).toArray⟩
def sdr (l:Nat) (s:ByteArray):ByteArray:=⟨((bl s).drop l).toArray⟩
theorem Y3 (l:Nat) (s:ByteArray):bl (sdr l s)=(bl s).drop l:=rfl
theorem y5 (l:Nat) (s:ByteArray):(sdr l s).size=s.size - l:=by rw [← IY,← IY,Y3,List.length_drop]
theorem ext_bl (s:ByteArray) (l h:Nat):bl (s.extract l h)=((bl s).drop l).take (h - l):=by
  unfold bl;rw [ByteArray.data_extract,Array.toList_extract,List.extract_eq_take_drop]
theorem ext_sdr {s:ByteArray} {l:Nat}:s.extract l s.size=sdr l s:=C6 (by
  rw [ext_bl,Y3,List.take_of_length_le]
  rw [List.length_drop,IY]
  exact Nat.le_refl _)
section rules
variable {P:Program} {Q:Exit→Act→World→Prop} {n:Nat} {f:Fr} {w w':World} {ops:Array Oper} {rest:List Oper} {d:Nat} {ty:TypeId} {pos:String} {af:Array Edge} {x y z:Operand} {t t' e:TypeId}
theorem ZK {dst:Option Tmp} {gd:Option (Nat×Bool)} {s:ByteArray} {l:Nat} (hu:P.underlying t=some .string) (hx:ev n f x= .string s) (hy:ev n f y= .int .i64 (l:Int)) (hl:l≤s.size):
    RV P n f w ⟨dst,.slice t x (some y) none none,ty,pos,af,gd⟩ (.string (sdr l s)) w:=by
  have h1:(Instr.sliceBound (.int .i64 (l:Int)) s.size .sliceB).run P w= .ok l w:=by
    simp [Instr.sliceBound,asIntOf,hl]
  simp [RV,execOp,hx,hy,Instr.sliceAt,run_underlying hu,Instr.slice,Instr.sliceBounds,h1,ext_sdr]
end rules
def O0 (c:UInt8):List UInt8→List (List UInt8)
  | []=>[[]]
  | x :: xs=>if x=c then [] :: O0 c xs else (x :: (O0 c xs).headD []) :: (O0 c xs).tail
theorem Hw {c:UInt8}:∀ {l:List UInt8} {m:Nat},Lib.indexByte l c=(m:Int)→m < l.length∧¬c ∈ l.take m∧l=l.take m ++ c :: l.drop (m + 1)
  | [],m,h=>by simp [Lib.indexByte] at h
  | b :: l,m,h=>by
    unfold Lib.indexByte at h
    by_cases e:b=c
    · have e2:(b == c)=true:=by simpa using e
      simp only [e2,if_true] at h
      have:m=0:=by omega
      subst this
      exact⟨by simp,by simp,by simp [e]⟩
    · have e2:(b == c)=false:=by simpa using e
      simp only [e2,Bool.false_eq_true,if_false] at h
      by_cases q:Lib.indexByte l c= -1
      · simp [q] at h
      · have q2:(Lib.indexByte l c == -1)=false:=by simpa using q
        simp only [q2,Bool.false_eq_true,if_false] at h
        have h3:=Lib.indexByte_ge l c
        obtain⟨k,rfl⟩:∃ k,m=k + 1:=⟨m - 1,by omega⟩
        obtain⟨a1,a2,a3⟩:=Hw (c:=c) (l:=l) (m:=k) om
        refine⟨by simp;exact a1,?_,?_⟩
        · rw [List.take_succ_cons]
          intro hm
          rcases List.mem_cons.1 hm with q | q
          · exact e q.symm
          · exact a2 q
        · rw [List.take_succ_cons,List.drop_succ_cons,List.cons_append,← a3]
def sp (c:UInt8) (s:ByteArray):List ByteArray:=(O0 c (bl s)).map (fun p=>⟨p.toArray⟩)
def StrsIn (w:World) (A:Option Addr) (xs:List ByteArray):Prop:=
  xs.length≤yJ∧(xs≠[]→∃ b o,A=some ⟨b,o,none⟩∧b < w.heap.size∧∀ k (h:k < xs.length),w.cell? ⟨b,o + k * 1,none⟩=some (.string xs[k]))
theorem StrsIn.mono {w w':World} {A:Option Addr} {xs:List ByteArray} (h:StrsIn w A xs) (hb:Bel w w'):StrsIn w' A xs:=
  ⟨h.1,fun hn=>by
    obtain⟨b,o,e,hl,hc⟩:=h.2 hn
    exact⟨b,o,e,nLL hl hb.size,fun k hk=>hb.cell hl (hc k hk)⟩⟩
theorem StrsIn.at_ {w:World} {A:Option Addr} {xs:List ByteArray} (h:StrsIn w A xs) {k:Nat} (hk:k < xs.length):
    ∃ b o,A=some ⟨b,o,none⟩∧b < w.heap.size∧w.cell? ⟨b,o + k * 1,none⟩=some (.string xs[k]):=by
  obtain⟨b,o,e,hl,hc⟩:=h.2 (by rintro rfl;simp at hk);exact⟨b,o,e,hl,hc k hk⟩
end Go.Proofs.YtdkfnakncaggoaaGreatDoor
namespace Go.Proofs.YtdkfnakncaggoaaGreatDoor
open Go.RowKit
def ItIn (w:World) (b:Nat) (s:ByteArray) (p:Nat):Prop:=w.heap[b]? =some (.stringIter s p)
section it
variable {w w':World} {b p:Nat} {s:ByteArray} {X:List Nat}
theorem ItIn.lt (h:ItIn w b s p):b < w.heap.size:=jk h
theorem ItIn.tr (h:ItIn w b s p) (hs:Same X w w') (hx:b ∉ X):ItIn w' b s p:=(hs.blk b h.lt hx).trans h
theorem ItIn.tr0 (h:ItIn w b s p) (hs:Same [] w w'):ItIn w' b s p:=h.tr hs (by simp)
theorem ItIn.tr1 {c:Nat} (h:ItIn w b s p) (hs:Same [c] w w') (hne:b≠c):ItIn w' b s p:=h.tr hs (by simpa using hne)
end it
section rules
variable {P:Program} {Q:Exit→Act→World→Prop} {n:Nat} {f:Fr} {w w':World} {ops:Array Oper} {rest:List Oper} {d:Nat} {ty:TypeId} {pos:String} {af:Array Edge} {x y z:Operand} {t t' e:TypeId}
theorem W4 {s:ByteArray} (hu:P.underlying t=some .string) (hx:ev n f x= .string s)
    (K:∀ b w1,ItIn w1 b s 0→Same [] w w1→w.heap.size≤b→WL P ops Q rest n (upd f d (.pointer (some ⟨b,0,none⟩))) w1):WL P ops Q (⟨some d,.range t x,ty,pos,af,none⟩ :: rest) n f w:=by
  refine wl (v:= .pointer (some ⟨w.heap.size,0,none⟩)) (w':=w.iter s 0) ?_ (K _ _ (World.iter_heap w s 0) (oz w _) (Nat.le_refl _));simp only [RV,execOp,hx,run_range_string w t s hu,Sem.run_bind,Result.andThen_ok];simp
theorem run_nx {b p:Nat} {s:ByteArray} (h:ItIn w b s p) (hp:p < s.size):
    (Instr.next (.pointer (some ⟨b,0,none⟩)) true ty).run P w= .ok (.tuple #[.bool true,.int .i64 p,.int .i32 ((Utf8.decode s p).1:Nat)]) { w with heap:=w.heap.setIfInBounds b (.stringIter s (p + (Utf8.decode s p).2)) }:=by
  have h':w.heap[b]? =some (.stringIter s p):=h;simp only [Instr.next,getObj,setObj,Sem.run_bind,Sem.run,h',Result.andThen,hp,if_true];simp [goInt]
theorem GW (w:World) (b:Nat) (o:Obj):Same [b] w { w with heap:=w.heap.setIfInBounds b o }:=
  ⟨rfl,rfl,rfl,by simp,fun k _ hx=>by
    have:k≠b:=fun e=>hx (List.mem_singleton.2 e)
    simp [Ne.symm this]⟩
theorem W5 {b p:Nat} {s:ByteArray} (h:ItIn w b s p) (hx:ev n f x= .pointer (some ⟨b,0,none⟩)) (hp:p < s.size)
    (K:∀ w1,ItIn w1 b s (p + (Utf8.decode s p).2)→Same [b] w w1→WL P ops Q rest n (upd f d (.tuple #[.bool true,.int .i64 ((p:Nat):Int),.int .i32 (((Utf8.decode s p).1:Nat):Int)])) w1):WL P ops Q (⟨some d,.next x true,ty,pos,af,none⟩ :: rest) n f w:=by
  refine wl (v:= .tuple #[.bool true,.int .i64 p,.int .i32 ((Utf8.decode s p).1:Nat)]) (w':={ w with heap:=w.heap.setIfInBounds b (.stringIter s (p + (Utf8.decode s p).2)) }) ?_ (K _ ?_ (GW w b _))
  · simp only [RV,execOp,hx,run_nx h hp,Sem.run_bind,Result.andThen_ok]
    simp
  · show (w.heap.setIfInBounds b _)[b]? =_
    have:=h.lt;simp [this]
theorem r_ne {b p:Nat} {s:ByteArray} {dst:Option Tmp} {gd:Option (Nat×Bool)} (h:ItIn w b s p) (hx:ev n f x= .pointer (some ⟨b,0,none⟩)) (hp:¬p < s.size):RV P n f w ⟨dst,.next x true,ty,pos,af,gd⟩ (.tuple #[.bool false]) w:=by
  have h':w.heap[b]? =some (.stringIter s p):=h;have h2:(Instr.next (.pointer (some ⟨b,0,none⟩)) true ty).run P w= .ok (.tuple #[.bool false]) w:=by
    simp [Instr.next,getObj,Sem.run,h',hp]
  simp only [RV,execOp,hx,h2,Sem.run_bind,Result.andThen_ok];simp
theorem Jv {k k':IntKind} {a:Int} {dd:TypeDesc} {dst:Option Tmp} {gd:Option (Nat×Bool)} (hs:P.underlying t=some dd) (hd:P.underlying t'=some (.int k')) (hx:ev n f x= .int k a) (ha:k'.wrap a=a):
    RV P n f w ⟨dst,.convert t t' x,ty,pos,af,gd⟩ (.int k' a) w:=by
  simp [RV,execOp,hx,convert,run_underlying hs,run_underlying hd,Conv.intToInt,ha]
theorem V7 {a b c:Nat} {kb:IntKind} {dst:Option Tmp} {gd:Option (Nat×Bool)} (hx:ev n f x= .int .u64 (a:Int)) (hy:ev n f y= .int kb (b:Int)) (hb:b < 64) (ha:a * 2 ^ b < 18446744073709551616) (hc:a * 2 ^ b=c):
    RV P n f w ⟨dst,.binOp .shl t x y t',ty,pos,af,gd⟩ (.int .u64 (c:Int)) w:=by
  subst hc;have h1:min b 64=b:=by omega
  have h2:IntKind.u64.wrap ((a:Int) * 2 ^ b)=((a * 2 ^ b:Nat):Int):=by
    rw [IntKind.wrap_u64];have:((a:Int) * 2 ^ b)=((a * 2 ^ b:Nat):Int):=by simp
    rw [this]
    generalize a * 2 ^ b=c at ha
    omega
  have h0:¬((b:Int) < 0):=by omega
  simp only [RV,execOp,hx,hy,eqGuard,binOp,Op.shift,IntKind.bits,if_neg h0,Int.toNat_natCast,h1,h2];rfl
theorem r_shr8 {a b c:Nat} {kb:IntKind} {dst:Option Tmp} {gd:Option (Nat×Bool)} (hx:ev n f x= .int .u8 (a:Int)) (hy:ev n f y= .int kb (b:Int)) (hb:b < 8) (hc:a / 2 ^ b=c):
    RV P n f w ⟨dst,.binOp .shr t x y t',ty,pos,af,gd⟩ (.int .u8 (c:Int)) w:=by
  subst hc;have h1:min b 8=b:=by omega
  have h2:(a:Int).fdiv (2 ^ b)=((a / 2 ^ b:Nat):Int):=by
    rw [Int.fdiv_eq_ediv_of_nonneg _ (by exact Int.le_of_lt (Int.pow_pos dE))];simp
  have h0:¬((b:Int) < 0):=by omega
  simp only [RV,execOp,hx,hy,eqGuard,binOp,Op.shift,IntKind.bits,if_neg h0];simp [h1,h2]
theorem u8_and7:∀ a:Nat,a < 256→bits .and .u8 (a:Int) 7=((a % 8:Nat):Int):=by decide +kernel
theorem r_and7 {a:Nat} {dst:Option Tmp} {gd:Option (Nat×Bool)} (hx:ev n f x= .int .u8 (a:Int)) (hy:ev n f y= .int .u8 7) (ha:a < 256):
    RV P n f w ⟨dst,.binOp .and t x y t',ty,pos,af,gd⟩ (.int .u8 ((a % 8:Nat):Int)) w:=by
  have:=u8_and7 a ha;simp only [RV,execOp,hx,hy,eqGuard,binOp];simp [go_sem,this]
theorem r_rstr {r:Int} {dst:Option Tmp} {gd:Option (Nat×Bool)} (hs:P.underlying t=some (.int .i32)) (hd:P.underlying t'=some .string) (hx:ev n f x= .int .i32 r):
    RV P n f w ⟨dst,.convert t t' x,ty,pos,af,gd⟩ (.string (Utf8.encode r)) w:=by
  simp [RV,execOp,hx,convert,run_underlying hs,run_underlying hd,Conv.intToString]
def QN (Q:Exit→Act→World→Prop):Exit→Act→World→Prop:=Exit.noGoto Q
theorem L1 {c:Code} (h:WC P c (QN Q) n f w):WC P (.scope c) Q n f w:=by
  unfold WC at h ⊢;exact wp_scope_straight h
theorem e_Nr (h:EX Q .ret n f w):EX (QN Q) .ret n f w:=by unfold EX at h ⊢;exact h
end rules
end Go.Proofs.YtdkfnakncaggoaaGreatDoor
namespace Go.Proofs.YtdkfnakncaggoaaGreatDoor
open Go.RowKit
def gb (s:ByteArray) (k:Nat):Nat:=(s.get! k).toNat
theorem kz (s:ByteArray) (k:Nat):gb s k < 256:=(s.get! k).toNat_lt
theorem gb_at {s:ByteArray} {k:Nat} (h:k < s.size):(s[k]'h).toNat=gb s k:=by
  unfold gb;rw [show s.get! k=s[k]'h from get_at s k h]
theorem gb_bl (s:ByteArray) (k:Nat):gb s k=((bl s).getD k 0).toNat:=by
  unfold gb bl
  congr 1
  simp only [ByteArray.get!,List.getD];rw [Array.getElem?_toList];cases h:s.data[k]? with
  | none=>rw [getElem!_def,h];rfl
  | some c=>rw [getElem!_def,h];rfl
theorem Zq (p:Nat) (s:ByteArray) (k:Nat):gb (sdr p s) k=gb s (p + k):=by
  rw [gb_bl,gb_bl,Y3];simp [List.getD]
def wdt (s:ByteArray) (p:Nat):Nat:=(Utf8.decode s p).2
def gK (s:ByteArray) (p:Nat):Bool:=decide (gb s p < 128) || decide (2≤wdt s p)
theorem ow (s:ByteArray) (p:Nat):Utf8.decode s p=Lib.decodeN (s.size - p) (gb s p) (gb s (p + 1)) (gb s (p + 2)) (gb s (p + 3)):=Lib.decode_at s p
theorem Vk {s:ByteArray} {p:Nat} (h:gb s p < 128):wdt s p=1∧(Utf8.decode s p).1=gb s p:=by
  unfold wdt;rw [ow];unfold Lib.decodeN;rw [if_pos h];exact⟨rfl,rfl⟩
theorem Z3 {s:ByteArray} {p:Nat} (h:p < s.size):1≤wdt s p:=Lib.decode_width_pos s p h
theorem dec_high {s:ByteArray} {p:Nat} (h:p < s.size) (hb:128≤gb s p):128≤(Utf8.decode s p).1:=(decode_high s p h (by rw [gb_at h];exact hb)).1
theorem CZ {s:ByteArray} {p j:Nat} (h1:0 < j) (h2:j < wdt s p):128≤gb s (p + j)∧p + j < s.size:=by
  unfold wdt at h2;rw [ow] at h2;unfold Lib.decodeN at h2
  split at h2
  · simp at h2;omega
  · split at h2
    · rename_i _ q
      split at h2
      · obtain rfl:j=1:=by simp at h2;omega
        omega
      · simp at h2;omega
    · split at h2
      · rename_i _ _ q
        split at h2
        · have:j=1∨j=2:=by simp at h2;omega
          rcases this with rfl | rfl <;> omega
        · simp at h2;omega
      · split at h2
        · rename_i _ _ _ q
          split at h2
          · have:j=1∨j=2∨j=3:=by simp at h2;omega
            rcases this with rfl | rfl | rfl <;> omega
          · simp at h2;omega
        · simp at h2;omega
theorem Ew {s:ByteArray} {p:Nat} (h:p < s.size):p + wdt s p≤s.size:=by
  by_cases e:wdt s p≤1
  · omega
  · have:=(CZ (s:=s) (p:=p) (j:=wdt s p - 1) om om).2
    omega
def chF (s:ByteArray):Nat→Nat→List Nat
  | 0,_=>[]
  | f + 1,p=>if p < s.size then p :: chF s f (p + wdt s p) else []
theorem Qk {s:ByteArray} {f p:Nat} (h:¬p < s.size):chF s f p= []:=by cases f <;> simp [chF,h]
theorem Tz {s:ByteArray}:∀ {f g p:Nat},s.size - p≤f→s.size - p≤g→chF s f p=chF s g p
  | 0,g,p,hf,_=>by rw [Qk om,Qk om]
  | f + 1,0,p,_,hg=>by rw [Qk om,Qk om]
  | f + 1,g + 1,p,hf,hg=>by
    by_cases h:p < s.size
    · have:=Z3 h
      simp only [chF,if_pos h]
      rw [Tz (f:=f) (g:=g) om om]
    · rw [Qk h,Qk h]
def ch (s:ByteArray) (p:Nat):List Nat:=chF s (s.size - p) p
theorem C5 {s:ByteArray} {p:Nat} (h:¬p < s.size):ch s p= []:=Qk h
theorem K3 {s:ByteArray} {p:Nat} (h:p < s.size):ch s p=p :: ch s (p + wdt s p):=by
  have hw:=Z3 h;unfold ch;obtain⟨k,hk⟩:∃ k,s.size - p=k + 1:=⟨s.size - p - 1,by omega⟩
  rw [hk];simp only [chF,if_pos h];rw [Tz (g:=s.size - (p + wdt s p)) om (Nat.le_refl _)]
def vq (s:ByteArray) (p:Nat):Bool:=(ch s p).all (gK s)
theorem vq_end {s:ByteArray} {p:Nat} (h:¬p < s.size):vq s p=true:=by unfold vq;rw [C5 h];rfl
theorem CX {s:ByteArray} {p:Nat} (h:p < s.size) (ho:gK s p=true):vq s p=vq s (p + wdt s p):=by
  unfold vq;rw [K3 h,List.all_cons,ho,Bool.true_and]
theorem CQ {s:ByteArray} {p:Nat} (h:p < s.size) (ho:gK s p=false):vq s p=false:=by
  unfold vq;rw [K3 h,List.all_cons,ho,Bool.false_and]
theorem vq_low {s:ByteArray} {p:Nat} (h:p < s.size) (hb:gb s p < 128):vq s p=vq s (p + 1):=by
  rw [CX h (by unfold gK;rw [decide_eq_true hb];rfl),(Vk hb).1]
theorem IZ {s:ByteArray}:∀ {k p:Nat},p + k≤s.size→(∀ j,j < k→gb s (p + j) < 128)→vq s p=vq s (p + k)
  | 0,_,_,_=>rfl
  | k + 1,p,h,hb=>by
    rw [vq_low (p:=p) om (hb 0 om),IZ (k:=k) (p:=p + 1) om (fun j hj=>by have:=hb (j + 1) om;rwa [show p + (j + 1)=p + 1 + j by omega] at this)]
    congr 1;omega
def spc (c:Nat):Bool:=decide (c=32) || decide (c=9) || decide (c=10) || decide (c=40) || decide (c=41) || decide (c=91) || decide (c=93) || decide (c=44) || decide (c=59)
theorem O2 {c:Nat} (h:spc c=true):c < 128:=by
  unfold spc at h;simp only [Bool.or_eq_true,decide_eq_true_eq] at h;omega
def brd (s:ByteArray) (p:Nat):Bool:=(ch s p).any (fun q=>spc (Utf8.decode s q).1)
theorem IW {s:ByteArray} {p:Nat} (h:¬p < s.size):brd s p=false:=by unfold brd;rw [C5 h];rfl
theorem Q0 {s:ByteArray} {p:Nat} (h:p < s.size):brd s p=(spc (Utf8.decode s p).1 || brd s (p + wdt s p)):=by
  unfold brd;rw [K3 h,List.any_cons]
theorem brd_byte {s:ByteArray}:∀ {m p k:Nat},s.size - p≤m→p≤k→k < s.size→spc (gb s k)=true→brd s p=true:=by
  intro m
  induction m with
  | zero=>intro p k h1 h2 h3;omega
  | succ m ih=>
    intro p k h1 h2 h3 h4;have hp:p < s.size:=by omega
    have hw:=Z3 hp;rw [Q0 hp];by_cases e:p=k
    · subst e
      have hl:=O2 h4;rw [(Vk hl).2,h4];rfl
    · by_cases e2:p + wdt s p≤k
      · rw [ih (p:=p + wdt s p) (k:=k) om e2 h3 h4,Bool.or_true]
      · have:=(CZ (s:=s) (p:=p) (j:=k - p) om om).1
        rw [show p + (k - p)=k by omega] at this;have:=O2 h4;omega
theorem byte_brd {s:ByteArray}:∀ {m p:Nat},s.size - p≤m→brd s p=true→∃ k,p≤k∧k < s.size∧spc (gb s k)=true:=by
  intro m
  induction m with
  | zero=>intro p h1 h;rw [IW om] at h;cases h
  | succ m ih=>
    intro p h1 h;by_cases hp:p < s.size
    · have hw:=Z3 hp
      rw [Q0 hp,Bool.or_eq_true] at h;rcases h with h | h
      · refine⟨p,Nat.le_refl _,hp,?_⟩
        by_cases hl:gb s p < 128
        · rwa [(Vk hl).2] at h
        · have:=dec_high hp om
          have:=O2 h;omega
      · obtain⟨k,h2,h3,h4⟩:=ih om h
        exact⟨k,by omega,h3,h4⟩
    · rw [IW hp] at h;cases h
def jz (s:ByteArray):Bool:=decide (1≤(ch s 0).length) && decide ((ch s 0).length≤30) && vq s 0 && !brd s 0
theorem ok_bad {s:ByteArray} {p:Nat} (hb:128≤gb s p) (h:Lib.firstT (gb s p) % 8≠2) (h3:Lib.firstT (gb s p) % 8≠3) (h4:Lib.firstT (gb s p) % 8≠4):gK s p=false:=by
  have hc:Lib.firstT (gb s p)=241∨Lib.firstT (gb s p) < 240:=by
    generalize gb s p=b at hb
    unfold Lib.firstT;rw [if_neg om]
    repeat' split
    all_goals omega
  have ht:Lib.firstT (gb s p)=241:=by
    rcases hc with ht | hl
    · exact ht
    · exfalso
      rcases Lib.firstT_low hl with q | q | q | q | q | q | q
      · rw [Lib.firstT_C2 q] at h;exact h rfl
      · rw [Lib.firstT_E0 q] at h3;exact h3 rfl
      · rw [Lib.firstT_E1 q] at h3;exact h3 rfl
      · rw [Lib.firstT_ED q] at h3;exact h3 rfl
      · rw [Lib.firstT_F0 q] at h4;exact h4 rfl
      · rw [Lib.firstT_F1 q] at h4;exact h4 rfl
      · rw [Lib.firstT_F4 q] at h4;exact h4 rfl
  have:wdt s p=1:=by
    unfold wdt;rw [ow,Lib.bad_eq _ _ _ _ _ (kz s p) ht]
  unfold gK;rw [this,decide_eq_false om];rfl
theorem first_256 (b:Nat):Lib.firstT b < 256:=by
  unfold Lib.firstT
  repeat' split
  all_goals omega
theorem first_lt {s:ByteArray} {p:Nat} (h:Lib.firstT (gb s p) % 8=2∨Lib.firstT (gb s p) % 8=3∨Lib.firstT (gb s p) % 8=4):Lib.firstT (gb s p) < 240:=by
  have hc:Lib.firstT (gb s p)=240∨Lib.firstT (gb s p)=241∨Lib.firstT (gb s p) < 240:=by
    generalize gb s p=b
    unfold Lib.firstT
    repeat' split
    all_goals omega
  omega
def yw (s:ByteArray) (p n:Nat):Prop:=s.size - p < n∨gb s (p + 1) < Lib.accLo (Lib.firstT (gb s p) / 16)∨Lib.accHi (Lib.firstT (gb s p) / 16) < gb s (p + 1)∨(3≤n∧(gb s (p + 2) < 128∨191 < gb s (p + 2)))∨(4≤n∧(gb s (p + 3) < 128∨191 < gb s (p + 3)))
instance (s:ByteArray) (p n:Nat):Decidable (yw s p n):=by unfold yw;infer_instance
theorem ok_n {s:ByteArray} {p n:Nat} (hp:p < s.size) (hn:n=2∨n=3∨n=4) (h:Lib.firstT (gb s p) % 8=n):(yw s p n→gK s p=false)∧(¬yw s p n→gK s p=true∧wdt s p=n):=by
  have hx:=first_lt (s:=s) (p:=p) om;have hb:128≤gb s p:=by
    by_cases e:gb s p < 128
    · unfold Lib.firstT at hx;rw [if_pos e] at hx;omega
    · omega
  have he:=Lib.slow_eq (s.size - p) (gb s p) (gb s (p + 1)) (gb s (p + 2)) (gb s (p + 3)) om (kz _ _) (kz _ _) (kz _ _) hx;rw [h] at he;have hw:wdt s p=(Lib.slowN (s.size - p) (gb s p) (gb s (p + 1)) (gb s (p + 2)) (gb s (p + 3)) n (Lib.accLo (Lib.firstT (gb s p) / 16)) (Lib.accHi (Lib.firstT (gb s p) / 16))).2:=by
    unfold wdt;rw [ow,he]
  have hok:gK s p=decide (2≤wdt s p):=by unfold gK;rw [decide_eq_false om,Bool.false_or]
  constructor
  · intro hbad
    have:wdt s p=1:=by
      rw [hw];unfold Lib.slowN;unfold yw at hbad
      repeat' split
      all_goals first | rfl | (exfalso;omega)
    rw [hok,this];rfl
  · intro hbad
    have:wdt s p=n:=by
      rw [hw];unfold Lib.slowN;unfold yw at hbad
      repeat' split
      all_goals first | (exfalso;omega) | (simp only;omega)
    rw [hok,this];exact⟨decide_eq_true om,rfl⟩
theorem j8 {P:Program} {n:Nat} {f:Fr} {w:World} {dst:Option Tmp} {gd:Option (Nat×Bool)} {ty:TypeId} {pos:String} {af:Array Edge} {x y:Operand} {t:TypeId} {s:ByteArray} {i:Nat} (hu:P.underlying t=some .string) (hx:ev n f x= .string s) (hy:ev n f y= .int .i64 i) (hi:i < s.size):
    RV P n f w ⟨dst,.index t x y,ty,pos,af,gd⟩ (.int .u8 ((gb s i:Nat):Int)) w:=by
  rw [← gb_at hi];exact QX hu hx hy hi
theorem I2 {a:Nat} (h:a < 18446744073709551616):IntKind.u64.wrap (a:Int)=a:=by rw [IntKind.wrap_u64];omega
def hiB:Nat:=9259542123273814144
def wo:Nat→ByteArray→Nat
  | 0,s=>gb s 0
  | k + 1,s=>wo k s ||| (gb s (k + 1) * 2 ^ (8 * (k + 1)))
theorem jX (s:ByteArray):∀ {k:Nat},k < 8→wo k s < 18446744073709551616
  | 0,_=>by have:=kz s 0;unfold wo;omega
  | k + 1,h=>by
    have h1:=jX s (k:=k) om
    have h2:=kz s (k + 1)
    have h3:gb s (k + 1) * 2 ^ (8 * (k + 1)) < 2 ^ 64:=by
      have:(2:Nat) ^ 64=2 ^ (64 - 8 * (k + 1)) * 2 ^ (8 * (k + 1)):=by rw [← Nat.pow_add];congr 1;omega
      rw [this];refine Nat.mul_lt_mul_of_pos_right ?_ (Nat.pow_pos dE);have:(2:Nat) ^ 8≤2 ^ (64 - 8 * (k + 1)):=Nat.pow_le_pow_right dE om;omega
    exact Nat.or_lt_two_pow (n:=64) h1 h3
theorem N8 {a b c:Nat} (h:(a ||| b) &&& c=0):a &&& c=0∧b &&& c=0:=by
  constructor <;> refine Nat.eq_of_testBit_eq (fun i=>?_) <;> (have:=congrArg (fun z=>z.testBit i) h;simp at this ⊢;grind)
theorem wo_z (s:ByteArray):∀ {k:Nat},k < 8→wo k s &&& hiB=0→∀ j,j≤k→gb s j < 128
  | 0,_,h,j,hj=>by
    obtain rfl:j=0:=by omega
    have h1:=kz s 0
    have h2:=congrArg (fun z=>z.testBit 7) h
    simp only [wo,Nat.testBit_and,Nat.zero_testBit] at h2
    have h3:hiB.testBit 7=true:=by decide
    rw [h3,Bool.and_true,Nat.testBit_eq_decide_div_mod_eq] at h2
    simp at h2
    omega
  | k + 1,hk,h,j,hj=>by
    obtain⟨h1,h2⟩:=N8 h
    by_cases e:j=k + 1
    · subst e
      have h3:=kz s (k + 1)
      have h4:=congrArg (fun z=>z.testBit (8 * (k + 1) + 7)) h2
      have h5:hiB.testBit (8 * (k + 1) + 7)=true:=by
        have:∀ k,k < 8→hiB.testBit (8 * k + 7)=true:=by decide
        exact this (k + 1) hk
      simp only [Nat.testBit_and,Nat.zero_testBit,h5,Bool.and_true,Nat.testBit_mul_two_pow] at h4;rw [Nat.add_sub_cancel_left,Nat.testBit_eq_decide_div_mod_eq] at h4;simp at h4;omega
    · exact wo_z s om h1 j om
theorem uZ (a p:Nat) (s:ByteArray):sdr a (sdr p s)=sdr (p + a) s:=C6 (by rw [Y3,Y3,Y3,List.drop_drop])
theorem asc8 {p:Nat} {s:ByteArray} (h:wo 7 (sdr p s) &&& hiB=0):∀ j,j < 8→gb s (p + j) < 128:=fun j hj=>by
  rw [← Zq];exact wo_z _ dE h j om
theorem asc16 {p:Nat} {s:ByteArray} (h:(wo 7 (sdr p s) ||| wo 7 (sdr 8 (sdr p s))) &&& hiB=0):∀ j,j < 16→gb s (p + j) < 128:=fun j hj=>by
  obtain⟨h1,h2⟩:=N8 h
  rw [uZ] at h2
  by_cases e:j < 8
  · exact asc8 h1 j e
  · have:=asc8 h2 (j - 8) om
    rwa [show p + 8 + (j - 8)=p + j by omega] at this
theorem asc32 {p:Nat} {s:ByteArray} (h:((wo 7 (sdr p s) ||| wo 7 (sdr 8 (sdr p s))) ||| (wo 7 (sdr 16 (sdr p s)) ||| wo 7 (sdr 24 (sdr p s)))) &&& hiB=0):∀ j,j < 32→gb s (p + j) < 128:=fun j hj=>by
  obtain⟨h1,h2⟩:=N8 h
  by_cases e:j < 16
  · exact asc16 h1 j e
  · have h3:(wo 7 (sdr (p + 16) s) ||| wo 7 (sdr 8 (sdr (p + 16) s))) &&& hiB=0:=by
      rw [uZ,uZ] at h2;rw [uZ];exact h2
    have:=asc16 h3 (j - 16) om
    rwa [show p + 16 + (j - 16)=p + j by omega] at this
def U8In (w:World):Prop:=(1 < w.heap.size∧∀ k,k < 256→w.cell? ⟨1,0 + k * 1,none⟩=some (.int .u8 ((Lib.firstT k:Nat):Int)))∧2 < w.heap.size∧∀ k,k < 16→w.rangeAt 2 (0 + k * 2) [.int .u8 ((Lib.accLo k:Nat):Int),.int .u8 ((Lib.accHi k:Nat):Int)]
theorem U8In.mono {w w':World} (h:U8In w) (hb:Bel w w'):U8In w':=⟨⟨nLL h.1.1 hb.size,fun k hk=>hb.cell h.1.1 (h.1.2 k hk)⟩,nLL h.2.1 hb.size,fun k hk=>hb.range h.2.1 (h.2.2 k hk)⟩
def CH:ByteArray:=⟨#[32,9,10,40,41,91,93,44,59]⟩
theorem HY:∀ i,i < 9→gb CH i < 128:=by decide +kernel
theorem ch_ix:∀ c,c < 256→decide (0≤Lib.indexByte (bl CH) c.toUInt8)=spc c:=by decide +kernel
def chs (k x:Nat):Bool:=(List.range k).any (fun j=>decide (gb CH j=x))
theorem chs_all:∀ x,x < 256→chs 9 x=spc x:=by decide +kernel
theorem chs_step (k x:Nat):chs (k + 1) x=if x=gb CH k then true else chs k x:=by
  unfold chs;rw [List.range_succ,List.any_append];by_cases h:x=gb CH k
  · simp [h]
  · simp [h,Ne.symm h]
theorem run_ixb {P:Program} {F:FuncId} {fn:Func} {s:ByteArray} {c:Int} {w:World} (hf:P.funcs[F]? =some fn) (hname:(fn.name == "runtime.NumGoroutine")=false) (hb:fn.body.isNone=true) (hn:Extern.findNext fn=none) (he:Extern.find fn=some Extern.BytealgIndexByte.indexByte):
    (callFunc F #[.string s,.int .u8 c]).run P w= .ok (.value (.int .i64 (Lib.indexByte (bl s) c.toNat.toUInt8))) w:=by
  rw [run_callFunc_extern hf hname hb hn he,Lib.run_indexByteString];rfl
theorem ixb_none {l:List UInt8} {c:UInt8} (h:¬c ∈ l):Lib.indexByte l c < 0:=by
  by_cases e:Lib.indexByte l c < 0
  · exact e
  · obtain⟨m,hm⟩:∃ m:Nat,Lib.indexByte l c=m:=⟨(Lib.indexByte l c).toNat,by omega⟩
    obtain⟨_,_,h3⟩:=Hw hm;exact absurd (by rw [h3];simp) h
theorem enc_hi {r:Nat} (h:128≤r):2≤(Utf8.encode (r:Int)).size∧(Utf8.encode (r:Int)).size≤4∧∀ i,i < (Utf8.encode (r:Int)).size→128≤gb (Utf8.encode (r:Int)) i:=by
  have key:∀ c:Nat,128≤c→c≤1114111→∀ e:ByteArray,e=(if c < 0x80 then ⟨#[UInt8.ofNat c]⟩ else if c < 0x800 then ⟨#[UInt8.ofNat (0xC0 + c / 64),UInt8.ofNat (0x80 + c % 64)]⟩ else if c < 0x10000 then ⟨#[UInt8.ofNat (0xE0 + c / 4096),UInt8.ofNat (0x80 + c / 64 % 64),UInt8.ofNat (0x80 + c % 64)]⟩ else ⟨#[UInt8.ofNat (0xF0 + c / 262144),UInt8.ofNat (0x80 + c / 4096 % 64),UInt8.ofNat (0x80 + c / 64 % 64),UInt8.ofNat (0x80 + c % 64)]⟩)→2≤e.size∧e.size≤4∧∀ i,i < e.size→128≤gb e i:=by
    intro c h1 h2 e he;have u8:∀ n:Nat,128≤n→n < 256→128≤(UInt8.ofNat n).toNat:=fun n a b=>by rw [UInt8.toNat_ofNat_of_lt' (by exact b)];exact a
    rw [if_neg om] at he
    split at he
    · subst he
      refine⟨Nat.le_refl _,by show 2≤4;decide,fun i hi=>?_⟩
      match i,hi with
      | 0,_=>exact u8 _ om om
      | 1,_=>exact u8 _ om om
    · split at he
      · subst he
        refine⟨by show 2≤3;decide,by show 3≤4;decide,fun i hi=>?_⟩
        match i,hi with
        | 0,_=>exact u8 _ om om
        | 1,_=>exact u8 _ om om
        | 2,_=>exact u8 _ om om
      · subst he
        refine⟨by show 2≤4;decide,Nat.le_refl _,fun i hi=>?_⟩
        match i,hi with
        | 0,_=>exact u8 _ om om
        | 1,_=>exact u8 _ om om
        | 2,_=>exact u8 _ om om
        | 3,_=>exact u8 _ om om
  refine key (if Utf8.valid (r:Int) then (r:Int).toNat else Utf8.runeError) ?_ ?_ _ rfl
  · split
    · exact h
    · decide
  · split
    · rename_i hv
      unfold Utf8.valid at hv;simp at hv;omega
    · decide
def Hd (b n:Nat) (v l:Int):Prop:=(194≤b∧b≤223∧n=2∧v=(b:Int) - 192∧l=128)∨(224≤b∧b≤239∧n=3∧v=(b:Int) - 224∧l=2048)∨(240≤b∧b≤244∧n=4∧v=(b:Int) - 240∧l=65536)
def vv (x:ByteArray) (v:Int):Nat→Int
  | 0=>v
  | k + 1=>64 * vv x v k + gb x (k + 1) - 128
def Jk (x:ByteArray):Int:=if gK x 0=true then ((wdt x 0:Nat):Int) else 0
theorem rlen_low {x:ByteArray} (h:gb x 0 < 128):Jk x=1:=by
  unfold Jk gK;rw [decide_eq_true h,(Vk h).1];rfl
theorem rlen_no {x:ByteArray} (h:128≤gb x 0) (hn:¬(194≤gb x 0∧gb x 0≤244)):Jk x=0:=by
  have h0:=kz x 0;have:wdt x 0=1:=by
    unfold wdt;rw [ow];unfold Lib.decodeN
    repeat' split
    all_goals first | rfl | (exfalso;omega) | (simp only;omega)
  unfold Jk gK;rw [this,decide_eq_false om];rfl
theorem O5 {x:ByteArray} {n:Nat} (h:128≤gb x 0) (hn:2≤n) (h1:wdt x 0=n):Jk x=n:=by
  unfold Jk gK;rw [h1,decide_eq_true hn,Bool.or_true];rfl
theorem RJ {x:ByteArray} (h:128≤gb x 0) (h1:wdt x 0=1):Jk x=0:=by
  unfold Jk gK;rw [h1,decide_eq_false om];rfl
theorem hd_rl {x:ByteArray} {n:Nat} {v l:Int} (hd:Hd (gb x 0) n v l):(n≤x.size→(∀ j,1≤j→j < n→128≤gb x j∧gb x j≤191)→¬(vv x v (n - 1) < l∨1114111 < vv x v (n - 1)∨(55296≤vv x v (n - 1)∧vv x v (n - 1)≤57343))→Jk x=n)∧((x.size < n∨(∃ j,1≤j∧j < n∧¬(128≤gb x j∧gb x j≤191))∨(vv x v (n - 1) < l∨1114111 < vv x v (n - 1)∨(55296≤vv x v (n - 1)∧vv x v (n - 1)≤57343))∧(∀ j,1≤j→j < n→128≤gb x j∧gb x j≤191))→Jk x=0):=by
  have b1:=kz x 1;have b2:=kz x 2;have b3:=kz x 3;rcases hd with ⟨h1,h2,rfl,rfl,rfl⟩ | ⟨h1,h2,rfl,rfl,rfl⟩ | ⟨h1,h2,rfl,rfl,rfl⟩
  · refine⟨fun hs hj hz=>O5 om om ?_,fun hs=>RJ om ?_⟩
    · have q1:=hj 1 om om
      simp only [vv,Nat.zero_add,Nat.reduceAdd,Nat.add_one_sub_one,Nat.reduceSub] at hz;unfold wdt;rw [ow];simp only [Nat.zero_add,Nat.sub_zero];unfold Lib.decodeN
      repeat' split
      all_goals first | rfl | (exfalso;omega)
    · have hs2:x.size < 2∨¬(128≤gb x 1∧gb x 1≤191)∨((64 * ((gb x 0:Int) - 192) + gb x 1 - 128 < 128∨1114111 < 64 * ((gb x 0:Int) - 192) + gb x 1 - 128∨(55296≤64 * ((gb x 0:Int) - 192) + gb x 1 - 128∧64 * ((gb x 0:Int) - 192) + gb x 1 - 128≤57343))∧128≤gb x 1∧gb x 1≤191):=by
        rcases hs with h | ⟨j,p1,p2,p3⟩ | ⟨hz,hj⟩
        · exact .inl h
        · obtain rfl:j=1:=by omega
          exact .inr (.inl p3)
        · exact .inr (.inr ⟨hz,hj 1 om om⟩)
      unfold wdt;rw [ow];simp only [Nat.zero_add,Nat.sub_zero];unfold Lib.decodeN
      repeat' split
      all_goals first | rfl | (exfalso;omega)
  · refine⟨fun hs hj hz=>O5 om om ?_,fun hs=>RJ om ?_⟩
    · have q1:=hj 1 om om
      have q2:=hj 2 om om;simp only [vv,Nat.zero_add,Nat.reduceAdd,Nat.add_one_sub_one,Nat.reduceSub] at hz;unfold wdt;rw [ow];simp only [Nat.zero_add,Nat.sub_zero];unfold Lib.decodeN
      repeat' split
      all_goals first | rfl | (exfalso;omega)
    · have hs2:x.size < 3∨¬(128≤gb x 1∧gb x 1≤191)∨¬(128≤gb x 2∧gb x 2≤191)∨((vv x ((gb x 0:Int) - 224) 2 < 2048∨1114111 < vv x ((gb x 0:Int) - 224) 2∨(55296≤vv x ((gb x 0:Int) - 224) 2∧vv x ((gb x 0:Int) - 224) 2≤57343))∧(128≤gb x 1∧gb x 1≤191)∧128≤gb x 2∧gb x 2≤191):=by
        rcases hs with h | ⟨j,p1,p2,p3⟩ | ⟨hz,hj⟩
        · exact .inl h
        · have:j=1∨j=2:=by omega
          rcases this with rfl | rfl
          · exact .inr (.inl p3)
          · exact .inr (.inr (.inl p3))
        · exact .inr (.inr (.inr ⟨hz,hj 1 om om,hj 2 om om⟩))
      simp only [vv,Nat.zero_add,Nat.reduceAdd,Nat.reduceSub] at hs2;unfold wdt;rw [ow];simp only [Nat.zero_add,Nat.sub_zero];unfold Lib.decodeN
      repeat' split
      all_goals first | rfl | (exfalso;omega)
  · refine⟨fun hs hj hz=>O5 om om ?_,fun hs=>RJ om ?_⟩
    · have q1:=hj 1 om om
      have q2:=hj 2 om om;have q3:=hj 3 om om;simp only [vv,Nat.zero_add,Nat.reduceAdd,Nat.add_one_sub_one,Nat.reduceSub] at hz;unfold wdt;rw [ow];simp only [Nat.zero_add,Nat.sub_zero];unfold Lib.decodeN
      repeat' split
      all_goals first | rfl | (exfalso;omega)
    · have hs2:x.size < 4∨¬(128≤gb x 1∧gb x 1≤191)∨¬(128≤gb x 2∧gb x 2≤191)∨¬(128≤gb x 3∧gb x 3≤191)∨((vv x ((gb x 0:Int) - 240) 3 < 65536∨1114111 < vv x ((gb x 0:Int) - 240) 3∨(55296≤vv x ((gb x 0:Int) - 240) 3∧vv x ((gb x 0:Int) - 240) 3≤57343))∧(128≤gb x 1∧gb x 1≤191)∧(128≤gb x 2∧gb x 2≤191)∧128≤gb x 3∧gb x 3≤191):=by
        rcases hs with h | ⟨j,p1,p2,p3⟩ | ⟨hz,hj⟩
        · exact .inl h
        · have:j=1∨j=2∨j=3:=by omega
          rcases this with rfl | rfl | rfl
          · exact .inr (.inl p3)
          · exact .inr (.inr (.inl p3))
          · exact .inr (.inr (.inr (.inl p3)))
        · exact .inr (.inr (.inr (.inr ⟨hz,hj 1 om om,hj 2 om om,hj 3 om om⟩)))
      simp only [vv,Nat.zero_add,Nat.reduceAdd,Nat.reduceSub] at hs2;unfold wdt;rw [ow];simp only [Nat.zero_add,Nat.sub_zero];unfold Lib.decodeN
      repeat' split
      all_goals first | rfl | (exfalso;omega)
theorem W6 (p:Nat) (s:ByteArray):wdt (sdr p s) 0=wdt s p:=by
  unfold wdt;rw [ow,ow,Zq,Zq,Zq,Zq,y5];rfl
theorem rlen_sdr (p:Nat) (s:ByteArray):Jk (sdr p s)=if gK s p=true then ((wdt s p:Nat):Int) else 0:=by
  have e:gK (sdr p s) 0=gK s p:=by unfold gK;rw [W6,Zq];rfl
  unfold Jk;rw [e,W6]
theorem H1 (c:Nat):spc c=true ↔ (c=32∨c=9∨c=10∨c=40∨c=41∨c=91∨c=93∨c=44∨c=59):=by
  unfold spc;simp only [Bool.or_eq_true,decide_eq_true_eq];omega
end Go.Proofs.YtdkfnakncaggoaaGreatDoor
namespace Go.Proofs.YtdkfnakncaggoaaGreatDoor
open Go.RowKit
structure Rl where
  name:ByteArray
  gr:List Nd
  kids:Int
  wt:Int
  mean:Tm
structure Lx where
  word:ByteArray
  gr:List Nd
  wt:Int
  mean:Tm
def RlIn (w:World) (b o:Nat) (r:Rl):Prop:=∃ G cg S cs B m,w.rangeAt b o [.string r.name,.slice G r.gr.length cg,.int .i64 r.kids,.int .i64 r.wt,.int .i64 r.mean.kind,.string r.mean.name,.int .i64 r.mean.index,.string r.mean.type.base,.slice S r.mean.type.args.length cs,.slice B r.mean.args.length m]∧NodesIn w G r.gr∧SimsIn w S r.mean.type.args∧TmsIn w B r.mean.args
def RulesIn (w:World) (A:Option Addr) (l:List Rl):Prop:=
  l.length≤yJ∧(l≠[]→∃ b o,A=some ⟨b,o,none⟩∧b < w.heap.size∧∀ k (h:k < l.length),RlIn w b (o + k * 10) l[k])
def LxIn (w:World) (b o:Nat) (r:Lx):Prop:=r.word.size < 9223372036854775807∧∃ G cg S cs B m,w.rangeAt b o [.string r.word,.slice G r.gr.length cg,.int .i64 r.wt,.int .i64 r.mean.kind,.string r.mean.name,.int .i64 r.mean.index,.string r.mean.type.base,.slice S r.mean.type.args.length cs,.slice B r.mean.args.length m]∧NodesIn w G r.gr∧SimsIn w S r.mean.type.args∧TmsIn w B r.mean.args
def LexesIn (w:World) (A:Option Addr) (l:List Lx):Prop:=
  l.length≤yJ∧(l≠[]→∃ b o,A=some ⟨b,o,none⟩∧b < w.heap.size∧∀ k (h:k < l.length),LxIn w b (o + k * 9) l[k])
theorem RlIn.mono {w w':World} {b o:Nat} {r:Rl} (h:RlIn w b o r) (hb:Bel w w') (hl:b < w.heap.size):RlIn w' b o r:=by
  obtain⟨G,cg,S,cs,B,m,h1,h2,h3,h4⟩:=h;exact⟨G,cg,S,cs,B,m,hb.range hl h1,h2.mono hb,h3.mono hb,h4.mono hb⟩
theorem LxIn.mono {w w':World} {b o:Nat} {r:Lx} (h:LxIn w b o r) (hb:Bel w w') (hl:b < w.heap.size):LxIn w' b o r:=by
  obtain⟨h0,G,cg,S,cs,B,m,h1,h2,h3,h4⟩:=h;exact⟨h0,G,cg,S,cs,B,m,hb.range hl h1,h2.mono hb,h3.mono hb,h4.mono hb⟩
theorem RulesIn.mono {w w':World} {A:Option Addr} {l:List Rl} (h:RulesIn w A l) (hb:Bel w w'):RulesIn w' A l:=
  ⟨h.1,fun hn=>by
    obtain⟨b,o,e,hl,hc⟩:=h.2 hn
    exact⟨b,o,e,nLL hl hb.size,fun k hk=>(hc k hk).mono hb hl⟩⟩
theorem LexesIn.mono {w w':World} {A:Option Addr} {l:List Lx} (h:LexesIn w A l) (hb:Bel w w'):LexesIn w' A l:=
  ⟨h.1,fun hn=>by
    obtain⟨b,o,e,hl,hc⟩:=h.2 hn
    exact⟨b,o,e,nLL hl hb.size,fun k hk=>(hc k hk).mono hb hl⟩⟩
theorem RulesIn.at_ {w w':World} {A:Option Addr} {l:List Rl} (h:RulesIn w A l) (hb:Bel w w') {k:Nat} (hk:k < l.length):
    ∃ b o G cg S cs B m,A=some ⟨b,o,none⟩∧b < w.heap.size∧w'.rangeAt b (o + k * 10) [Value.string (l[k]).name,.slice G (l[k]).gr.length cg,.int .i64 (l[k]).kids,.int .i64 (l[k]).wt,.int .i64 (l[k]).mean.kind,.string (l[k]).mean.name,.int .i64 (l[k]).mean.index,.string (l[k]).mean.type.base,.slice S (l[k]).mean.type.args.length cs,.slice B (l[k]).mean.args.length m]∧NodesIn w G (l[k]).gr∧SimsIn w S (l[k]).mean.type.args∧TmsIn w B (l[k]).mean.args:=by
  obtain⟨b,o,e,hl,hc⟩:=h.2 (by rintro rfl;simp at hk);obtain⟨G,cg,S,cs,B,m,h1,h2,h3,h4⟩:=hc k hk;exact⟨b,o,G,cg,S,cs,B,m,e,hl,hb.range hl h1,h2,h3,h4⟩
theorem LexesIn.at_ {w w':World} {A:Option Addr} {l:List Lx} (h:LexesIn w A l) (hb:Bel w w') {k:Nat} (hk:k < l.length):
    ∃ b o G cg S cs B m,A=some ⟨b,o,none⟩∧b < w.heap.size∧(l[k]).word.size < 9223372036854775807∧w'.rangeAt b (o + k * 9) [Value.string (l[k]).word,.slice G (l[k]).gr.length cg,.int .i64 (l[k]).wt,.int .i64 (l[k]).mean.kind,.string (l[k]).mean.name,.int .i64 (l[k]).mean.index,.string (l[k]).mean.type.base,.slice S (l[k]).mean.type.args.length cs,.slice B (l[k]).mean.args.length m]∧NodesIn w G (l[k]).gr∧SimsIn w S (l[k]).mean.type.args∧TmsIn w B (l[k]).mean.args:=by
  obtain⟨b,o,e,hl,hc⟩:=h.2 (by rintro rfl;simp at hk);obtain⟨h0,G,cg,S,cs,B,m,h1,h2,h3,h4⟩:=hc k hk;exact⟨b,o,G,cg,S,cs,B,m,e,hl,h0,hb.range hl h1,h2,h3,h4⟩
def plN (g:List Nd) (k:Int) (f:Nat):Bool:=decide ((0:Int)≤tgt (Sz g 0).ln (f:Int)) == decide ((f:Int)≤k)
def oQ (g:List Nd) (k:Int):Bool:=(List.range 4).all (plN g k)
theorem nd_zero {g:List Nd} (h:0 < g.length):Sz g 0=g[0]:=by simp [Sz,List.getD,h]
theorem pl_yes {g:List Nd} {k:Int} (h:∀ f,f < 4→plN g k f=true):oQ g k=true:=List.all_eq_true.2 fun f hf=>h f (List.mem_range.1 hf)
theorem pl_no {g:List Nd} {k:Int} {f:Nat} (hf:f < 4) (h:plN g k f=false):oQ g k=false:=by
  cases e:oQ g k with
  | false=>rfl
  | true=>rw [List.all_eq_true.1 e f (List.mem_range.2 hf)] at h;cases h
theorem OW {g:List Nd} {k:Int} {f:Nat} (h:0 < g.length):plN g k f=(decide ((0:Int)≤tgt (g[0]).ln (f:Int)) == decide ((f:Int)≤k)):=by unfold plN;rw [nd_zero h]
def XJ (r:Rl):Prop:=r.kids < 1∨3 < r.kids∨r.wt < 0∨1000000 < r.wt
instance (r:Rl):Decidable (XJ r):=by unfold XJ;infer_instance
noncomputable def QQ (l:List Ty) (fs:List Ft) (r:Rl):Int:=if XJ r then 3 else if (y9 l fs r.gr).1≠0 then (y9 l fs r.gr).1 else if oQ r.gr r.kids=true then (tmF r.mean).1 else 5
theorem RK {l:List Ty} {fs:List Ft} {r:Rl} (h:XJ r):QQ l fs r=3:=if_pos h
theorem rl_gr {l:List Ty} {fs:List Ft} {r:Rl} (h:¬XJ r) (h2:¬(y9 l fs r.gr).1=0):QQ l fs r=(y9 l fs r.gr).1:=by unfold QQ;rw [if_neg h,if_pos h2]
theorem rl_pl {l:List Ty} {fs:List Ft} {r:Rl} (h:¬XJ r) (h2:(y9 l fs r.gr).1=0) (h3:oQ r.gr r.kids=false):QQ l fs r=5:=by unfold QQ;rw [if_neg h,if_neg (fun e=>e h2),h3];rfl
theorem rl_ok {l:List Ty} {fs:List Ft} {r:Rl} (h:¬XJ r) (h2:(y9 l fs r.gr).1=0) (h3:oQ r.gr r.kids=true):QQ l fs r=(tmF r.mean).1:=by unfold QQ;rw [if_neg h,if_neg (fun e=>e h2),if_pos h3]
def JV (r:Lx):Prop:=r.wt < 0∨1000000 < r.wt
instance (r:Lx):Decidable (JV r):=by unfold JV;infer_instance
noncomputable def Iv (l:List Ty) (fs:List Ft) (r:Lx):Int:=if jz r.word=false then 10 else if JV r then 3 else if (y9 l fs r.gr).1≠0 then (y9 l fs r.gr).1 else (tmF r.mean).1
theorem Dk {l:List Ty} {fs:List Ft} {r:Lx} (h:jz r.word=false):Iv l fs r=10:=if_pos h
theorem F6 {l:List Ty} {fs:List Ft} {r:Lx} (h0:jz r.word=true) (h:JV r):Iv l fs r=3:=by unfold Iv;rw [h0,if_neg dE,if_pos h]
theorem lx_gr {l:List Ty} {fs:List Ft} {r:Lx} (h0:jz r.word=true) (h:¬JV r) (h2:¬(y9 l fs r.gr).1=0):Iv l fs r=(y9 l fs r.gr).1:=by unfold Iv;rw [h0,if_neg dE,if_neg h,if_pos h2]
theorem lx_ok {l:List Ty} {fs:List Ft} {r:Lx} (h0:jz r.word=true) (h:¬JV r) (h2:(y9 l fs r.gr).1=0):Iv l fs r=(tmF r.mean).1:=by unfold Iv;rw [h0,if_neg dE,if_neg h,if_neg (fun e=>e h2)]
theorem M3 {l:List Ty} {fs:List Ft} {g:List Nd} (h:(y9 l fs g).1=0):(vw l.length fs.length g).1=0:=by
  by_cases h1:(vw l.length fs.length g).1=0
  · exact h1
  · rw [M4 h1] at h;exact h
noncomputable def kq (l:List Ty) (fs:List Ft) (rs:List Rl) (i:Nat):Int:=match rs[i]? with
  | none=>0
  | some r=>if y6 r.name=false then 10 else if j9 ((rs.take i).map (·.name)) r.name=true then 7 else QQ l fs r
noncomputable def YJ (l:List Ty) (fs:List Ft) (xs:List Lx) (i:Nat):Int:=match xs[i]? with
  | none=>0
  | some r=>Iv l fs r
theorem rn10 {l:List Ty} {fs:List Ft} {rs:List Rl} {i:Nat} (hi:i < rs.length) (h:y6 (rs[i]).name=false):kq l fs rs i=10:=by
  simp only [kq,List.getElem?_eq_getElem hi,if_pos h]
theorem rn7 {l:List Ty} {fs:List Ft} {rs:List Rl} {i:Nat} (hi:i < rs.length) (h:y6 (rs[i]).name=true) (h2:j9 ((rs.take i).map (·.name)) (rs[i]).name=true):kq l fs rs i=7:=by
  simp only [kq,List.getElem?_eq_getElem hi];rw [h,if_neg dE,if_pos h2]
theorem rnF {l:List Ty} {fs:List Ft} {rs:List Rl} {i:Nat} (hi:i < rs.length) (h:y6 (rs[i]).name=true) (h2:j9 ((rs.take i).map (·.name)) (rs[i]).name=false):kq l fs rs i=QQ l fs rs[i]:=by
  simp only [kq,List.getElem?_eq_getElem hi];rw [h,if_neg dE,h2,if_neg dE]
theorem lnF {l:List Ty} {fs:List Ft} {xs:List Lx} {i:Nat} (hi:i < xs.length):YJ l fs xs i=Iv l fs xs[i]:=by
  simp only [YJ,List.getElem?_eq_getElem hi]
noncomputable def x8 (l:List Ty) (fs:List Ft) (rs:List Rl) (xs:List Lx) (st:List Nd):Fl:=
  if (qY l fs).1≠0 then qY l fs else if fs.length≤3 then (9,-1) else if 40 < rs.length∨100 < xs.length then (2,-1)
  else if (qy (kq l fs rs) 0 rs.length).1≠0 then qy (kq l fs rs) 0 rs.length else if (qy (YJ l fs xs) 0 xs.length).1≠0 then qy (YJ l fs xs) 0 xs.length
  else if (y9 l fs st).1≠0 then ((y9 l fs st).1,-1) else (0,0)
variable {l:List Ty} {fs:List Ft} {rs:List Rl} {xs:List Lx} {st:List Nd}
theorem DW (h:¬(qY l fs).1=0):x8 l fs rs xs st=((qY l fs).1,(qY l fs).2):=if_pos h
theorem Fv (h:(qY l fs).1=0) (h2:fs.length≤3):x8 l fs rs xs st=(9,-1):=by unfold x8;rw [if_neg (fun e=>e h),if_pos h2]
theorem DV (h:(qY l fs).1=0) (h2:¬fs.length≤3) (h3:40 < rs.length∨100 < xs.length):x8 l fs rs xs st=(2,-1):=by unfold x8;rw [if_neg (fun e=>e h),if_neg h2,if_pos h3]
theorem Qx {c i:Int} (h:(qY l fs).1=0) (h2:¬fs.length≤3) (h3:¬(40 < rs.length∨100 < xs.length)) (h4:qy (kq l fs rs) 0 rs.length=(c,i)) (hc:c≠0):x8 l fs rs xs st=(c,i):=by
  unfold x8;rw [if_neg (fun e=>e h),if_neg h2,if_neg h3,h4,if_pos hc]
theorem Fk {c i:Int} (h:(qY l fs).1=0) (h2:¬fs.length≤3) (h3:¬(40 < rs.length∨100 < xs.length)) (h4:qy (kq l fs rs) 0 rs.length=(0,0)) (h5:qy (YJ l fs xs) 0 xs.length=(c,i)) (hc:c≠0):x8 l fs rs xs st=(c,i):=by
  unfold x8;rw [if_neg (fun e=>e h),if_neg h2,if_neg h3,h4,if_neg dE,h5,if_pos hc]
theorem SY (h:(qY l fs).1=0) (h2:¬fs.length≤3) (h3:¬(40 < rs.length∨100 < xs.length)) (h4:qy (kq l fs rs) 0 rs.length=(0,0)) (h5:qy (YJ l fs xs) 0 xs.length=(0,0)) (h6:¬(y9 l fs st).1=0):x8 l fs rs xs st=((y9 l fs st).1,-1):=by
  unfold x8;rw [if_neg (fun e=>e h),if_neg h2,if_neg h3,h4,if_neg dE,h5,if_neg dE,if_pos h6]
theorem gr_ok (h:(qY l fs).1=0) (h2:¬fs.length≤3) (h3:¬(40 < rs.length∨100 < xs.length)) (h4:qy (kq l fs rs) 0 rs.length=(0,0)) (h5:qy (YJ l fs xs) 0 xs.length=(0,0)) (h6:(y9 l fs st).1=0):x8 l fs rs xs st=(0,0):=by
  unfold x8;rw [if_neg (fun e=>e h),if_neg h2,if_neg h3,h4,if_neg dE,h5,if_neg dE,if_neg (fun e=>e h6)]
theorem rseen_yes {j k:Nat} {s:ByteArray} (hk:k < rs.length) (hj:j < k) (h:(rs[j]'om).name=s):j9 ((rs.take k).map (·.name)) s=true:=by
  simp only [j9,List.any_eq_true,decide_eq_true_eq,List.mem_map];refine⟨_,⟨rs[j]'om,?_,rfl⟩,h⟩;rw [List.mem_take_iff_getElem];exact⟨j,by omega,rfl⟩
theorem Ez (h:(qY l fs).1=0):fs.length≤40:=by
  unfold qY at h;by_cases h4:40 < fs.length
  · rw [if_pos h4] at h;cases h
  · omega
end Go.Proofs.YtdkfnakncaggoaaGreatDoor
