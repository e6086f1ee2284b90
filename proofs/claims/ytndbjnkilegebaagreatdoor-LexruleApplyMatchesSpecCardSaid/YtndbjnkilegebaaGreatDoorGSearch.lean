/- What these functions compute, at every world: cmp.isNaN[int], cmp.Compare[int], graph.Target$1, slices.BinarySearchFunc[[]api.Link,api.Link,int]; and plain laws. -/
import Derived.Test.YtndbjnkilegebaaGreatDoorGCan
import Derived.Test.YtndbjnkilegebaaGreatDoorGro
import Derived.Laws.CopyRow
import Derived.Laws.Externs
import Derived.Lib.Overlaps
import Derived.Lib.Builder
import Derived.Lib.AppendStr
import Derived.Lib.UnsafeStr
import Derived.Lib.Bytealg
import Derived.Laws.RangeAny
import Derived.Scope
import Derived.Lib.RuneCount
import Derived.Lib.DecodeNEq
import Derived.Test.YtndbjnkilegebaaGreatDoorSub
import Derived.Test.YtndbjnkilegebaaGreatDoorU
import Derived.Test.YtndbjnkilegebaaGreatDoorZst
namespace Go.Proofs.YtndbjnkilegebaaGreatDoor
open Go.RowKit Go.Proofs.Tryz
variable {A:Option Addr}{F:FuncId}{P:Program}{a a2 b c cap f h k m n o p sz:Nat}{cs:List Value}{cur:Array Value}{dst:Option Tmp}{fs:List Ft}{g:List Nd}{gd:Option (Nat×Bool)}{l:List Ty}{s x:ByteArray}{w w':World}
def tgt(xs:List (Int×Int))(f:Int):Int:=match xs.find? (fun y=>decide (y.1=f))with
 | some y=>y.2
 | none=>-1
theorem tgt_at{f:Int}:∀ {xs:List (Int×Int)} {i:Nat} (hi:i<xs.length),(xs[i]).1=f->(∀ j (hj:j<xs.length),j<i->¬(xs[j]).1=f)->tgt xs f=(xs[i]).2
 | [],_,hi,_,_=>absurd hi (by simp)
 | x::xs,0,_,h,_=>by
  have h1:x.1=f:=h
  unfold tgt
  grind
 | x::xs,i+1,hi,h,hb=>by
  have h0:¬x.1=f:=hb 0 (by simp) oG
  have ih:=tgt_at (xs:=xs) (i:=i) (by simpa using hi) h (fun j hj hji=>hb (j+1) (by simpa using hj) oG)
  unfold tgt at ih ⊢
  grind
theorem tgt_no{f:Int}:∀ {xs:List (Int×Int)},(∀ j (hj:j<xs.length),¬(xs[j]).1=f)->tgt xs f= -1
 | [],_=>rfl
 | x::xs,h=>by
  have h0:¬x.1=f:=h 0 (by simp)
  have ih:=tgt_no (xs:=xs) (f:=f) (fun j hj=>h (j+1) (by simpa using hj))
  unfold tgt at ih ⊢
  grind
theorem Mj{nf n:Nat}:∀ {xs:List (Int×Int)} {a1:Int},yJ nf n a1 xs=0->(∀ j (hj:j<xs.length),a1<(xs[j]).1)/\∀ i j (hi:i<xs.length) (hj:j<xs.length),i<j->(xs[i]).1<(xs[j]).1
 | [],_,_=>⟨fun j hj=>absurd hj (by simp),fun i j hi=>absurd hi (by simp)⟩
 | y::ys,a1,h=>by
  unfold yJ at h
  by_cases h1:oZ nf n y
  ·grind
  rw[if_neg h1]at h
  by_cases h2:y.1<=a1
  ·omega
  rw[if_neg h2]at h
  obtain⟨ih1,ih2⟩:=Mj h
  refine⟨fun j hj=>?_,fun i j hi hj hij=>?_⟩
  ·match j,hj with
   | 0,_=>show a1<y.1;omega
   | j+1,hj=>
    have:=ih1 j (by simpa using hj)
    show a1<(ys[j]'(by simpa using hj)).1
    omega
  ·match i,j,hi,hj,hij with
   | 0,j+1,_,hj,_=>exact ih1 j (by simpa using hj)
   | i+1,j+1,hi,hj,hij=>exact ih2 i j (by simpa using hi) (by simpa using hj) oG
theorem tgt_bs{nf:Nat}{xs:List (Int×Int)}{a1 f:Int}{i:Nat}(hs:yJ nf n a1 xs=0)(hlo:∀ j (hj:j<xs.length),j<i->(xs[j]).1<f)(hhi:∀ j (hj:j<xs.length),i<=j->f<=(xs[j]).1):
  (∀ h:i<xs.length,(xs[i]).1=f->tgt xs f=(xs[i]).2)/\((¬∃ h:i<xs.length,(xs[i]).1=f)->tgt xs f= -1):=by
 refine⟨fun h e=>tgt_at h e (fun j hj hji=>by have:=hlo j hj hji;omega),fun hn=>tgt_no (fun j hj e=>?_)⟩;by_cases h1:j<i
 ·grind
 ·by_cases h2:j=i
  ·grind
  ·have h3:=(Mj hs).2 i j oG hj oG
   grind
theorem tgt_mem{xs:List (Int×Int)}{f:Int}:tgt xs f= -1\/∃ y∈xs,y.1=f/\tgt xs f=y.2:=by
 unfold tgt
 grind
def walkT(g:List Nd):List Int->Int->Int
 | [],a=>a
 | f::p,a=>if a<0 then a else walkT g p (tgt (nd g a.toNat).ln f)
def pF(nf:Nat)(p:List Int)(i:Nat):Int:=match p[i]? with
 | none=>0
 | some x=>if x<0\/(nf:Int)<=x then 3 else 0
noncomputable def atF(l:List Ty)(fs:List Ft)(g:List Nd)(p:List Int):Fl:=if ¬(gj l fs g).1=0 then gj l fs g else if 300<p.length then (2,-3)else yX (pF fs.length p) 0 p.length
def AtOk(l:List Ty)(fs:List Ft)(g:List Nd)(p:List Int):Prop:=(atF l fs g p).1=0/\0<=walkT g p 0
noncomputable instance(l:List Ty)(fs:List Ft)(g:List Nd)(p:List Int):Decidable (AtOk l fs g p):=Classical.propDecidable _
section
section six
variable {P:Program} {Q:Exit->Act->World->Prop} {n:Nw} {f:Fr} {w:World} {ops:Array Oper} {rest:List Oper} {d:Tmp} {ty t e:TypeId} {pos:String} {af:Array Edge} {x y:Operand} {v:Value}
def cpy(cur:Array Value)(o:Nat)(cs:List Value):Array Value:=(cur.toList.take o++cs++cur.toList.drop (o+cs.length)).toArray
theorem X5(h:o+cs.length<=cur.size):(cpy cur o cs).size=cur.size:=by
 unfold cpy;simp only[List.size_toArray,List.length_append,List.length_take,List.length_drop,Array.length_toList];omega
theorem run_copyC{g dCap a1 sCap:Nat}{a:Addr}{e' sT:TypeId}(hu:P.underlying t=some (.slice e))(hs:(P.info? e).map (·.size)=some sz)
  (hg:Blk w g e' cur) (hn:Nat.min a1 a2=m) (hl:cs.length=m*sz) (a3:∀ j v,cs[j]? =some v->w.cell? (a.add j)=some v) (a4:o+cs.length<=cur.size) (h1:∀ v∈cs,v.oneCell'=true):
  (Builtin.copy_ #[t,sT] ty #[.slice (some ⟨g,o,none⟩) a2 dCap,.slice (some a) a1 sCap]).run P w= .ok (goInt m) (w.setRow g (cpy cur o cs)):=by
 have hld:=run_loadCells_list (P:=P) w a cs a3;have hst:=run_storeCells_at P g o e' cs 0 cur w hg (by simpa using a4) h1;cases hq:P.info? e with
 | none=>simp[hq]at hs
 | some i=>
  have hi:i.size=sz:=by simpa[hq]using hs
  simp[Builtin.copy_,run_underlying hu,Builtin.lenOf,Builtin.firstCells,sizeOf,typeInfo,hq,hi,hn,<- hl,hld,hst,cpy]
theorem wl_cp{g dCap a1 sCap:Nat}{a:Addr}{e':TypeId}(hu:P.underlying t=some (.slice e))(hs:(P.info? e).map (·.size)=some sz)(hx:ev n f x= .slice (some ⟨g,o,none⟩) a2 dCap)(hy:ev n f y= .slice (some a) a1 sCap)
  (hg:Blk w g e' cur) (hn:Nat.min a1 a2=m) (hl:cs.length=m*sz) (a3:∀ j v,cs[j]? =some v->w.cell? (a.add j)=some v) (a4:o+cs.length<=cur.size) (h1:∀ v∈cs,v.oneCell'=true)
  (K:∀ w1,Blk w1 g e' (cpy cur o cs)->Same [g] w w1->WL P ops Q rest n (upd f d (goInt m)) w1):
  WL P ops Q (⟨some d,.call { callee:= .builtin .copy,args:=#[x,y],argTypes:=#[t,t] },ty,pos,af,none⟩::rest) n f w:=by
 have hr:=run_copyC (P:=P) (ty:=ty) (sT:=t) (dCap:=dCap) (sCap:=sCap) hu hs hg hn hl a3 a4 h1;refine wl (v:=goInt m) (w':=w.setRow g (cpy cur o cs)) ?_ (K _ (setRow_heap w g cur _ e' _ hg) (D3 w g _));simp only[RV,execOp,resolve,invoke,builtin,Sem.run_bind,Sem.run_pure,Result.andThen_ok,List.map_toArray,List.map_cons,List.map_nil,hx,hy,hr]
theorem wl_appZ2{tn:TypeId}{zv:Value}{g:Nat}{olds:List Value}(hu:P.underlying t=some (.slice e))(hn:P.underlying tn=some (.int .i64))(hi:(P.info? e).map (fun i=>(i.zero,i.size,i.bytes))=some (some zv,sz,a2))(h0:0<k)(hs:0<sz)(a1:cap<m+k)(hb:(m+k)*a2<=140737488355328)(h63:m+k<=4611686018427387904)
  (hx:ev n f x= .slice (some ⟨g,0,none⟩) m cap) (hy:ev n f y= .int .i64 (k:Int)) (hl:olds.length=m*sz) (a3:∀ j v,olds[j]? =some v->w.cell? ⟨g,j,none⟩=some v)
  (K:∀ b cap' w1,Blk w1 b e (olds.toArray++Builtin.zeroCells zv.cells k++Builtin.zeroCells zv.cells (cap'-(m+k)))->Same [] w w1->w.heap.size<=b->m+k<=cap'->cap'<=9223372036854775807->WL P ops Q rest n (upd f d (.slice (some ⟨b,0,none⟩) (m+k) cap')) w1):
  WL P ops Q (⟨some d,.call { callee:= .builtin .append,args:=#[x,y],argTypes:=#[t,tn] },ty,pos,af,none⟩::rest) n f w:=by
 obtain⟨i,hq,hzz⟩:=aT.1 hi;simp only[Prod.mk.injEq]at hzz;obtain⟨z1,z2,z3⟩:=hzz
 have hld:=run_loadCells_list (P:=P) w.drew ⟨g,0,none⟩ olds (fun j v hj=>by
  rw[Addr.add_mid,Nat.zero_add];exact a3 j v hj)
 have a4:(Builtin.firstCells i.size m (.slice (some ⟨g,0,none⟩) m cap)).run P w.drew= .ok olds.toArray w.drew:=by
  simp only[Builtin.firstCells,z2,<- hl,hld]
 have a5:=growslice_fits (need:=m+k) (old:=cap) (bytes:=i.bytes) a1 (by rw[z3];exact hb);have hkb:k*a2<=(m+k)*a2:=aV _ (Nat.le_add_left _ _);have hr:=Lib.run_append_grow_zeros w t tn ty e i zv .i64 .i64 hu hn hq z1 (some ⟨g,0,none⟩) m cap olds a4 k h0 oG a1 oG (by rw[z3];omega) a5;have hge:=grownCap_ge w (m+k) cap e;have hle:=grownCap_le_maxLen w (m+k) cap e (by unfold maxLen;omega)
 generalize grownCap w (m+k) cap e=C at hr hge hle
 refine wl (v:= .slice (some ⟨w.heap.size,0,none⟩) (m+k) C) (w':=w.drew.alloc (.cells (olds.toArray++Builtin.zeroCells zv.cells k++Builtin.zeroCells zv.cells (C-(m+k))) e)) ?_ (K _ _ _ ?_ ?_ (ai _) hge (by unfold maxLen at hle;omega))
 ·simp only[RV,execOp,resolve,invoke,builtin,Sem.run_bind,Sem.run_pure,Result.andThen_ok,List.map_toArray,List.map_cons,List.map_nil,hx,hy,hr]
 ·exact heap_alloc_new w.drew _
 ·have hd:Same [] w w.drew:=⟨rfl,rfl,rfl,ai _,fun _ _ _=>rfl⟩
  exact hd.trans (o6 w.drew _)
theorem r_ext{xs:Array Operand}{ats:Array TypeId}{args:List Value}{dst:Option Nat}(h:(callFunc F args.toArray).run P w= .ok (.value v) w)(a1:xs.toList.map (ev n f)=args):
  RV P n f w ⟨dst,.call { callee:= .value (.func F),args:=xs,argTypes:=ats },ty,pos,af,gd⟩ v w:=by
 subst a1;have hm:(xs.toList.map (ev n f)).toArray=xs.map (ev n f):=by rw[<- Array.toList_map,Array.toArray_toList]
 rw[hm]at h;simp[RV,execOp,resolve,ev,Deferred.ofValue,invoke,h]
theorem RQ{cs:Array Value}(h:Blk w b t cs):w.shape? b=some (t,cs.size):=by
 unfold Blk at h;simp[World.shape?,h]
theorem SJ{cs:Array Value}(h:Blk w b t cs):w.frozen? ⟨b,o,none⟩=false:=by
 unfold Blk at h;simp[World.frozen?,h]
theorem run_apart{fn:Func}{tR tA tB:TypeId}{la ca lb cb oa ob:Nat}{ka kb:Array Value}(hf:P.funcs[F]? =some fn)(a1:(fn.name == "runtime.NumGoroutine")=false)(hb:fn.body.isNone=true)(hn:Extern.findNext fn=none)(he:Extern.find fn=some (Extern.SlicesOverlaps.overlaps #[t,t] #[tR]))
  (hu:P.underlying t=some (.slice e)) (hz:(P.info? e).map (·.size)=some sz) (ha:Blk w a tA ka) (hb2:Blk w b tB kb) (hne:a≠b) (hk:kb.size≠0):
  (callFunc F #[.slice (some ⟨a,oa,none⟩) la ca,.slice (some ⟨b,ob,none⟩) lb cb]).run P w= .ok (.value (.bool false)) w:=by
 have hsz:∀ w,(Go.sizeOf e).run P w= .ok sz w:=fun w=>by
  cases hq:P.info? e with
  | none=>simp[hq]at hz
  | some i=>
   have hi:i.size=sz:=by simpa[hq]using hz
   simp[Go.sizeOf,typeInfo,hq,hi]
 rw[run_callFunc_extern hf a1 hb hn he,Lib.run_overlaps_apart w t tR e hu sz hsz ⟨a,oa,none⟩ ⟨b,ob,none⟩ la ca lb cb hne tA tB ka.size kb.size (RQ ha) (RQ hb2) hk (SJ ha) (SJ ha)];rfl
theorem BK{g l l2:Nat}(hu:P.underlying t=some (.slice e))(hs:(P.info? e).map (·.size)=some sz)(hx:ev n f x= .slice (some ⟨g,o,none⟩) m c)(hy:ev n f y= .int .i64 (l:Int))(hl:l<=m)(hc:l<c)(hl2:m-l=l2):
  RV P n f w ⟨dst,.slice t x (some y) none none,ty,pos,af,gd⟩ (.slice (some ⟨g,o+l*sz,none⟩) l2 (c-l)) w:=by
 have h:=RY (w:=w) (dst:=dst) (gd:=gd) (ty:=ty) (pos:=pos) (af:=af) hu hs hx hy hl;rw[if_neg oG]at h;subst hl2;have e1:Option.map (fun z:Addr=>z.add (l*sz)) (some (⟨g,o,none⟩:Addr))=some ⟨g,o+l*sz,none⟩:=by
  show some (Addr.add _ _)=_;rw[Addr.add_mid]
 rw[e1]at h;exact h
theorem Own.whole{base:Nat}{xs:List Value}(h:Own w base e sz A k cap xs)(hk:0<k):∃(g:Nat) (cur:Array Value),A=some ⟨g,0,none⟩/\base<=g/\Blk w g e cur/\cap<=9223372036854775807/\cur.size=cap*sz/\cur.toList.take (k*sz)=xs:=by
 rcases h.2 with ⟨_,h0⟩|⟨g,c,cur,hv,hb,hg,hkc,hm,hs,ht⟩
 ·omega
 ·cases hv
  exact⟨g,cur,rfl,hb,hg,by simpa[maxLen]using hm,hs,ht⟩
theorem own_mk{base g:Nat}{xs:List Value}(hb:Blk w g e cur)(a1:base<=g)(hk:k<=cap)(hm:cap<=9223372036854775807)(hs:cur.size=cap*sz)(hx:cur.toList.take (k*sz)=xs):Own w base e sz (some ⟨g,0,none⟩) k cap xs:=by
 have hle:k*sz<=cap*sz:=aV sz hk;subst hx;exact⟨by rw[List.length_take,Array.length_toList];omega,.inr ⟨g,cap,cur,rfl,a1,hb,hk,by simpa[maxLen]using hm,hs,rfl⟩⟩
theorem Oz(cur:Array Value)(o:Nat)(cs:List Value):(cpy cur o cs).toList=cur.toList.take o++(cs++cur.toList.drop (o+cs.length)):=by simp[cpy]
theorem cpy_new{Ps Zs Xs Ys:List Value}{o1 o2:Nat}(h:cur.toList=Ps++Zs)(h1:o1=Ps.length)(h2:o2=Ps.length+Xs.length):(cpy (cpy cur o1 Xs) o2 Ys).toList.take (Ps.length+Xs.length+Ys.length)=Ps++(Xs++Ys):=by
 subst h1 h2;have e1:(cpy cur Ps.length Xs).toList=(Ps++Xs)++Zs.drop Xs.length:=by
  rw[Oz,h,List.take_append_of_le_length (Nat.le_refl _),List.take_length,List.drop_append,List.drop_eq_nil_of_le (Nat.le_add_right _ _),Nat.add_sub_cancel_left];simp
 have e2:Ps.length+Xs.length=(Ps++Xs).length:=by simp
 rw[Oz,e1,e2,List.take_append_of_le_length (Nat.le_refl _),List.take_length,<- List.append_assoc,<- List.length_append,List.take_append_of_le_length (Nat.le_refl _),List.take_length];simp
theorem cpy_move{Ps Zs Xs Ys:List Value}{o1 o2:Nat}(h:cur.toList=Ps++(Ys++Zs))(h1:o1=Ps.length)(h2:o2=Ps.length+Xs.length)(hz:Xs.length<=Zs.length):(cpy (cpy cur o2 Ys) o1 Xs).toList.take (Ps.length+Xs.length+Ys.length)=Ps++(Xs++Ys):=by
 subst h1 h2;have hc:(cpy cur (Ps.length+Xs.length) Ys).toList=cur.toList.take (Ps.length+Xs.length)++(Ys++cur.toList.drop (Ps.length+Xs.length+Ys.length)):=Oz _ _ _;have hl:(cur.toList.take (Ps.length+Xs.length)).length=Ps.length+Xs.length:=by
  rw[List.length_take,h];simp only[List.length_append];omega
 have ht:(cur.toList.take (Ps.length+Xs.length)).take Ps.length=Ps:=by
  rw[List.take_take,Nat.min_eq_left (Nat.le_add_right _ _),h,List.take_append_of_le_length (Nat.le_refl _),List.take_length]
 have e1:(cpy cur (Ps.length+Xs.length) Ys).toList.take Ps.length=Ps:=by
  rw[hc,List.take_append_of_le_length oG,ht]
 have e2:(cpy cur (Ps.length+Xs.length) Ys).toList.drop (Ps.length+Xs.length)=Ys++cur.toList.drop (Ps.length+Xs.length+Ys.length):=by
  rw[hc,List.drop_append,List.drop_eq_nil_of_le oG,hl,Nat.sub_self];simp
 rw[Oz,e1,e2];have e3:Ps++(Xs++(Ys++cur.toList.drop (Ps.length+Xs.length+Ys.length)))=(Ps++(Xs++Ys))++cur.toList.drop (Ps.length+Xs.length+Ys.length):=by simp
 have e4:Ps.length+Xs.length+Ys.length=(Ps++(Xs++Ys)).length:=by simp[Nat.add_assoc]
 rw[e3,e4,List.take_append_of_le_length (Nat.le_refl _),List.take_length]
end six
end
section
def bl(s:ByteArray):List UInt8:=s.data.toList
theorem bl_app(p q:ByteArray):bl (p++q)=bl p++bl q:=by
 unfold bl;rw[ByteArray.data_append,Array.toList_append]
theorem Mw(p:ByteArray):(bl p).length=p.size:=by unfold bl;rw[Array.length_toList];rfl
theorem SY{p q:ByteArray}(h:bl p=bl q):p=q:=by
 cases p;cases q;unfold bl at h;simp only[ByteArray.mk.injEq];exact Array.toList_inj.1 h
section rules
variable {P:Program} {Q:Exit->Act->World->Prop} {n:Nw} {f:Fr} {w w':World} {ops:Array Oper} {rest:List Oper} {d:Nat} {ty:TypeId} {pos:String} {af:Array Edge} {x y z:Operand} {t t' e:TypeId}
theorem P8{p q:ByteArray}(hx:ev n f x= .string p)(hy:ev n f y= .string q)(hb:p.size+q.size<=9223372036854775807):
  RV P n f w ⟨dst,.binOp .add t x y t',ty,pos,af,gd⟩ (.string (p++q)) w:=by
 have h:¬((p.size+q.size:Nat):Int)>IntKind.i64.max:=by
  have e:IntKind.i64.max=9223372036854775807:=by decide
  rw[e];omega
 simp only[RV,execOp,hx,hy,eqGuard,binOp,Op.stringOp,if_neg h];rfl
end rules
end
section
abbrev cG:Array Value:=#[.int .i64 0,.string ⟨#[]⟩,.int .i64 0,.string ⟨#[]⟩,.slice none 0 0,.slice none 0 0]
def stk(h:Nat)(s:ByteArray):ByteArray:=⟨((bl s).take h).toArray⟩
def sdr(l:Nat)(s:ByteArray):ByteArray:=⟨((bl s).drop l).toArray⟩
theorem bl_stk(h:Nat)(s:ByteArray):bl (stk h s)=(bl s).take h:=rfl
theorem IJ(l:Nat)(s:ByteArray):bl (sdr l s)=(bl s).drop l:=rfl
theorem yy(l:Nat)(s:ByteArray):(sdr l s).size=s.size-l:=by rw[<- Mw,<- Mw,IJ,List.length_drop]
theorem GW(hh:h<=s.size):(stk h s).size=h:=by rw[<- Mw,bl_stk,List.length_take,Mw];omega
theorem ext_bl(s:ByteArray)(l h:Nat):bl (s.extract l h)=((bl s).drop l).take (h-l):=by
 unfold bl;rw[ByteArray.data_extract,Array.toList_extract,List.extract_eq_take_drop]
theorem ext_stk:s.extract 0 h=stk h s:=SY (by rw[ext_bl,bl_stk,List.drop_zero,Nat.sub_zero])
theorem ext_sdr{l:Nat}:s.extract l s.size=sdr l s:=SY (by
 rw[ext_bl,IJ,List.take_of_length_le]
 rw[List.length_drop,Mw]
 exact ai _)
section rules
variable {P:Program} {Q:Exit->Act->World->Prop} {n:Nw} {f:Fr} {w w':World} {ops:Array Oper} {rest:List Oper} {d:Nat} {ty:TypeId} {pos:String} {af:Array Edge} {x y z:Operand} {t t' e:TypeId}
theorem r_tkS(hu:P.underlying t=some .string)(hx:ev n f x= .string s)(hy:ev n f y= .int .i64 (h:Int))(hh:h<=s.size):
  RV P n f w ⟨dst,.slice t x none (some y) none,ty,pos,af,gd⟩ (.string (stk h s)) w:=by
 have h1:(Instr.sliceBound (.int .i64 (h:Int)) s.size .sliceAlen).run P w= .ok h w:=by
  simp[Instr.sliceBound,asIntOf,hh]
 simp[RV,execOp,hx,hy,Instr.sliceAt,run_underlying hu,Instr.slice,Instr.sliceBounds,h1,ext_stk]
theorem Yx{l:Nat}(hu:P.underlying t=some .string)(hx:ev n f x= .string s)(hy:ev n f y= .int .i64 (l:Int))(hl:l<=s.size):
  RV P n f w ⟨dst,.slice t x (some y) none none,ty,pos,af,gd⟩ (.string (sdr l s)) w:=by
 have h1:(Instr.sliceBound (.int .i64 (l:Int)) s.size .sliceB).run P w= .ok l w:=by
  simp[Instr.sliceBound,asIntOf,hl]
 simp[RV,execOp,hx,hy,Instr.sliceAt,run_underlying hu,Instr.slice,Instr.sliceBounds,h1,ext_sdr]
end rules
def Wz(c:UInt8):List UInt8->List (List UInt8)
 | []=>[[]]
 | x::xs=>if x=c then []::Wz c xs else (x::(Wz c xs).headD [])::(Wz c xs).tail
theorem ixb_pos{c:UInt8}:∀ {l:List UInt8} {m:Nat},Lib.indexByte l c=(m:Int)->m<l.length/\¬c∈l.take m/\l=l.take m++c::l.drop (m+1)
 | [],m,h=>by simp[Lib.indexByte]at h
 | b::l,m,h=>by
  unfold Lib.indexByte at h
  by_cases e:b=c
  ·have e2:(b==c)=true:=by simpa using e
   simp only[e2,if_true]at h
   have:m=0:=by omega
   grind
  ·have e2:(b==c)=false:=by simpa using e
   simp only[e2,Bool.false_eq_true,if_false]at h
   by_cases q:Lib.indexByte l c= -1
   ·simp[q]at h
   ·have q2:(Lib.indexByte l c== -1)=false:=by simpa using q
    simp only[q2,Bool.false_eq_true,if_false]at h
    have h3:=Lib.indexByte_ge l c
    obtain⟨k,rfl⟩:∃ k,m=k+1:=⟨m-1,by omega⟩
    obtain⟨a1,a2,a3⟩:=ixb_pos (c:=c) (l:=l) (m:=k) oG
    grind
def sp(c:UInt8)(s:ByteArray):List ByteArray:=(Wz c (bl s)).map (fun p=>⟨p.toArray⟩)
def StrsIn(w:World)(A:Option Addr)(xs:List ByteArray):Prop:=
 xs.length<=vX/\(xs≠[]->∃ b o,A=some ⟨b,o,none⟩/\b<w.heap.size/\∀ k (h:k<xs.length),w.cell? ⟨b,o+k*1,none⟩=some (.string xs[k]))
theorem StrsIn.mono{xs:List ByteArray}(h:StrsIn w A xs)(hb:Bel w w'):StrsIn w' A xs:=
 ⟨h.1,fun hn=>by
  obtain⟨b,o,e,hl,hc⟩:=h.2 hn
  exact⟨b,o,e,nLL hl hb.size,fun k hk=>hb.cell hl (hc k hk)⟩⟩
theorem StrsIn.at_{xs:List ByteArray}(h:StrsIn w A xs)(hk:k<xs.length):
  ∃ b o,A=some ⟨b,o,none⟩/\b<w.heap.size/\w.cell? ⟨b,o+k*1,none⟩=some (.string xs[k]):=by
 obtain⟨b,o,e,hl,hc⟩:=h.2 (by rintro rfl;simp at hk)
 grind
end
section
def ItIn(w:World)(b:Nat)(s:ByteArray)(p:Nat):Prop:=w.heap[b]? =some (.stringIter s p)
section it
variable {w w':World} {b p:Nat} {s:ByteArray} {X:List Nat}
theorem ItIn.lt(h:ItIn w b s p):b<w.heap.size:=uj h
theorem ItIn.tr(h:ItIn w b s p)(hs:Same X w w')(hx:b∉X):ItIn w' b s p:=(hs.blk b h.lt hx).trans h
theorem ItIn.tr0(h:ItIn w b s p)(hs:Same [] w w'):ItIn w' b s p:=h.tr hs (by simp)
theorem ItIn.tr1(h:ItIn w b s p)(hs:Same [c] w w')(hne:b≠c):ItIn w' b s p:=h.tr hs (by simpa using hne)
end it
section rules
variable {P:Program} {Q:Exit->Act->World->Prop} {n:Nw} {f:Fr} {w w':World} {ops:Array Oper} {rest:List Oper} {d:Nat} {ty:TypeId} {pos:String} {af:Array Edge} {x y z:Operand} {t t' e:TypeId}
theorem wl_rg(hu:P.underlying t=some .string)(hx:ev n f x= .string s)
  (K:∀ b w1,ItIn w1 b s 0->Same [] w w1->w.heap.size<=b->WL P ops Q rest n (upd f d (.pointer (some ⟨b,0,none⟩))) w1):WL P ops Q (⟨some d,.range t x,ty,pos,af,none⟩::rest) n f w:=by
 refine wl (v:= .pointer (some ⟨w.heap.size,0,none⟩)) (w':=w.iter s 0) ?_ (K _ _ (World.iter_heap w s 0) (o6 w _) (ai _));simp only[RV,execOp,hx,run_range_string w t s hu,Sem.run_bind,Result.andThen_ok];simp
theorem run_nx(h:ItIn w b s p)(hp:p<s.size):
  (Instr.next (.pointer (some ⟨b,0,none⟩)) true ty).run P w= .ok (.tuple #[.bool true,.int .i64 p,.int .i32 ((Utf8.decode s p).1:Nat)]) { w with heap:=w.heap.setIfInBounds b (.stringIter s (p+(Utf8.decode s p).2)) }:=by
 have h':w.heap[b]? =some (.stringIter s p):=h;simp only[Instr.next,getObj,setObj,Sem.run_bind,Sem.run,h',Result.andThen,hp,if_true];simp[goInt]
theorem same_setO(w:World)(b:Nat)(o:Obj):Same [b] w { w with heap:=w.heap.setIfInBounds b o }:=
 ⟨rfl,rfl,rfl,by simp,fun k _ hx=>by
  have:k≠b:=fun e=>hx (ar.2 e)
  simp[Ne.symm this]⟩
theorem wl_nx(h:ItIn w b s p)(hx:ev n f x= .pointer (some ⟨b,0,none⟩))(hp:p<s.size)
  (K:∀ w1,ItIn w1 b s (p+(Utf8.decode s p).2)->Same [b] w w1->WL P ops Q rest n (upd f d (.tuple #[.bool true,.int .i64 ((p:Nat):Int),.int .i32 (((Utf8.decode s p).1:Nat):Int)])) w1):WL P ops Q (⟨some d,.next x true,ty,pos,af,none⟩::rest) n f w:=by
 refine wl (v:= .tuple #[.bool true,.int .i64 p,.int .i32 ((Utf8.decode s p).1:Nat)]) (w':={ w with heap:=w.heap.setIfInBounds b (.stringIter s (p+(Utf8.decode s p).2)) }) ?_ (K _ ?_ (same_setO w b _))
 ·simp only[RV,execOp,hx,run_nx h hp,Sem.run_bind,Result.andThen_ok]
  simp
 ·show (w.heap.setIfInBounds b _)[b]? =_
  have:=h.lt;simp[this]
theorem r_ne(h:ItIn w b s p)(hx:ev n f x= .pointer (some ⟨b,0,none⟩))(hp:¬p<s.size):RV P n f w ⟨dst,.next x true,ty,pos,af,gd⟩ (.tuple #[.bool false]) w:=by
 have h':w.heap[b]? =some (.stringIter s p):=h;have h2:(Instr.next (.pointer (some ⟨b,0,none⟩)) true ty).run P w= .ok (.tuple #[.bool false]) w:=by
  simp[Instr.next,getObj,Sem.run,h',hp]
 simp only[RV,execOp,hx,h2,Sem.run_bind,Result.andThen_ok];simp
theorem EJ{k k':IntKind}{a:Int}{dd:TypeDesc}(hs:P.underlying t=some dd)(hd:P.underlying t'=some (.int k'))(hx:ev n f x= .int k a)(ha:k'.wrap a=a):
  RV P n f w ⟨dst,.convert t t' x,ty,pos,af,gd⟩ (.int k' a) w:=by
 simp[RV,execOp,hx,convert,run_underlying hs,run_underlying hd,Conv.intToInt,ha]
theorem N4{kb:IntKind}(hx:ev n f x= .int .u64 (a:Int))(hy:ev n f y= .int kb (b:Int))(hb:b<64)(ha:a*2^b<18446744073709551616)(hc:a*2^b=c):
  RV P n f w ⟨dst,.binOp .shl t x y t',ty,pos,af,gd⟩ (.int .u64 (c:Int)) w:=by
 subst hc;have h1:min b 64=b:=by omega
 have h2:IntKind.u64.wrap ((a:Int)*2^b)=((a*2^b:Nat):Int):=by
  rw[IntKind.wrap_u64];have:((a:Int)*2^b)=((a*2^b:Nat):Int):=by simp
  rw[this]
  generalize a*2^b=c at ha
  omega
 have h0:¬((b:Int)<0):=by omega
 simp only[RV,execOp,hx,hy,eqGuard,binOp,Op.shift,IntKind.bits,if_neg h0,Int.toNat_natCast,h1,h2];rfl
theorem r_shr8{kb:IntKind}(hx:ev n f x= .int .u8 (a:Int))(hy:ev n f y= .int kb (b:Int))(hb:b<8)(hc:a/2^b=c):
  RV P n f w ⟨dst,.binOp .shr t x y t',ty,pos,af,gd⟩ (.int .u8 (c:Int)) w:=by
 subst hc;have h1:min b 8=b:=by omega
 have h2:(a:Int).fdiv (2^b)=((a/2^b:Nat):Int):=by
  rw[Int.fdiv_eq_ediv_of_nonneg _ (by exact Int.le_of_lt (Int.pow_pos dE))];simp
 have h0:¬((b:Int)<0):=by omega
 simp only[RV,execOp,hx,hy,eqGuard,binOp,Op.shift,IntKind.bits,if_neg h0];simp[h1,h2]
theorem u8_and7:∀ a:Nat,a<256->bits .and .u8 (a:Int) 7=((a%8:Nat):Int):=by decide +kernel
theorem r_and7(hx:ev n f x= .int .u8 (a:Int))(hy:ev n f y= .int .u8 7)(ha:a<256):
  RV P n f w ⟨dst,.binOp .and t x y t',ty,pos,af,gd⟩ (.int .u8 ((a%8:Nat):Int)) w:=by
 have:=u8_and7 a ha;simp only[RV,execOp,hx,hy,eqGuard,binOp];simp[go_sem,this]
theorem r_rstr{r:Int}(hs:P.underlying t=some (.int .i32))(hd:P.underlying t'=some .string)(hx:ev n f x= .int .i32 r):
  RV P n f w ⟨dst,.convert t t' x,ty,pos,af,gd⟩ (.string (Utf8.encode r)) w:=by
 simp[RV,execOp,hx,convert,run_underlying hs,run_underlying hd,Conv.intToString]
def QN(Q:Exit->Act->World->Prop):Exit->Act->World->Prop:=Exit.noGoto Q
theorem c_scope{c:Code}(h:WC P c (QN Q) n f w):WC P (.scope c) Q n f w:=by
 unfold WC at h ⊢;exact wp_scope_straight h
theorem e_Nr(h:EX Q .ret n f w):EX (QN Q) .ret n f w:=by unfold EX at h ⊢;exact h
end rules
end
def gb(s:ByteArray)(k:Nat):Nat:=(s.get! k).toNat
theorem oX(s:ByteArray)(k:Nat):gb s k<256:=(s.get! k).toNat_lt
theorem gb_at(h:k<s.size):(s[k]'h).toNat=gb s k:=by
 unfold gb;rw[show s.get! k=s[k]'h from get_at s k h]
theorem gb_bl(s:ByteArray)(k:Nat):gb s k=((bl s).getD k 0).toNat:=by
 unfold gb bl
 congr 1
 simp only[ByteArray.get!,List.getD];rw[Array.getElem?_toList];cases h:s.data[k]? with
 | none=>rw[getElem!_def,h];rfl
 | some c=>rw[getElem!_def,h];rfl
theorem Vy(p:Nat)(s:ByteArray)(k:Nat):gb (sdr p s) k=gb s (p+k):=by
 rw[gb_bl,gb_bl,IJ];simp[List.getD]
def wdt(s:ByteArray)(p:Nat):Nat:=(Utf8.decode s p).2
def Yj(s:ByteArray)(p:Nat):Bool:=decide (gb s p<128)||decide (2<=wdt s p)
theorem Q9(s:ByteArray)(p:Nat):Utf8.decode s p=Lib.decodeN (s.size-p) (gb s p) (gb s (p+1)) (gb s (p+2)) (gb s (p+3)):=Lib.decode_at s p
theorem NZ(h:gb s p<128):wdt s p=1/\(Utf8.decode s p).1=gb s p:=by
 unfold wdt;rw[Q9];unfold Lib.decodeN;rw[if_pos h];exact⟨rfl,rfl⟩
theorem Xq(h:p<s.size):1<=wdt s p:=Lib.decode_width_pos s p h
theorem dec_high(h:p<s.size)(hb:128<=gb s p):128<=(Utf8.decode s p).1:=(decode_high s p h (by rw[gb_at h];exact hb)).1
theorem Lv{j:Nat}(h1:0<j)(h2:j<wdt s p):128<=gb s (p+j)/\p+j<s.size:=by
 unfold wdt at h2;rw[Q9]at h2;unfold Lib.decodeN at h2
 split at h2
 ·simp at h2;omega
 ·split at h2
  ·rename_i _ q
   split at h2
   ·obtain rfl:j=1:=by simp at h2;omega
    omega
   ·simp at h2;omega
  ·split at h2
   ·rename_i _ _ q
    split at h2
    ·have:j=1\/j=2:=by simp at h2;omega
     rcases this with rfl|rfl<;>omega
    ·simp at h2;omega
   ·split at h2
    ·rename_i _ _ _ q
     split at h2
     ·have:j=1\/j=2\/j=3:=by simp at h2;omega
      rcases this with rfl|rfl|rfl<;>omega
     ·simp at h2;omega
    ·simp at h2;omega
theorem FJ(h:p<s.size):p+wdt s p<=s.size:=by
 by_cases e:wdt s p<=1
 ·omega
 ·have:=(Lv (s:=s) (p:=p) (j:=wdt s p-1) oG oG).2
  omega
def chF(s:ByteArray):Nat->Nat->List Nat
 | 0,_=>[]
 | f+1,p=>if p<s.size then p::chF s f (p+wdt s p)else []
theorem K9(h:¬p<s.size):chF s f p= []:=by cases f<;>simp[chF,h]
theorem chF_fuel{s:ByteArray}:∀ {f g p:Nat},s.size-p<=f->s.size-p<=g->chF s f p=chF s g p
 | 0,g,p,hf,_=>by rw[K9 oG,K9 oG]
 | f+1,0,p,_,hg=>by rw[K9 oG,K9 oG]
 | f+1,g+1,p,hf,hg=>by
  by_cases h:p<s.size
  ·have:=Xq h
   simp only[chF,if_pos h]
   rw[chF_fuel (f:=f) (g:=g) oG oG]
  ·rw[K9 h,K9 h]
def ch(s:ByteArray)(p:Nat):List Nat:=chF s (s.size-p) p
theorem HY(h:¬p<s.size):ch s p= []:=K9 h
theorem Mv(h:p<s.size):ch s p=p::ch s (p+wdt s p):=by
 have hw:=Xq h;unfold ch;obtain⟨k,hk⟩:∃ k,s.size-p=k+1:=⟨s.size-p-1,by omega⟩
 rw[hk];simp only[chF,if_pos h];rw[chF_fuel (g:=s.size-(p+wdt s p)) oG (Nat.le_refl _)]
def vq(s:ByteArray)(p:Nat):Bool:=(ch s p).all (Yj s)
theorem vq_end(h:¬p<s.size):vq s p=true:=by unfold vq;rw[HY h];rfl
theorem LZ(h:p<s.size)(ho:Yj s p=true):vq s p=vq s (p+wdt s p):=by
 unfold vq;rw[Mv h,List.all_cons,ho,Bool.true_and]
theorem Ly(h:p<s.size)(ho:Yj s p=false):vq s p=false:=by
 unfold vq;rw[Mv h,List.all_cons,ho,Bool.false_and]
theorem vq_low(h:p<s.size)(hb:gb s p<128):vq s p=vq s (p+1):=by
 rw[LZ h (by unfold Yj;rw[decide_eq_true hb];rfl),(NZ hb).1]
theorem DJ{s:ByteArray}:∀ {k p:Nat},p+k<=s.size->(∀ j,j<k->gb s (p+j)<128)->vq s p=vq s (p+k)
 | 0,_,_,_=>rfl
 | k+1,p,h,hb=>by
  rw[vq_low (p:=p) oG (hb 0 oG),DJ (k:=k) (p:=p+1) oG (fun j hj=>by have:=hb (j+1) oG;rwa[show p+(j+1)=p+1+j by omega]at this)]
  congr 1;omega
def spc(c:Nat):Bool:=decide (c=32)||decide (c=9)||decide (c=10)||decide (c=40)||decide (c=41)||decide (c=91)||decide (c=93)||decide (c=44)||decide (c=59)
theorem Wq(h:spc c=true):c<128:=by
 unfold spc at h;simp only[Bool.or_eq_true,decide_eq_true_eq]at h;omega
def brd(s:ByteArray)(p:Nat):Bool:=(ch s p).any (fun q=>spc (Utf8.decode s q).1)
theorem Cz(h:¬p<s.size):brd s p=false:=by unfold brd;rw[HY h];rfl
theorem Jz(h:p<s.size):brd s p=(spc (Utf8.decode s p).1||brd s (p+wdt s p)):=by
 unfold brd;rw[Mv h,List.any_cons]
theorem brd_byte:∀ {m p k:Nat},s.size-p<=m->p<=k->k<s.size->spc (gb s k)=true->brd s p=true:=by
 intro m
 induction m with
 | zero=>intro p k h1 h2 h3;omega
 | succ m ih=>
  intro p k h1 h2 h3 h4;have hp:p<s.size:=by omega
  have hw:=Xq hp;rw[Jz hp];by_cases e:p=k
  ·subst e
   have hl:=Wq h4;rw[(NZ hl).2,h4];rfl
  ·by_cases e2:p+wdt s p<=k
   ·rw[ih (p:=p+wdt s p) (k:=k) oG e2 h3 h4,Bool.or_true]
   ·have:=(Lv (s:=s) (p:=p) (j:=k-p) oG oG).1
    rw[show p+(k-p)=k by omega]at this;have:=Wq h4;omega
theorem byte_brd:∀ {m p:Nat},s.size-p<=m->brd s p=true->∃ k,p<=k/\k<s.size/\spc (gb s k)=true:=by
 intro m
 induction m with
 | zero=>intro p h1 h;rw[Cz oG]at h;cases h
 | succ m ih=>
  intro p h1 h;by_cases hp:p<s.size
  ·have hw:=Xq hp
   rw[Jz hp,Bool.or_eq_true]at h;rcases h with h|h
   ·refine⟨p,ai _,hp,?_⟩
    by_cases hl:gb s p<128
    ·rwa[(NZ hl).2]at h
    ·have:=dec_high hp oG
     have:=Wq h;omega
   ·obtain⟨k,h2,h3,h4⟩:=ih oG h
    exact⟨k,by omega,h3,h4⟩
  ·rw[Cz hp]at h;cases h
def yV(s:ByteArray):Bool:=decide (1<=(ch s 0).length)&&decide ((ch s 0).length<=30)&&vq s 0 && !brd s 0
theorem ok_bad(hb:128<=gb s p)(h:Lib.firstT (gb s p)%8≠2)(h3:Lib.firstT (gb s p)%8≠3)(h4:Lib.firstT (gb s p)%8≠4):Yj s p=false:=by
 have hc:Lib.firstT (gb s p)=241\/Lib.firstT (gb s p)<240:=by
  generalize gb s p=b at hb
  unfold Lib.firstT;rw[if_neg oG]
  repeat' split
  all_goals omega
 have ht:Lib.firstT (gb s p)=241:=by
  rcases hc with ht|hl
  ·exact ht
  ·exfalso
   rcases Lib.firstT_low hl with q|q|q|q|q|q|q
   ·rw[Lib.firstT_C2 q]at h;exact h rfl
   ·rw[Lib.firstT_E0 q]at h3;exact h3 rfl
   ·rw[Lib.firstT_E1 q]at h3;exact h3 rfl
   ·rw[Lib.firstT_ED q]at h3;exact h3 rfl
   ·rw[Lib.firstT_F0 q]at h4;exact h4 rfl
   ·rw[Lib.firstT_F1 q]at h4;exact h4 rfl
   ·rw[Lib.firstT_F4 q]at h4;exact h4 rfl
 have:wdt s p=1:=by
  unfold wdt;rw[Q9,Lib.bad_eq _ _ _ _ _ (oX s p) ht]
 unfold Yj;rw[this,decide_eq_false oG];rfl
theorem first_256(b:Nat):Lib.firstT b<256:=by
 unfold Lib.firstT
 repeat' split
 all_goals omega
theorem first_lt(h:Lib.firstT (gb s p)%8=2\/Lib.firstT (gb s p)%8=3\/Lib.firstT (gb s p)%8=4):Lib.firstT (gb s p)<240:=by
 have hc:Lib.firstT (gb s p)=240\/Lib.firstT (gb s p)=241\/Lib.firstT (gb s p)<240:=by
  generalize gb s p=b
  unfold Lib.firstT
  repeat' split
  all_goals omega
 omega
def jj(s:ByteArray)(p n:Nat):Prop:=s.size-p<n\/gb s (p+1)<Lib.accLo (Lib.firstT (gb s p)/16)\/Lib.accHi (Lib.firstT (gb s p)/16)<gb s (p+1)\/(3<=n/\(gb s (p+2)<128\/191<gb s (p+2)))\/(4<=n/\(gb s (p+3)<128\/191<gb s (p+3)))
instance(s:ByteArray)(p n:Nat):Decidable (jj s p n):=by unfold jj;infer_instance
theorem ok_n(hp:p<s.size)(hn:n=2\/n=3\/n=4)(h:Lib.firstT (gb s p)%8=n):(jj s p n->Yj s p=false)/\(¬jj s p n->Yj s p=true/\wdt s p=n):=by
 have hx:=first_lt (s:=s) (p:=p) oG;have hb:128<=gb s p:=by
  by_cases e:gb s p<128
  ·unfold Lib.firstT at hx;rw[if_pos e]at hx;omega
  ·omega
 have he:=Lib.slow_eq (s.size-p) (gb s p) (gb s (p+1)) (gb s (p+2)) (gb s (p+3)) oG (oX _ _) (oX _ _) (oX _ _) hx;rw[h]at he;have hw:wdt s p=(Lib.slowN (s.size-p) (gb s p) (gb s (p+1)) (gb s (p+2)) (gb s (p+3)) n (Lib.accLo (Lib.firstT (gb s p)/16)) (Lib.accHi (Lib.firstT (gb s p)/16))).2:=by
  unfold wdt;rw[Q9,he]
 have hok:Yj s p=decide (2<=wdt s p):=by unfold Yj;rw[decide_eq_false oG,Bool.false_or]
 constructor
 ·intro hbad
  have:wdt s p=1:=by
   rw[hw];unfold Lib.slowN;unfold jj at hbad
   repeat' split
   all_goals first|rfl|(exfalso;omega)
  rw[hok,this];rfl
 ·intro hbad
  have:wdt s p=n:=by
   rw[hw];unfold Lib.slowN;unfold jj at hbad
   repeat' split
   all_goals first|(exfalso;omega)|(simp only;omega)
  rw[hok,this];exact⟨aj oG,rfl⟩
theorem kY{n:Nw}{f:Fr}{ty:TypeId}{pos:String}{af:Array Edge}{x y:Operand}{t:TypeId}{i:Nat}(hu:P.underlying t=some .string)(hx:ev n f x= .string s)(hy:ev n f y= .int .i64 i)(hi:i<s.size):
  RV P n f w ⟨dst,.index t x y,ty,pos,af,gd⟩ (.int .u8 ((gb s i:Nat):Int)) w:=by
 rw[<- gb_at hi];exact Kx hu hx hy hi
theorem PY(h:a<18446744073709551616):IntKind.u64.wrap (a:Int)=a:=by rw[IntKind.wrap_u64];omega
def hiB:Nat:=9259542123273814144
def wo:Nat->ByteArray->Nat
 | 0,s=>gb s 0
 | k+1,s=>wo k s|||(gb s (k+1)*2^(8*(k+1)))
theorem uV(s:ByteArray):∀ {k:Nat},k<8->wo k s<18446744073709551616
 | 0,_=>by have:=oX s 0;unfold wo;omega
 | k+1,h=>by
  have h1:=uV s (k:=k) oG
  have h2:=oX s (k+1)
  have h3:gb s (k+1)*2^(8*(k+1))<2^64:=by
   have:(2:Nat)^64=2^(64-8*(k+1))*2^(8*(k+1)):=by rw[<- Nat.pow_add];congr 1;omega
   rw[this];refine Nat.mul_lt_mul_of_pos_right ?_ (Nat.pow_pos dE);have:(2:Nat)^8<=2^(64-8*(k+1)):=Nat.pow_le_pow_right dE oG;omega
  exact aW (n:=64) h1 h3
theorem T1(h:(a|||b)&&&c=0):a&&&c=0/\b&&&c=0:=by
 constructor<;>refine Nat.eq_of_testBit_eq (fun i=>?_)<;>(have:=congrArg (fun z=>z.testBit i) h;simp at this ⊢;grind)
theorem wo_z(s:ByteArray):∀ {k:Nat},k<8->wo k s&&&hiB=0->∀ j,j<=k->gb s j<128
 | 0,_,h,j,hj=>by
  obtain rfl:j=0:=by omega
  have h1:=oX s 0
  have h2:=congrArg (fun z=>z.testBit 7) h
  simp only[wo,Nat.testBit_and,Nat.zero_testBit]at h2
  have h3:hiB.testBit 7=true:=by decide
  rw[h3,Bool.and_true,Nat.testBit_eq_decide_div_mod_eq]at h2
  simp at h2
  omega
 | k+1,hk,h,j,hj=>by
  obtain⟨h1,h2⟩:=T1 h
  by_cases e:j=k+1
  ·subst e
   have h3:=oX s (k+1)
   have h4:=congrArg (fun z=>z.testBit (8*(k+1)+7)) h2
   have h5:hiB.testBit (8*(k+1)+7)=true:=by
    have:∀ k,k<8->hiB.testBit (8*k+7)=true:=by decide
    exact this (k+1) hk
   simp only[Nat.testBit_and,Nat.zero_testBit,h5,Bool.and_true,Nat.testBit_mul_two_pow]at h4;rw[Nat.add_sub_cancel_left,Nat.testBit_eq_decide_div_mod_eq]at h4;simp at h4;omega
  ·exact wo_z s oG h1 j oG
theorem Q3(a p:Nat)(s:ByteArray):sdr a (sdr p s)=sdr (p+a) s:=SY (by rw[IJ,IJ,IJ,List.drop_drop])
theorem asc8(h:wo 7 (sdr p s)&&&hiB=0):∀ j,j<8->gb s (p+j)<128:=fun j hj=>by
 rw[<- Vy];exact wo_z _ dE h j oG
theorem asc16(h:(wo 7 (sdr p s)|||wo 7 (sdr 8 (sdr p s)))&&&hiB=0):∀ j,j<16->gb s (p+j)<128:=fun j hj=>by
 obtain⟨h1,h2⟩:=T1 h
 rw[Q3]at h2
 by_cases e:j<8
 ·exact asc8 h1 j e
 ·have:=asc8 h2 (j-8) oG
  rwa[show p+8+(j-8)=p+j by omega]at this
theorem asc32(h:((wo 7 (sdr p s)|||wo 7 (sdr 8 (sdr p s)))|||(wo 7 (sdr 16 (sdr p s))|||wo 7 (sdr 24 (sdr p s))))&&&hiB=0):∀ j,j<32->gb s (p+j)<128:=fun j hj=>by
 obtain⟨h1,h2⟩:=T1 h
 by_cases e:j<16
 ·exact asc16 h1 j e
 ·have h3:(wo 7 (sdr (p+16) s)|||wo 7 (sdr 8 (sdr (p+16) s)))&&&hiB=0:=by
   rw[Q3,Q3]at h2;rw[Q3];exact h2
  have:=asc16 h3 (j-16) oG
  rwa[show p+16+(j-16)=p+j by omega]at this
def U8In(w:World):Prop:=(0<w.heap.size/\∀ k,k<256->w.cell? ⟨0,0+k*1,none⟩=some (.int .u8 ((Lib.firstT k:Nat):Int)))/\1<w.heap.size/\∀ k,k<16->w.rangeAt 1 (0+k*2) [.int .u8 ((Lib.accLo k:Nat):Int),.int .u8 ((Lib.accHi k:Nat):Int)]
theorem U8In.mono(h:U8In w)(hb:Bel w w'):U8In w':=⟨⟨nLL h.1.1 hb.size,fun k hk=>hb.cell h.1.1 (h.1.2 k hk)⟩,nLL h.2.1 hb.size,fun k hk=>hb.range h.2.1 (h.2.2 k hk)⟩
def CH:ByteArray:=⟨#[32,9,10,40,41,91,93,44,59]⟩
theorem ch_lt:∀ i,i<9->gb CH i<128:=by decide +kernel
theorem ch_ix:∀ c,c<256->decide (0<=Lib.indexByte (bl CH) c.toUInt8)=spc c:=by decide +kernel
def chs(k x:Nat):Bool:=(List.range k).any (fun j=>decide (gb CH j=x))
theorem chs_all:∀ x,x<256->chs 9 x=spc x:=by decide +kernel
theorem chs_step(k x:Nat):chs (k+1) x=if x=gb CH k then true else chs k x:=by
 unfold chs;rw[List.range_succ,List.any_append];by_cases h:x=gb CH k
 ·simp[h]
 ·simp[h,Ne.symm h]
theorem run_ixb{fn:Func}{c:Int}(hf:P.funcs[F]? =some fn)(a1:(fn.name == "runtime.NumGoroutine")=false)(hb:fn.body.isNone=true)(hn:Extern.findNext fn=none)(he:Extern.find fn=some Extern.BytealgIndexByte.indexByte):
  (callFunc F #[.string s,.int .u8 c]).run P w= .ok (.value (.int .i64 (Lib.indexByte (bl s) c.toNat.toUInt8))) w:=by
 rw[run_callFunc_extern hf a1 hb hn he,Lib.run_indexByteString];rfl
theorem ixb_none{l:List UInt8}{c:UInt8}(h:¬c∈l):Lib.indexByte l c<0:=by
 by_cases e:Lib.indexByte l c<0
 ·exact e
 ·obtain⟨m,hm⟩:∃ m:Nat,Lib.indexByte l c=m:=⟨(Lib.indexByte l c).toNat,by omega⟩
  obtain⟨_,_,h3⟩:=ixb_pos hm;exact absurd (by rw[h3];simp) h
theorem enc_hi{r:Nat}(h:128<=r):2<=(Utf8.encode (r:Int)).size/\(Utf8.encode (r:Int)).size<=4/\∀ i,i<(Utf8.encode (r:Int)).size->128<=gb (Utf8.encode (r:Int)) i:=by
 have key:∀ c:Nat,128<=c->c<=1114111->∀ e:ByteArray,e=(if c<0x80 then ⟨#[UInt8.ofNat c]⟩else if c<0x800 then ⟨#[UInt8.ofNat (0xC0+c/64),UInt8.ofNat (0x80+c%64)]⟩else if c<0x10000 then ⟨#[UInt8.ofNat (0xE0+c/4096),UInt8.ofNat (0x80+c/64%64),UInt8.ofNat (0x80+c%64)]⟩else ⟨#[UInt8.ofNat (0xF0+c/262144),UInt8.ofNat (0x80+c/4096%64),UInt8.ofNat (0x80+c/64%64),UInt8.ofNat (0x80+c%64)]⟩)->2<=e.size/\e.size<=4/\∀ i,i<e.size->128<=gb e i:=by
  intro c h1 h2 e he;have u8:∀ n:Nat,128<=n->n<256->128<=(UInt8.ofNat n).toNat:=fun n a b=>by rw[UInt8.toNat_ofNat_of_lt' (by exact b)];exact a
  rw[if_neg oG]at he
  split at he
  ·subst he
   refine⟨ai _,by show 2<=4;decide,fun i hi=>?_⟩
   match i,hi with
   | 0,_=>exact u8 _ oG oG
   | 1,_=>exact u8 _ oG oG
  ·split at he
   ·subst he
    refine⟨by show 2<=3;decide,by show 3<=4;decide,fun i hi=>?_⟩
    match i,hi with
    | 0,_=>exact u8 _ oG oG
    | 1,_=>exact u8 _ oG oG
    | 2,_=>exact u8 _ oG oG
   ·subst he
    refine⟨by show 2<=4;decide,ai _,fun i hi=>?_⟩
    match i,hi with
    | 0,_=>exact u8 _ oG oG
    | 1,_=>exact u8 _ oG oG
    | 2,_=>exact u8 _ oG oG
    | 3,_=>exact u8 _ oG oG
 refine key (if Utf8.valid (r:Int)then (r:Int).toNat else Utf8.runeError) ?_ ?_ _ rfl
 ·split
  ·exact h
  ·decide
 ·split
  ·rename_i hv
   unfold Utf8.valid at hv;simp at hv;omega
  ·decide
def Hd(b n:Nat)(v l:Int):Prop:=(194<=b/\b<=223/\n=2/\v=(b:Int)-192/\l=128)\/(224<=b/\b<=239/\n=3/\v=(b:Int)-224/\l=2048)\/(240<=b/\b<=244/\n=4/\v=(b:Int)-240/\l=65536)
def vv(x:ByteArray)(v:Int):Nat->Int
 | 0=>v
 | k+1=>64*vv x v k+gb x (k+1)-128
def EQ(x:ByteArray):Int:=if Yj x 0=true then ((wdt x 0:Nat):Int)else 0
theorem rlen_low(h:gb x 0<128):EQ x=1:=by
 unfold EQ Yj;rw[decide_eq_true h,(NZ h).1];rfl
theorem rlen_no(h:128<=gb x 0)(hn:¬(194<=gb x 0/\gb x 0<=244)):EQ x=0:=by
 have h0:=oX x 0;have:wdt x 0=1:=by
  unfold wdt;rw[Q9];unfold Lib.decodeN
  repeat' split
  all_goals first|rfl|(exfalso;omega)|(simp only;omega)
 unfold EQ Yj;rw[this,decide_eq_false oG];rfl
theorem WV(h:128<=gb x 0)(hn:2<=n)(h1:wdt x 0=n):EQ x=n:=by
 unfold EQ Yj;rw[h1,decide_eq_true hn,Bool.or_true];rfl
theorem rlen_z(h:128<=gb x 0)(h1:wdt x 0=1):EQ x=0:=by
 unfold EQ Yj;rw[h1,decide_eq_false oG];rfl
theorem hd_rl{v l:Int}(hd:Hd (gb x 0) n v l):(n<=x.size->(∀ j,1<=j->j<n->128<=gb x j/\gb x j<=191)->¬(vv x v (n-1)<l\/1114111<vv x v (n-1)\/(55296<=vv x v (n-1)/\vv x v (n-1)<=57343))->EQ x=n)/\((x.size<n\/(∃ j,1<=j/\j<n/\¬(128<=gb x j/\gb x j<=191))\/(vv x v (n-1)<l\/1114111<vv x v (n-1)\/(55296<=vv x v (n-1)/\vv x v (n-1)<=57343))/\(∀ j,1<=j->j<n->128<=gb x j/\gb x j<=191))->EQ x=0):=by
 have b1:=oX x 1;have b2:=oX x 2;have b3:=oX x 3;rcases hd with ⟨h1,h2,rfl,rfl,rfl⟩|⟨h1,h2,rfl,rfl,rfl⟩|⟨h1,h2,rfl,rfl,rfl⟩
 ·refine⟨fun hs hj hz=>WV oG oG ?_,fun hs=>rlen_z oG ?_⟩
  ·have q1:=hj 1 oG oG
   simp only[vv,Nat.zero_add,Nat.reduceAdd,Nat.add_one_sub_one,Nat.reduceSub]at hz;unfold wdt;rw[Q9];simp only[Nat.zero_add,Nat.sub_zero];unfold Lib.decodeN
   repeat' split
   all_goals first|rfl|(exfalso;omega)
  ·have a1:x.size<2\/¬(128<=gb x 1/\gb x 1<=191)\/((64*((gb x 0:Int)-192)+gb x 1-128<128\/1114111<64*((gb x 0:Int)-192)+gb x 1-128\/(55296<=64*((gb x 0:Int)-192)+gb x 1-128/\64*((gb x 0:Int)-192)+gb x 1-128<=57343))/\128<=gb x 1/\gb x 1<=191):=by
    rcases hs with h|⟨j,p1,p2,p3⟩|⟨hz,hj⟩
    ·exact .inl h
    ·obtain rfl:j=1:=by omega
     exact .inr (.inl p3)
    ·exact .inr (.inr ⟨hz,hj 1 oG oG⟩)
   unfold wdt;rw[Q9];simp only[Nat.zero_add,Nat.sub_zero];unfold Lib.decodeN
   repeat' split
   all_goals first|rfl|(exfalso;omega)
 ·refine⟨fun hs hj hz=>WV oG oG ?_,fun hs=>rlen_z oG ?_⟩
  ·have q1:=hj 1 oG oG
   have q2:=hj 2 oG oG;simp only[vv,Nat.zero_add,Nat.reduceAdd,Nat.add_one_sub_one,Nat.reduceSub]at hz;unfold wdt;rw[Q9];simp only[Nat.zero_add,Nat.sub_zero];unfold Lib.decodeN
   repeat' split
   all_goals first|rfl|(exfalso;omega)
  ·have a1:x.size<3\/¬(128<=gb x 1/\gb x 1<=191)\/¬(128<=gb x 2/\gb x 2<=191)\/((vv x ((gb x 0:Int)-224) 2<2048\/1114111<vv x ((gb x 0:Int)-224) 2\/(55296<=vv x ((gb x 0:Int)-224) 2/\vv x ((gb x 0:Int)-224) 2<=57343))/\(128<=gb x 1/\gb x 1<=191)/\128<=gb x 2/\gb x 2<=191):=by
    rcases hs with h|⟨j,p1,p2,p3⟩|⟨hz,hj⟩
    ·exact .inl h
    ·have:j=1\/j=2:=by omega
     rcases this with rfl|rfl
     ·exact .inr (.inl p3)
     ·exact .inr (.inr (.inl p3))
    ·exact .inr (.inr (.inr ⟨hz,hj 1 oG oG,hj 2 oG oG⟩))
   simp only[vv,Nat.zero_add,Nat.reduceAdd,Nat.reduceSub]at a1;unfold wdt;rw[Q9];simp only[Nat.zero_add,Nat.sub_zero];unfold Lib.decodeN
   repeat' split
   all_goals first|rfl|(exfalso;omega)
 ·refine⟨fun hs hj hz=>WV oG oG ?_,fun hs=>rlen_z oG ?_⟩
  ·have q1:=hj 1 oG oG
   have q2:=hj 2 oG oG;have q3:=hj 3 oG oG;simp only[vv,Nat.zero_add,Nat.reduceAdd,Nat.add_one_sub_one,Nat.reduceSub]at hz;unfold wdt;rw[Q9];simp only[Nat.zero_add,Nat.sub_zero];unfold Lib.decodeN
   repeat' split
   all_goals first|rfl|(exfalso;omega)
  ·have a1:x.size<4\/¬(128<=gb x 1/\gb x 1<=191)\/¬(128<=gb x 2/\gb x 2<=191)\/¬(128<=gb x 3/\gb x 3<=191)\/((vv x ((gb x 0:Int)-240) 3<65536\/1114111<vv x ((gb x 0:Int)-240) 3\/(55296<=vv x ((gb x 0:Int)-240) 3/\vv x ((gb x 0:Int)-240) 3<=57343))/\(128<=gb x 1/\gb x 1<=191)/\(128<=gb x 2/\gb x 2<=191)/\128<=gb x 3/\gb x 3<=191):=by
    rcases hs with h|⟨j,p1,p2,p3⟩|⟨hz,hj⟩
    ·exact .inl h
    ·have:j=1\/j=2\/j=3:=by omega
     rcases this with rfl|rfl|rfl
     ·exact .inr (.inl p3)
     ·exact .inr (.inr (.inl p3))
     ·exact .inr (.inr (.inr (.inl p3)))
    ·exact .inr (.inr (.inr (.inr ⟨hz,hj 1 oG oG,hj 2 oG oG,hj 3 oG oG⟩)))
   simp only[vv,Nat.zero_add,Nat.reduceAdd,Nat.reduceSub]at a1;unfold wdt;rw[Q9];simp only[Nat.zero_add,Nat.sub_zero];unfold Lib.decodeN
   repeat' split
   all_goals first|rfl|(exfalso;omega)
theorem wdt_sdr(p:Nat)(s:ByteArray):wdt (sdr p s) 0=wdt s p:=by
 unfold wdt;rw[Q9,Q9,Vy,Vy,Vy,Vy,yy];rfl
theorem rlen_sdr(p:Nat)(s:ByteArray):EQ (sdr p s)=if Yj s p=true then ((wdt s p:Nat):Int)else 0:=by
 have e:Yj (sdr p s) 0=Yj s p:=by unfold Yj;rw[wdt_sdr,Vy];rfl
 unfold EQ;rw[e,wdt_sdr]
theorem spc_iff(c:Nat):spc c=true↔(c=32\/c=9\/c=10\/c=40\/c=41\/c=91\/c=93\/c=44\/c=59):=by
 unfold spc;simp only[Bool.or_eq_true,decide_eq_true_eq];omega
section
structure Rl where
 name:ByteArray
 gr:List Nd
 kids:Int
 wt:Int
 mean:Tm
structure Lx where
 word:ByteArray
 gr:List Nd
 wt:Int
 mean:Tm
abbrev cA(a:Lx)(b:Option Addr)(c:Nat)(d:Tm)(e:Option Addr)(f:Nat)(g:Option Addr)(h:Nat):Array Value:=#[.string a.word,.slice b a.gr.length c,.int .i64 a.wt,.int .i64 d.kind,.string d.name,.int .i64 d.index,.string d.type.base,.slice e d.type.args.length f,.slice g d.args.length h]
def RlIn(w:World)(b o:Nat)(r:Rl):Prop:=∃ G cg S cs B m,w.rangeAt b o [.string r.name,.slice G r.gr.length cg,.int .i64 r.kids,.int .i64 r.wt,.int .i64 r.mean.kind,.string r.mean.name,.int .i64 r.mean.index,.string r.mean.type.base,.slice S r.mean.type.args.length cs,.slice B r.mean.args.length m]/\NodesIn w G r.gr/\SimsIn w S r.mean.type.args/\TmsIn w B r.mean.args
def RulesIn(w:World)(A:Option Addr)(l:List Rl):Prop:=
 l.length<=vX/\(l≠[]->∃ b o,A=some ⟨b,o,none⟩/\b<w.heap.size/\∀ k (h:k<l.length),RlIn w b (o+k*10) l[k])
def LxIn(w:World)(b o:Nat)(r:Lx):Prop:=r.word.size<9223372036854775807/\∃ G cg S cs B m,w.rangeAt b o [.string r.word,.slice G r.gr.length cg,.int .i64 r.wt,.int .i64 r.mean.kind,.string r.mean.name,.int .i64 r.mean.index,.string r.mean.type.base,.slice S r.mean.type.args.length cs,.slice B r.mean.args.length m]/\NodesIn w G r.gr/\SimsIn w S r.mean.type.args/\TmsIn w B r.mean.args
def LexesIn(w:World)(A:Option Addr)(l:List Lx):Prop:=
 l.length<=vX/\(l≠[]->∃ b o,A=some ⟨b,o,none⟩/\b<w.heap.size/\∀ k (h:k<l.length),LxIn w b (o+k*9) l[k])
theorem RlIn.mono{w w':World}{b o:Nat}{r:Rl}(h:RlIn w b o r)(hb:Bel w w')(hl:b<w.heap.size):RlIn w' b o r:=by
 obtain⟨G,cg,S,cs,B,m,h1,h2,h3,h4⟩:=h;exact⟨G,cg,S,cs,B,m,hb.range hl h1,h2.mono hb,h3.mono hb,h4.mono hb⟩
theorem LxIn.mono{w w':World}{b o:Nat}{r:Lx}(h:LxIn w b o r)(hb:Bel w w')(hl:b<w.heap.size):LxIn w' b o r:=by
 obtain⟨h0,G,cg,S,cs,B,m,h1,h2,h3,h4⟩:=h;exact⟨h0,G,cg,S,cs,B,m,hb.range hl h1,h2.mono hb,h3.mono hb,h4.mono hb⟩
theorem RulesIn.mono{w w':World}{A:Option Addr}{l:List Rl}(h:RulesIn w A l)(hb:Bel w w'):RulesIn w' A l:=
 ⟨h.1,fun hn=>by
  obtain⟨b,o,e,hl,hc⟩:=h.2 hn
  exact⟨b,o,e,nLL hl hb.size,fun k hk=>(hc k hk).mono hb hl⟩⟩
theorem LexesIn.mono{w w':World}{A:Option Addr}{l:List Lx}(h:LexesIn w A l)(hb:Bel w w'):LexesIn w' A l:=
 ⟨h.1,fun hn=>by
  obtain⟨b,o,e,hl,hc⟩:=h.2 hn
  exact⟨b,o,e,nLL hl hb.size,fun k hk=>(hc k hk).mono hb hl⟩⟩
theorem RulesIn.at_{l:List Rl}(h:RulesIn w A l)(hb:Bel w w')(hk:k<l.length):
  ∃ b o G cg S cs B m,A=some ⟨b,o,none⟩/\b<w.heap.size/\w'.rangeAt b (o+k*10) [Value.string (l[k]).name,.slice G (l[k]).gr.length cg,.int .i64 (l[k]).kids,.int .i64 (l[k]).wt,.int .i64 (l[k]).mean.kind,.string (l[k]).mean.name,.int .i64 (l[k]).mean.index,.string (l[k]).mean.type.base,.slice S (l[k]).mean.type.args.length cs,.slice B (l[k]).mean.args.length m]/\NodesIn w G (l[k]).gr/\SimsIn w S (l[k]).mean.type.args/\TmsIn w B (l[k]).mean.args:=by
 obtain⟨b,o,e,hl,hc⟩:=h.2 (by rintro rfl;simp at hk);obtain⟨G,cg,S,cs,B,m,h1,h2,h3,h4⟩:=hc k hk;exact⟨b,o,G,cg,S,cs,B,m,e,hl,hb.range hl h1,h2,h3,h4⟩
theorem LexesIn.at_{l:List Lx}(h:LexesIn w A l)(hb:Bel w w')(hk:k<l.length):
  ∃ b o G cg S cs B m,A=some ⟨b,o,none⟩/\b<w.heap.size/\(l[k]).word.size<9223372036854775807/\w'.rangeAt b (o+k*9) [Value.string (l[k]).word,.slice G (l[k]).gr.length cg,.int .i64 (l[k]).wt,.int .i64 (l[k]).mean.kind,.string (l[k]).mean.name,.int .i64 (l[k]).mean.index,.string (l[k]).mean.type.base,.slice S (l[k]).mean.type.args.length cs,.slice B (l[k]).mean.args.length m]/\NodesIn w G (l[k]).gr/\SimsIn w S (l[k]).mean.type.args/\TmsIn w B (l[k]).mean.args:=by
 obtain⟨b,o,e,hl,hc⟩:=h.2 (by rintro rfl;simp at hk);obtain⟨h0,G,cg,S,cs,B,m,h1,h2,h3,h4⟩:=hc k hk;exact⟨b,o,G,cg,S,cs,B,m,e,hl,h0,hb.range hl h1,h2,h3,h4⟩
def plN(g:List Nd)(k:Int)(f:Nat):Bool:=decide ((0:Int)<=tgt (Pk g 0).ln (f:Int))==decide ((f:Int)<=k)
def gK(g:List Nd)(k:Int):Bool:=(List.range 4).all (plN g k)
theorem nd_zero(h:0<g.length):Pk g 0=g[0]:=by simp[Pk,List.getD,h]
theorem pl_yes{k:Int}(h:∀ f,f<4->plN g k f=true):gK g k=true:=aF.2 fun f hf=>h f (az.1 hf)
theorem pl_no{k:Int}(hf:f<4)(h:plN g k f=false):gK g k=false:=by
 grind[gK]
theorem H1{k:Int}(h:0<g.length):plN g k f=(decide ((0:Int)<=tgt (g[0]).ln (f:Int))==decide ((f:Int)<=k)):=by unfold plN;rw[nd_zero h]
def rlBad(r:Rl):Prop:=r.kids<1\/3<r.kids\/r.wt<0\/1000000<r.wt
instance(r:Rl):Decidable (rlBad r):=by unfold rlBad;infer_instance
def Kj(r:Lx):Prop:=r.wt<0\/1000000<r.wt
instance(r:Lx):Decidable (Kj r):=by unfold Kj;infer_instance
noncomputable def Yy(l:List Ty)(fs:List Ft)(r:Lx):Int:=if yV r.word=false then 10 else if Kj r then 3 else if (y9 l fs r.gr).1≠0 then (y9 l fs r.gr).1 else (tmF r.mean).1
theorem C6{r:Lx}(h:yV r.word=false):Yy l fs r=10:=if_pos h
theorem H8{r:Lx}(h0:yV r.word=true)(h:Kj r):Yy l fs r=3:=by unfold Yy;rw[h0,if_neg dE,if_pos h]
theorem lx_gr{r:Lx}(h0:yV r.word=true)(h:¬Kj r)(h2:¬(y9 l fs r.gr).1=0):Yy l fs r=(y9 l fs r.gr).1:=by unfold Yy;rw[h0,if_neg dE,if_neg h,if_pos h2]
theorem lx_ok{r:Lx}(h0:yV r.word=true)(h:¬Kj r)(h2:(y9 l fs r.gr).1=0):Yy l fs r=(tmF r.mean).1:=by unfold Yy;rw[h0,if_neg dE,if_neg h,if_neg (fun e=>e h2)]
theorem Cv(h:(y9 l fs g).1=0):(j9 l.length fs.length g).1=0:=by
 grind[h1,j9,Ny]
variable {l:List Ty} {fs:List Ft} {rs:List Rl} {xs:List Lx} {st:List Nd}
theorem feats_few(h:(qW l fs).1=0):fs.length<=40:=by
 grind[qW]
end
theorem r_cvU{n:Nw}{f:Fr}{ty:TypeId}{pos:String}{af:Array Edge}{x:Operand}{k':IntKind}{a:Int}{t t':TypeId}{dd:TypeDesc}(hs:P.underlying t=some dd)(hd:P.underlying t'=some (.int .u64))(hx:ev n f x= .int k' a)(ha:0<=a/\a<=18446744073709551615):
  RV P n f w ⟨dst,.convert t t' x,ty,pos,af,gd⟩ (.int .u64 a) w:=by
 have:=IntWalk.u64_in a ha;simp[RV,execOp,hx,convert,run_underlying hs,run_underlying hd,Conv.intToInt,this]
def Oq(a b:Int):Int:=if a<b then -1 else if b<a then 1 else 0
theorem cmpI_lt{a b:Int}:Oq a b<0↔a<b:=by unfold Oq;split<;>(try split)<;>omega
theorem cmpI_eq{a b:Int}:Oq a b=0↔a=b:=by unfold Oq;split<;>(try split)<;>omega
theorem xw:(prog.info? 3).map (·.size)=some 1:=by kernel_rfl
theorem qx:(prog.info? 84).map (·.size)=some 2:=by kernel_rfl
theorem nan_any(a:Int)(w:World):Calls prog 120 #[.int .i64 a] w fun e w'=>e= .returned (.bool false)/\Bel w w':=by
 refine enT func120 ntmps120 rfl rfl fun hB=>?_;refine Ky ?_;exact⟨jQ (ap (fun h=>h rfl)).symm,hB⟩
theorem Dq(a b:Int)(w:World):Calls prog 107 #[.int .i64 a,.int .i64 b] w fun e w'=>e= .returned (.int .i64 (Oq a b))/\Bel w w':=by
 refine enT func107 ntmps107 rfl rfl fun hB=>?_;refine zn8 ?_;refine a7 kR (nan_any _ _) rfl (fun w1 s1=>?_);refine zn6 ?_;refine a7 kR (nan_any _ _) rfl (fun w2 s2=>?_);refine zn9 ?_;refine jv rfl (fun c11=>?_) (fun c11=>?_)
 ·exact absurd c11 dE
 refine zn8 ?_;refine jv rfl (fun c13=>?_) (fun c13=>?_)
 ·exact absurd c13 dE
 refine yj ?_;refine zZ rfl (fun a1=>?_) (fun a1=>?_)
 ·refine zn8 ?_;replace hB:=hB.tr0 (s1.t s2);exact⟨Zq (by unfold Oq;rw[if_pos a1]),hB⟩
 refine yj ?_;refine zZ rfl (fun a2=>?_) (fun a2=>?_)
 ·refine zn8 ?_;replace hB:=hB.tr0 (s1.t s2);exact⟨Zq (by unfold Oq;rw[if_neg a1];exact if_pos a2),hB⟩
 refine zn9 ?_;replace hB:=hB.tr0 (s1.t s2);exact⟨Zq (by unfold Oq;rw[if_neg a1];exact if_neg a2),hB⟩
theorem tcl_any(a b f:Int)(w:World):Calls prog 106 #[.agg #[.int .i64 a,.int .i64 b],.int .i64 f] w fun e w'=>e= .returned (.int .i64 (Oq a f))/\Bel w w':=by
 refine enT func106 ntmps106 rfl rfl fun hB=>?_;refine zn2 ?_;refine qv (cs:=#[_,_]) rfl (fun b2 w1 hb2 s1 hr=>?_);refine zn8 ?_;refine a7 kR (Dq _ _ _) rfl (fun w2 s2=>?_);refine zn5 ?_;exact⟨rfl,hB.u⟩
theorem bsf_any(A:Option Addr)(c:Nat)(xs:List (Int×Int))(f:Int)(w:World)(hX:LinksIn w A xs)(hl:xs.length<=1000)(a1:∀ i j (hi:i<xs.length) (hj:j<xs.length),i<=j->(xs[i]).1<=(xs[j]).1):Calls prog 105 #[.slice A xs.length c,.int .i64 f,.func (.func 106) #[] #[]] w fun e w'=>(∃(i:Nat) (b:Bool),i<=xs.length/\e= .returned (.tuple #[.int .i64 i,.bool b])/\(∀ j (hj:j<xs.length),j<i->(xs[j]).1<f)/\(∀ j (hj:j<xs.length),i<=j->f<=(xs[j]).1)/\(b=true↔∃ h:i<xs.length,(xs[i]).1=f))/\Bel w w':=by
 refine enT func105 ntmps105 rfl rfl fun hB=>?_;refine zn22 ?_;refine qz (rg [9,10,11] 15 20) (fun m g w'=>∃ i j:Nat,i<=j/\j<=xs.length/\m=j-i/\g 9= .int .i64 i/\g 10= .int .i64 j/\Bel w w'/\(∀ x (hx:x<xs.length),x<i->(xs[x]).1<f)/\(∀ x (hx:x<xs.length),j<=x->f<=(xs[x]).1)) (xs.length) ?_ (fun m g3 w1 hI=>?_)
 ·exact⟨0,xs.length,ah _,ai _,rfl,rfl,rfl,hB,fun x _ h=>by omega,fun x h1 h2=>by omega⟩
 obtain⟨i,j,hij,hj,hm,h9,h10,hB,a4,a8⟩:=hI;refine zQ 9 _ h9 nu (zQ 10 _ h10 nu (zn8 ?_));refine zZ rfl (fun c17=>?_) (fun c17=>?_)
 ·obtain⟨h,hh⟩:∃ h,h=(i+j)/2:=⟨_,rfl⟩
  have an:h<xs.length:=by omega
  obtain⟨lb,lof,rfl,hlb,a9⟩:=hX.at_ hB an;refine zn7 ?_;refine wl (uW (c:=((i+j:Nat):Int)) rfl rfl oG oG) (wl (r_cvU U3 underlying161 rfl oG) (wl (r_shr (b:=1) (c:=h) rfl rfl oG (by rw[hh,Nat.shiftRight_eq_div_pow])) (wl (S5 underlying161 U3 rfl oG) (zn9 ?_))));refine wl (qw U84 rfl rfl a9 qx) (wmI rfl ?_);refine yk rfl kR (tcl_any _ _ f _) rfl rfl (fun e' w2 hr=>?_);obtain⟨rfl,hs⟩:=hr;replace hB:=hB.tr0 (sB hs);refine⟨_,rfl,?_⟩;refine zn3 ?_;refine zZ rfl (fun ao=>?_) (fun ao=>?_)
  ·have hlt:=cmpI_lt.1 ao;obtain⟨i2,ad⟩:∃ i2,i2=h+1:=⟨_,rfl⟩
   obtain⟨j2,ab⟩:∃ j2,j2=j:=⟨_,rfl⟩
   have a2:∀ x (hx:x<xs.length),x<i2->(xs[x]).1<f:=fun x hx hxi=>by
     by_cases e:x=h
     ·subst e;exact hlt
     ·have hsx:(xs[x]).1<=(xs[h]).1:=a1 x h hx an oG
      omega
   have a3:∀ x (hx:x<xs.length),j2<=x->f<=(xs[x]).1:=fun x hx hxj=>a8 x hx oG
   refine zn6 ?_;refine x9 (j2-i2) oG agA ?_;exact⟨i2,j2,by omega,by omega,rfl,by subst ad;rfl,by subst ab;rfl,hB,a2,a3⟩
  have hge:¬(xs[h]).1<f:=fun h=>ao (cmpI_lt.2 h)
  obtain⟨i2,ad⟩:∃ i2,i2=i:=⟨_,rfl⟩
  obtain⟨j2,ab⟩:∃ j2,j2=h:=⟨_,rfl⟩
  have a2:∀ x (hx:x<xs.length),x<i2->(xs[x]).1<f:=fun x hx hxi=>a4 x hx oG
  have a3:∀ x (hx:x<xs.length),j2<=x->f<=(xs[x]).1:=fun x hx hxj=>by
    have hsx:(xs[h]).1<=(xs[x]).1:=a1 h x an hx oG;omega
  refine zn5 ?_;refine x9 (j2-i2) oG agA ?_;exact⟨i2,j2,by omega,by omega,rfl,by subst ad;rfl,by subst ab;rfl,hB,a2,a3⟩
 have ac:i=j:=by omega
 subst ac;refine yZ ?_;refine zk 39 rfl (fun g39=>?_) (fun g39=>?_)
 ·refine zn6 ?_;have a5:i<xs.length:=by omega
  obtain⟨lb,lof,rfl,hlb,a9⟩:=hX.at_ hB a5;refine zn3 ?_;refine wl (qw U84 rfl rfl a9 qx) (zn3 ?_);refine yk rfl kR (tcl_any _ _ f _) rfl rfl (fun e' w3 hr=>?_);obtain⟨rfl,hs⟩:=hr;replace hB:=hB.tr0 (sB hs);refine⟨_,rfl,?_⟩;refine zn8 ?_;refine uK (.inl rfl) rfl rfl rfl ?_
  first
    | exact⟨⟨i,false,by omega,rfl,a4,a8,⟨fun h=>(Bool.noConfusion h),fun hh=>absurd hh.1 oG⟩⟩,hB⟩
    | exact⟨⟨i,decide (Oq (xs[i]'a5).1 f=0),by omega,rfl,a4,a8,by rw[decide_eq_true_iff,cmpI_eq];exact⟨fun h=>⟨a5,h⟩,fun⟨_,h⟩=>h⟩⟩,hB⟩
 refine QY ?_;refine uK (.inl rfl) rfl rfl rfl ?_
 first
   | exact⟨⟨i,false,by omega,rfl,a4,a8,⟨fun h=>(Bool.noConfusion h),fun hh=>absurd hh.1 oG⟩⟩,hB⟩
   | exact⟨⟨i,decide (Oq (xs[i]'a5).1 f=0),by omega,rfl,a4,a8,by rw[decide_eq_true_iff,cmpI_eq];exact⟨fun h=>⟨a5,h⟩,fun⟨_,h⟩=>h⟩⟩,hB⟩
end Go.Proofs.YtndbjnkilegebaaGreatDoor
