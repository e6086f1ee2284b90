/- The engine's part for drawn regions in which the operations that do more than yield a value wait for one another: such a region is walked in one order. What the data of hierarchies are as plain values, and how a world holds them. Arguments opened: slices of ints and of structs, as the readings of data give them. Nothing here speaks of one program. Steps that need no hint. What these functions of the program compute, at every world: glosswright/term.Name, glosswright/hierarchy.fault. -/
import Derived.Test.YtdgnllfbooklcaaDoorEng2
import Derived.OrdersHeld
import Derived.ChangeSame
import Derived.ChangeArms
import Derived.Clock
import Derived.Carry
import Derived.OpenShut
import Derived.Deep.Slices
import Derived.Deep.Strs
import Derived.Lib.SmallJoins
import Derived.Test.YtdgnllfbooklcaaDoorU
import Derived.Test.YtdgnllfbooklcaaDoorProg
namespace Go.Proofs.YtdgnllfbooklcaaDoor
open Go.RowKit
section held
variable {P:Program} {Q:Exit→Act→World→Prop} {n:Nat} {f:Fr} {w:World} {l:List Oper} {X ds is:List Nat}
def mk (m:Nat):List Nat→Array Bool
  | []=>Array.replicate m false
  | i :: is=>(mk m is).setIfInBounds i true
def PQ (Q:Exit→Act→World→Prop):Prop:=∀ (d:Option Tmp) v c a w,Q (.panic c) (Act.put a d v) w→Q (.panic c) a w
def okL (l:List Oper):List Nat→List Nat→Bool
  | ds,[]=>(Region.ready .any l.toArray (mk l.length ds)).isEmpty
  | ds,i :: is=>((Region.free .any l.toArray (mk l.length ds) i && (Region.ready .any l.toArray (mk l.length ds)).contains i) || (Region.ready .any l.toArray (mk l.length ds) == [i])) && okL l (i :: ds) is
def HL (P:Program) (l:List Oper) (Q:Exit→Act→World→Prop) (X ds is:List Nat) (n:Nat) (f:Fr) (w:World):Prop:=
  Region.noSelect l.toArray=true→okL l ds is=true→PQ Q→wpAnyH P .any l.toArray Q (fun w'=>Same X w w') is.length (mk l.length ds) (AF n f) w
theorem DQ {S S':World→Prop} (hS:∀ w,S' w→S w):∀ (fuel:Nat) (listed:Array Bool) (a:Act) (w:World),wpAnyH P .any l.toArray Q S' fuel listed a w→wpAnyH P .any l.toArray Q S fuel listed a w
  | 0,_,_,_,h=>h
  | fuel + 1,_,_,_,h=>⟨h.1,fun i hi=>wpOp_mono (fun a' w' h'=>⟨hS _ h'.1,DQ hS fuel _ a' w' h'.2⟩) (h.2 i hi)⟩
theorem o8 {id:Nat} (X is:List Nat) (hm:P.follows .mixedOrders=true) (K:∀ w1,Same [] w w1→HL P l Q X [] is n f w1) (hc:(Region.noSelect l.toArray && (Nat.beq is.length l.length && okL l [] is))=true:=by kernel_rfl) (hQ:PQ Q:=by first | (intro d;cases d <;> exact fun _ _ _ _ h=>h) | (have h:=‹PQ _›;exact fun d v c a w k=>h d v c a w k)):WC P (.region id l.toArray true) Q n f w:=by
  unfold WC;simp only [Bool.and_eq_true] at hc;have e:is.length=l.length:=Nat.eq_of_beq_eq_true hc.2.1;have h:=K { w with drawn:=w.drawn + 1 } (Same.drew w 1) hc.1 hc.2.2 hQ;rw [e] at h;exact wp_region_any hm (wpAny_of_held _ _ _ _ h)
theorem h_yi {i:Nat} {o:Oper} {v:Value} (ho:l[i]? =some o) (hy:YieldsIf P l.toArray (fun w'=>Same X w w') o v (AF n f)) (K:HL P l Q X (i :: ds) is n (RZ f o.dst v) w):HL P l Q X ds (i :: is) n f w:=by
  intro h2 hc hQ;simp only [okL,Bool.and_eq_true,Bool.or_eq_true] at hc;obtain⟨hc1,hc⟩:=hc;have hK:=K h2 hc hQ;rw [← Ek] at hK;have ho':(l.toArray)[i]? =some o:=by simpa using ho
  rcases hc1 with ⟨h3,h4⟩ | h4
  · exact wpAnyH_take ho' h2 h3 h4 (hQ _ _) hy (Same.refl _ _) hK
  · exact wpAnyH_all (eq_of_beq h4) (by simp) (fun j hj=>by rw [List.mem_singleton.1 hj];exact hy.wpOp ho' (Same.refl _ _) ⟨Same.refl _ _,hK⟩)
variable {op:Op} {ty t:TypeId} {pos:String} {af:Array Edge} {v:Value} {x:Operand} {d:Tmp} {i:Nat}
theorem MY {o:Oper} {w':World} (h:RV P n f w o v w'):(execOp (ev n f) o).run P w= .ok (.value v) w':=by unfold RV at h;exact h
theorem hl (ho:l[i]? =some ⟨some d,op,ty,pos,af,none⟩) (h:∀ w',RV P n f w' ⟨some d,op,ty,pos,af,none⟩ v w') (K:HL P l Q X (i :: ds) is n (upd f d v) w):HL P l Q X ds (i :: is) n f w:=
  h_yi ho (.inl ⟨by simp [Region.wanted],fun w' _=>by rw [jY];exact MY (h w')⟩) K
theorem hle {u:Value} (ho:l[i]? =some ⟨some d,op,ty,pos,af,none⟩) (h:∀ w',RV P n f w' ⟨some d,op,ty,pos,af,none⟩ u w') (e:u=v) (K:HL P l Q X (i :: ds) is n (upd f d v) w):HL P l Q X ds (i :: is) n f w:=
  hl ho (fun w'=>e ▸ h w') K
theorem Same.cl {w':World} {b o:Nat} (hs:Same X w w') (hb:b ∉ X) (hc:w.cell? ⟨b,o,none⟩=some v):w'.cell? ⟨b,o,none⟩=some v:=by
  have hl:b < w.heap.size:=by
    refine Classical.byContradiction (fun h=>?_);have:w.heap[b]? =none:=Array.getElem?_eq_none om;simp [World.cell?,this] at hc
  have h:=hs.blk b hl hb;simp only [World.cell?,h] at hc ⊢;exact hc
theorem hl1 {b o:Nat} {dd:TypeDesc} (ho:l[i]? =some ⟨some d,.load t x,ty,pos,af,none⟩) (hu:P.underlying t=some dd) (hd:dd.isRow=false) (hx:ev n f x= .pointer (some ⟨b,o,none⟩)) (hl:w.cell? ⟨b,o,none⟩=some v) (K:HL P l Q X (i :: ds) is n (upd f d v) w) (hb:b ∉ X:=by first | exact List.not_mem_nil | (simp only [List.mem_cons,List.not_mem_nil,or_false,not_or];omega)):HL P l Q X ds (i :: is) n f w:=
  h_yi ho (.inl ⟨by simp [Region.wanted],fun w' hs=>by rw [jY];exact MY (qY hu hd hx (hs.cl hb hl))⟩) K
theorem hlS {b o:Nat} {dd:TypeDesc} {cs:List Value} (ho:l[i]? =some ⟨some d,.load t x,ty,pos,af,none⟩) (hu:P.underlying t=some dd) (hd:dd.isRow=true) (hx:ev n f x= .pointer (some ⟨b,o,none⟩)) (hl:w.rangeAt b o cs) (hi:(P.info? t).map (·.size)=some cs.length) (K:HL P l Q X (i :: ds) is n (upd f d (.agg cs.toArray)) w) (hb:b ∉ X:=by first | exact List.not_mem_nil | (simp only [List.mem_cons,List.not_mem_nil,or_false,not_or];omega)):HL P l Q X ds (i :: is) n f w:=
  h_yi ho (.inl ⟨by simp [Region.wanted],fun w' hs=>by rw [jY];exact MY (qW hu hd hx (fun j v hj=>hs.cl hb (hl j v hj)) hi)⟩) K
theorem hg {dst:Option Tmp} {j:Nat} {b:Bool} (g:Tmp) (ho:l[i]? =some ⟨dst,op,ty,pos,af,some (j,b)⟩) (hj:(l.toArray[j]?).bind (·.dst)=some g) (hv:ev n f (.tmp g)= .bool b) (h:∀ w',Same X w w'→RV P n f w' ⟨dst,op,ty,pos,af,some (j,b)⟩ v w') (K:HL P l Q X (i :: ds) is n (RZ f dst v) w):HL P l Q X ds (i :: is) n f w:=
  h_yi ho (.inl ⟨by rw [Mv hj hv];simp,fun w' hs=>by rw [jY];exact MY (h w' hs)⟩) K
theorem hge {dst:Option Tmp} {j:Nat} {b:Bool} (g:Tmp) {u:Value} (ho:l[i]? =some ⟨dst,op,ty,pos,af,some (j,b)⟩) (hj:(l.toArray[j]?).bind (·.dst)=some g) (hv:ev n f (.tmp g)= .bool b) (h:∀ w',Same X w w'→RV P n f w' ⟨dst,op,ty,pos,af,some (j,b)⟩ u w') (e:u=v) (K:HL P l Q X (i :: ds) is n (RZ f dst v) w):HL P l Q X ds (i :: is) n f w:=
  hg g ho hj hv (fun w' hs=>e ▸ h w' hs) K
theorem hg1 {j:Nat} {b':Bool} {b o:Nat} {dd:TypeDesc} (g:Tmp) (ho:l[i]? =some ⟨some d,.load t x,ty,pos,af,some (j,b')⟩) (hj:(l.toArray[j]?).bind (·.dst)=some g) (hv:ev n f (.tmp g)= .bool b') (hu:P.underlying t=some dd) (hd:dd.isRow=false) (hx:ev n f x= .pointer (some ⟨b,o,none⟩)) (hl:w.cell? ⟨b,o,none⟩=some v) (K:HL P l Q X (i :: ds) is n (upd f d v) w) (hb:b ∉ X:=by first | exact List.not_mem_nil | (simp only [List.mem_cons,List.not_mem_nil,or_false,not_or];omega)):HL P l Q X ds (i :: is) n f w:=
  hg g ho hj hv (fun w' hs=>qY hu hd hx (hs.cl hb hl)) K
theorem hgS {j:Nat} {b':Bool} {b o:Nat} {dd:TypeDesc} {cs:List Value} (g:Tmp) (ho:l[i]? =some ⟨some d,.load t x,ty,pos,af,some (j,b')⟩) (hj:(l.toArray[j]?).bind (·.dst)=some g) (hv:ev n f (.tmp g)= .bool b') (hu:P.underlying t=some dd) (hd:dd.isRow=true) (hx:ev n f x= .pointer (some ⟨b,o,none⟩)) (hl:w.rangeAt b o cs) (hi:(P.info? t).map (·.size)=some cs.length) (K:HL P l Q X (i :: ds) is n (upd f d (.agg cs.toArray)) w) (hb:b ∉ X:=by first | exact List.not_mem_nil | (simp only [List.mem_cons,List.not_mem_nil,or_false,not_or];omega)):HL P l Q X ds (i :: is) n f w:=
  hg g ho hj hv (fun w' hs=>qW hu hd hx (fun j v hj=>hs.cl hb (hl j v hj)) hi) K
theorem hsk {dst:Option Tmp} {j:Nat} {b:Bool} (g:Tmp) (ho:l[i]? =some ⟨dst,op,ty,pos,af,some (j,b)⟩) (hj:(l.toArray[j]?).bind (·.dst)=some g) (hv:ev n f (.tmp g)= .bool (!b)) (K:HL P l Q X (i :: ds) is n (RZ f dst undef) w):HL P l Q X ds (i :: is) n f w:=
  h_yi ho (.inr ⟨by rw [Mv hj hv];cases b <;> rfl,rfl⟩) K
theorem LZ (t:Nat) {b:Bool} (hv:ev n f (.tmp t)= .bool b) (h1:b=true→HL P l Q X ds is n (upd f t (.bool true)) w) (h2:b=false→HL P l Q X ds is n (upd f t (.bool false)) w):HL P l Q X ds is n f w:=by
  have hf:=YY hv nu;cases b
  · have:=h2 rfl;rwa [u9 hf] at this
  · have:=h1 rfl;rwa [u9 hf] at this
def QH (P:Program) (l:List Oper) (Q:Exit→Act→World→Prop) (S:World→Prop) (ds is:List Nat):Exit→Act→World→Prop
  | .normal,a,w=>Region.noSelect l.toArray=true→okL l ds is=true→PQ Q→S w∧wpAnyH P .any l.toArray Q S is.length (mk l.length ds) a w
  | e,a,w=>Q e a w
theorem wp_qh {S:World→Prop} {o:Oper} {a:Act} {K:Act→World→Prop} (h:o.wp P a w K (QH P l Q S ds is)):o.wp P a w K Q:=by
  unfold Oper.wp at *
  generalize (execOp a.eval o).run P w=r at *
  cases r with
  | ok x w'=>cases x <;> exact h
  | halt x w'=>cases x <;> exact h
theorem e_H {w0:World} {X X':List Nat} (hs:Same X w0 w) (hX:∀ g ∈ X',g ∈ X∨w0.heap.size≤g) (h:HL P l Q X' ds is n f w):EX (QH P l Q (fun w'=>Same X w0 w') ds is) .normal n f w:=by
  unfold EX;exact fun h2 hc hQ=>⟨hs,DQ (fun w' (h':Same X' w w')=>⟨h'.os.trans hs.os,h'.tape.trans hs.tape,h'.output.trans hs.output,nLT hs.size h'.size,fun k hk hx=>(h'.blk k (nLL hk hs.size) (fun hm=>(hX k hm).elim hx (fun h2=>by omega))).trans (hs.blk k hk hx)⟩) _ _ _ _ (h h2 hc hQ)⟩
theorem Py {w0:World} (hs:Same [] w0 w) (h:HL P l Q [] ds is n f w):EX (QH P l Q (fun w'=>Same [] w0 w') ds is) .normal n f w:=e_H hs (fun _ hg=> .inl hg) h
theorem h1 {o:Oper} (ho:l[i]? =some o) (h:WL P l.toArray (QH P l Q (fun w'=>Same X w w') (i :: ds) is) [o] n f w) (hr:Region.ready .any l.toArray (mk l.length ds)= [i]:=by kernel_rfl):HL P l Q X ds (i :: is) n f w:=by
  intro h2 hc hQ;simp only [okL,Bool.and_eq_true] at hc;refine wpAnyH_all hr (by simp) (fun j hj=>?_);rw [List.mem_singleton.1 hj];unfold wpOp;have ho':(l.toArray)[i]? =some o:=by simpa using ho
  simp only [ho'];unfold WL wpList at h;by_cases hwt:Region.wanted o (yielded l.toArray (AF n f).tmps)=true
  · rw [if_pos hwt] at h ⊢
    rcases h with h | h
    · exact .inl (Oper.wp_mono (fun a' w' h'=>(show QH P l Q _ _ _ .normal a' w' from h') h2 hc.2 hQ) (wp_qh h))
    · exact .inr h
  · rw [if_neg hwt] at h ⊢
    exact(show QH P l Q _ _ _ .normal _ w from h) h2 hc.2 hQ
theorem h_end (h:EX Q .normal n f w):HL P l Q X ds [] n f w:=fun _ hc _=>by
  unfold EX at h
  exact wpAnyH_done (by simpa [okL] using hc) h _
theorem hcl (Rk:Value→World→Prop) {F:FuncId} {xs:Array Operand} {ats:Array TypeId} {args:List Value} {R:Ending→World→Prop} (ho:l[i]? =some ⟨some d,.call { callee:= .value (.func F),args:=xs,argTypes:=ats },ty,pos,af,none⟩) (hF:zZ P F=true) (hc:Calls P F args.toArray w R) (hargs:xs.toList.map (ev n f)=args)
    (hR:∀ e' w1,R e' w1→∃ v,e'= .returned v∧Same [] w w1∧Rk v w1) (K:∀ v w1,Same [] w w1→Rk v w1→HL P l Q X (i :: ds) is n (upd f d v) w1) (hr:Region.ready .any l.toArray (mk l.length ds)= [i]:=by kernel_rfl):HL P l Q X ds (i :: is) n f w:=by
  refine h1 ho (qz hF hc hargs (fun e' w1 h=>?_)) hr;obtain⟨v,h1,h2,h3⟩:=hR e' w1 h;exact⟨v,h1,zQ (e_H (h2.weak (by simp)) (fun g hg=> .inl hg) (K v w1 h2 h3))⟩
theorem V4 (i:Nat) {k:Nat} {listed:Array Bool} (ho:l[i]? =some ⟨some d,op,ty,pos,af,none⟩) (h:∀ w',RV P n f w' ⟨some d,op,ty,pos,af,none⟩ v w') (K:WA P l Q k (listed.setIfInBounds i true) n (upd f d v) w) (hc:(Region.noSelect l.toArray && (Region.free .any l.toArray listed i && (Region.ready .any l.toArray listed).contains i))=true:=by kernel_rfl) (hQ:PQ Q:=by first | (intro d;cases d <;> exact fun _ _ _ _ h=>h) | (have h:=‹PQ _›;exact fun d v c a w k=>h d v c a w k)):WA P l Q (k + 1) listed n f w:=by
  simp only [Bool.and_eq_true] at hc;obtain⟨h2,h3,h4⟩:=hc;unfold WA at K ⊢;refine wpAny_take (by simpa using ho) h2 h3 h4 (hQ _ _) (.inl ⟨by simp [Region.wanted],fun w'=>by rw [jY];exact MY (h w')⟩) ?_;rw [Ek];exact K
end held
attribute [irreducible] HL
end Go.Proofs.YtdgnllfbooklcaaDoor
namespace Go.Proofs.YtdgnllfbooklcaaDoor
open Go.RowKit
structure Ty where
  name:ByteArray
  par:List Int
structure Ft where
  name:ByteArray
  of:Int
  val:Int
abbrev Fl:=Int×Int
def flV (p:Fl):Value:= .agg #[.int .i64 p.1,.int .i64 p.2]
theorem xK {c i:Int} {p:Fl} (h:p=(c,i)):Ending.returned (.agg [.int .i64 c,.int .i64 i].toArray)= .returned (flV p):=by rw [h];rfl
def j7:Nat:=9223372036854775807
def IntsIn (w:World) (A:Option Addr) (xs:List Int):Prop:=
  xs.length≤j7∧(xs≠[]→∃ b o,A=some ⟨b,o,none⟩∧b < w.heap.size∧∀ k (h:k < xs.length),w.cell? ⟨b,o + k * 1,none⟩=some (.int .i64 xs[k]))
theorem IntsIn.mono {w w':World} {A:Option Addr} {xs:List Int} (h:IntsIn w A xs) (hb:Bel w w'):IntsIn w' A xs:=
  ⟨h.1,fun hn=>by
    obtain⟨b,o,e,hl,hc⟩:=h.2 hn
    exact⟨b,o,e,nLL hl hb.size,fun k hk=>hb.cell hl (hc k hk)⟩⟩
theorem IntsIn.at_ {w:World} {A:Option Addr} {xs:List Int} (h:IntsIn w A xs) {k:Nat} (hk:k < xs.length):
    ∃ b o,A=some ⟨b,o,none⟩∧b < w.heap.size∧w.cell? ⟨b,o + k * 1,none⟩=some (.int .i64 xs[k]):=by
  obtain⟨b,o,e,hl,hc⟩:=h.2 (by rintro rfl;simp at hk);exact⟨b,o,e,hl,hc k hk⟩
def TyIn (w:World) (b o:Nat) (t:Ty):Prop:=∃ A c,w.rangeAt b o [.string t.name,.slice A t.par.length c]∧IntsIn w A t.par
def TypesIn (w:World) (A:Option Addr) (l:List Ty):Prop:=
  l.length≤j7∧(l≠[]→∃ b o,A=some ⟨b,o,none⟩∧b < w.heap.size∧∀ k (h:k < l.length),TyIn w b (o + k * 2) l[k])
theorem TyIn.mono {w w':World} {b o:Nat} {t:Ty} (h:TyIn w b o t) (hb:Bel w w') (hl:b < w.heap.size):TyIn w' b o t:=by
  obtain⟨A,c,h1,h2⟩:=h;exact⟨A,c,hb.range hl h1,h2.mono hb⟩
theorem TypesIn.mono {w w':World} {A:Option Addr} {l:List Ty} (h:TypesIn w A l) (hb:Bel w w'):TypesIn w' A l:=
  ⟨h.1,fun hn=>by
    obtain⟨b,o,e,hl,hc⟩:=h.2 hn
    exact⟨b,o,e,nLL hl hb.size,fun k hk=>(hc k hk).mono hb hl⟩⟩
theorem TypesIn.at_ {w w':World} {A:Option Addr} {l:List Ty} (h:TypesIn w A l) (hb:Bel w w') {k:Nat} (hk:k < l.length):
    ∃ b o A' c,A=some ⟨b,o,none⟩∧b < w.heap.size∧w'.rangeAt b (o + k * 2) [.string (l[k]).name,.slice A' (l[k]).par.length c]∧IntsIn w A' (l[k]).par:=by
  obtain⟨b,o,e,hl,hc⟩:=h.2 (by rintro rfl;simp at hk);obtain⟨A',c,h1,h2⟩:=hc k hk;exact⟨b,o,A',c,e,hl,hb.range hl h1,h2⟩
def FtIn (w:World) (b o:Nat) (t:Ft):Prop:=w.rangeAt b o [.string t.name,.int .i64 t.of,.int .i64 t.val]
def FeatsIn (w:World) (A:Option Addr) (l:List Ft):Prop:=
  l.length≤j7∧(l≠[]→∃ b o,A=some ⟨b,o,none⟩∧b < w.heap.size∧∀ k (h:k < l.length),FtIn w b (o + k * 3) l[k])
theorem FeatsIn.mono {w w':World} {A:Option Addr} {l:List Ft} (h:FeatsIn w A l) (hb:Bel w w'):FeatsIn w' A l:=
  ⟨h.1,fun hn=>by
    obtain⟨b,o,e,hl,hc⟩:=h.2 hn
    exact⟨b,o,e,nLL hl hb.size,fun k hk=>hb.range hl (hc k hk)⟩⟩
theorem FeatsIn.at_ {w w':World} {A:Option Addr} {l:List Ft} (h:FeatsIn w A l) (hb:Bel w w') {k:Nat} (hk:k < l.length):
    ∃ b o,A=some ⟨b,o,none⟩∧b < w.heap.size∧w'.rangeAt b (o + k * 3) [.string (l[k]).name,.int .i64 (l[k]).of,.int .i64 (l[k]).val]:=by
  obtain⟨b,o,e,hl,hc⟩:=h.2 (by rintro rfl;simp at hk);exact⟨b,o,e,hl,hb.range hl (hc k hk)⟩
def uV (i:Int):Int→List Int→Int
  | _,[]=>0
  | last,p :: ps=>if p < 0∨i≤p then 3 else if p≤last then 13 else uV i p ps
def qZ (f:Nat→Int):Nat→Nat→Fl
  | _,0=>(0,0)
  | i,m + 1=>if f i≠0 then (f i,(i:Int)) else qZ f (i + 1) m
theorem xJ {f:Nat→Int} {i m:Nat} {c:Int} (hm:0 < m) (hc:f i=c) (h:c≠0):qZ f i m=(c,(i:Int)):=by
  subst hc;cases m with
  | zero=>omega
  | succ m=>simp [qZ,h]
theorem jj {f:Nat→Int} {i n:Nat} (hm:i < n) (h:f i=0):qZ f i (n - i)=qZ f (i + 1) (n - (i + 1)):=by
  obtain⟨m,hm'⟩:∃ m,n - i=m + 1:=⟨n - i - 1,by omega⟩
  rw [hm',show n - (i + 1)=m from by omega];simp [qZ,h]
theorem kj {f:Nat→Int} {i n:Nat} (h:n≤i):qZ f i (n - i)=(0,0):=by
  rw [show n - i=0 from by omega];rfl
def oJ (l:List ByteArray) (s:ByteArray):Bool:=l.any (fun u=>decide (u=s))
theorem MW (l:List ByteArray) (u s:ByteArray):oJ (l ++ [u]) s=(oJ l s || decide (u=s)):=by simp [oJ]
theorem XX {α:Type} (l:List α) {k:Nat} (hk:k < l.length):l.take (k + 1)=l.take k ++ [l[k]]:=by
  rw [List.take_succ_eq_append_getElem hk]
end Go.Proofs.YtdgnllfbooklcaaDoor
namespace Go.Proofs.YtdgnllfbooklcaaDoor
open Go.RowKit Go.ChangeShapes Go.WideShapes Go.Deep Go.Joins
theorem jk {α:Type} {n:Nat} {p:Nat→α→Prop} (h:∀ i,i < n→∃ x,p i x):∃ l:List α,l.length=n∧∀ k (hk:k < l.length),p k l[k]:=by
  induction n with
  | zero=>exact⟨[],rfl,fun k hk=>by simp at hk⟩
  | succ n ih=>
    obtain⟨l,hl,hp⟩:=ih (fun i hi=>h i om);obtain⟨x,hx⟩:=h n om;refine⟨l ++ [x],by simp [hl],fun k hk=>?_⟩;by_cases e:k < l.length
    · rw [List.getElem_append_left e];exact hp k e
    · have e2:k=l.length:=by simp at hk;omega
      subst e2;have e3:(l ++ [x])[l.length]'hk=x:=by simp
      rw [e3,hl];exact hx
section
variable {H:Type} {enc:TypeId×Value→H} {P:Program} {w:World} {base:Nat} {spare:Nat→Bool} {held:Bool}
theorem jJ {v v':Value} (h:[v]= [v']):v=v':=by cases h;rfl
theorem JK {t e:TypeId} {sz fuel:Nat} {v:Value} {x:DataW H×List MemPlace} (ht:P.underlying t=some (.slice e)) (hsz:P.cellsOf e=sz) (hpos:0 < sz) (h:DataW.trod enc P w base spare held fuel t [v]=some x):
    ∃ A len c,v= .slice A len c∧len≤c∧c≤j7∧(len≠0→∃ b o,A=some ⟨b,o,none⟩∧b < w.heap.size∧∀ i,i < len→∃ cs k y,cs.length=sz∧w.rangeAt b (o + i * sz) cs∧DataW.trod enc P w base spare held k e cs=some y):=by
  rcases open_slice ht h with ⟨hc,_⟩ | ⟨a,len,cap,m,n,D,Pl,hc,hb,hl,hm,hmm,_,hi⟩
  · rw [jJ hc]
    exact⟨none,0,0,rfl,Nat.le_refl _,Nat.zero_le _,fun h=>absurd rfl h⟩
  · rw [jJ hc]
    rw [hsz] at hi;refine⟨some a,len,cap,rfl,hl,hm,fun h0=>?_⟩;have hlm:len≤m:=by rw [hmm];split <;> omega
    obtain⟨b,o,s⟩:=a;have hsp:s=none∧b < w.heap.size:=by
      obtain⟨cs,h1,_⟩:=hi 0 om;obtain⟨_,h3,h4⟩:=World.cells?_some h1;have h5:=h4 0 hpos;have h6:cs[0]? =some (cs[0]'om):=List.getElem?_eq_getElem om;have h7:(Addr.add (Addr.add ⟨b,o,s⟩ (0 * sz)) 0)=⟨b,o,s⟩:=by simp [Addr.add]
      rw [h7,h6] at h5;exact⟨World.cell?_spot h5,Go.Clock.block_lt h5⟩
    obtain⟨rfl,hlt⟩:=hsp;refine⟨b,o,rfl,hlt,fun i hil=>?_⟩;obtain⟨cs,h1,h2⟩:=hi i om;obtain⟨_,h3,h4⟩:=World.cells?_some h1;refine⟨cs,n,_,h3,fun j v hj=>?_,h2⟩;have hjl:=(List.getElem?_eq_some_iff.1 hj).1;have h5:=h4 j om;rw [Addr.add_mid,Addr.add_mid] at h5;rw [h5];exact hj
theorem ints_open {t e:TypeId} {fuel:Nat} {v:Value} {x:DataW H×List MemPlace} (ht:P.underlying t=some (.slice e)) (he:P.underlying e=some (.int .i64)) (hsz:P.cellsOf e=1) (h:DataW.trod enc P w base spare held fuel t [v]=some x):
    ∃ A xs c,v= .slice A (List.length xs) c∧xs.length≤c∧IntsIn w A xs:=by
  obtain⟨A,len,c,rfl,hl,hm,hx⟩:=JK ht hsz dE h;by_cases h0:len=0
  · subst h0
    exact⟨A,[],c,rfl,Nat.zero_le _,Nat.zero_le _,fun h=>absurd rfl h⟩
  · obtain⟨b,o,rfl,hlt,hc⟩:=hx h0
    obtain⟨xs,hxl,hxs⟩:=jk (p:=fun i (z:Int)=>w.cell? ⟨b,o + i * 1,none⟩=some (.int .i64 z)) (n:=len) (fun i hi=>by
      obtain⟨cs,k,y,h1,h2,h3⟩:=hc i hi;obtain⟨z,rfl,_,_⟩:=DataW.trod_int he h3
      exact⟨z,h2 0 _ rfl⟩)
    subst hxl;exact⟨_,xs,c,rfl,hl,nLT hl hm,fun _=>⟨b,o,rfl,hlt,hxs⟩⟩
theorem My {e:TypeId} {f0 f1:Field} {fuel:Nat} {cs:List Value} {x:DataW H×List MemPlace} (he:P.underlying e=some (.struct #[f0,f1])) (hl:cs.length=2) (o0:f0.offset=0) (o1:f1.offset=1) (c0:P.cellsOf f0.type=1) (c1:P.cellsOf f1.type=1) (h:DataW.trod enc P w base spare held fuel e cs=some x):
    ∃ v0 v1 n y0 y1,cs= [v0,v1]∧DataW.trod enc P w base spare held n f0.type [v0]=some y0∧DataW.trod enc P w base spare held n f1.type [v1]=some y1:=by
  obtain⟨y0,y1,n,_,_,h0,h1⟩:=trod_struct2 he h
  match cs,hl with
  | [v0,v1],_=>
    simp [o0,o1,c0,c1] at h0 h1;exact⟨v0,v1,n,y0,y1,rfl,h0,h1⟩
theorem BJ {e:TypeId} {f0 f1 f2:Field} {fuel:Nat} {cs:List Value} {x:DataW H×List MemPlace} (he:P.underlying e=some (.struct #[f0,f1,f2])) (hl:cs.length=3) (o0:f0.offset=0) (o1:f1.offset=1) (o2:f2.offset=2) (c0:P.cellsOf f0.type=1) (c1:P.cellsOf f1.type=1) (c2:P.cellsOf f2.type=1) (h:DataW.trod enc P w base spare held fuel e cs=some x):
    ∃ v0 v1 v2 n y0 y1 y2,cs= [v0,v1,v2]∧DataW.trod enc P w base spare held n f0.type [v0]=some y0∧DataW.trod enc P w base spare held n f1.type [v1]=some y1∧DataW.trod enc P w base spare held n f2.type [v2]=some y2:=by
  obtain⟨y0,y1,y2,n,_,_,h0,h1,h2⟩:=trod_struct3 he h
  match cs,hl with
  | [v0,v1,v2],_=>
    simp [o0,o1,o2,c0,c1,c2] at h0 h1 h2;exact⟨v0,v1,v2,n,y0,y1,y2,rfl,h0,h1,h2⟩
theorem RK {t e ts ti tis:TypeId} {f0 f1:Field} {fuel:Nat} {v:Value} {x:DataW H×List MemPlace} (ht:P.underlying t=some (.slice e)) (he:P.underlying e=some (.struct #[f0,f1])) (hsz:P.cellsOf e=2) (o0:f0.offset=0) (o1:f1.offset=1) (e0:f0.type=ts) (e1:f1.type=tis) (hs:P.underlying ts=some .string) (hcs:P.cellsOf ts=1) (hci:P.cellsOf tis=1)
    (hti:P.underlying tis=some (.slice ti)) (hi:P.underlying ti=some (.int .i64)) (hc1:P.cellsOf ti=1) (h:DataW.trod enc P w base spare held fuel t [v]=some x):
    ∃ A l c,v= .slice A (List.length l) c∧l.length≤c∧TypesIn w A l:=by
  subst e0 e1;obtain⟨A,len,c,rfl,hl,hm,hx⟩:=JK ht hsz dE h;by_cases h0:len=0
  · subst h0
    exact⟨A,[],c,rfl,Nat.zero_le _,Nat.zero_le _,fun h=>absurd rfl h⟩
  · obtain⟨b,o,rfl,hlt,hc⟩:=hx h0
    obtain⟨l,hxl,hxs⟩:=jk (p:=fun i (z:Ty)=>TyIn w b (o + i * 2) z) (n:=len) (fun i hi'=>by
      obtain⟨cs,k,y,h1,h2,h3⟩:=hc i hi';obtain⟨v0,v1,n,y0,y1,rfl,g0,g1⟩:=My he h1 o0 o1 hcs hci h3;obtain⟨s,h4,_,_⟩:=DataW.trod_string hs g0;obtain⟨A',xs,c',rfl,_,hin⟩:=ints_open hti hi hc1 g1;rw [jJ h4] at h2
      exact⟨⟨s,xs⟩,A',c',h2,hin⟩)
    subst hxl;exact⟨_,l,c,rfl,hl,nLT hl hm,fun _=>⟨b,o,rfl,hlt,hxs⟩⟩
theorem WK {t e ts ti:TypeId} {f0 f1 f2:Field} {fuel:Nat} {v:Value} {x:DataW H×List MemPlace} (ht:P.underlying t=some (.slice e)) (he:P.underlying e=some (.struct #[f0,f1,f2])) (hsz:P.cellsOf e=3) (o0:f0.offset=0) (o1:f1.offset=1) (o2:f2.offset=2) (e0:f0.type=ts) (e1:f1.type=ti) (e2:f2.type=ti) (hs:P.underlying ts=some .string) (hcs:P.cellsOf ts=1)
    (hi:P.underlying ti=some (.int .i64)) (hc1:P.cellsOf ti=1) (h:DataW.trod enc P w base spare held fuel t [v]=some x):
    ∃ A l c,v= .slice A (List.length l) c∧l.length≤c∧FeatsIn w A l:=by
  subst e0;obtain⟨A,len,c,rfl,hl,hm,hx⟩:=JK ht hsz dE h;by_cases h0:len=0
  · subst h0
    exact⟨A,[],c,rfl,Nat.zero_le _,Nat.zero_le _,fun h=>absurd rfl h⟩
  · obtain⟨b,o,rfl,hlt,hc⟩:=hx h0
    obtain⟨l,hxl,hxs⟩:=jk (p:=fun i (z:Ft)=>FtIn w b (o + i * 3) z) (n:=len) (fun i hi'=>by
      obtain⟨cs,k,y,h1,h2,h3⟩:=hc i hi';obtain⟨v0,v1,v2,n,y0,y1,y2,rfl,g0,g1,g2⟩:=BJ he h1 o0 o1 o2 hcs (by rw [e1];exact hc1) (by rw [e2];exact hc1) h3;rw [e1] at g1;rw [e2] at g2;obtain⟨s,h4,_,_⟩:=DataW.trod_string hs g0;obtain⟨z1,h5,_,_⟩:=DataW.trod_int hi g1;obtain⟨z2,h6,_,_⟩:=DataW.trod_int hi g2;rw [jJ h4,jJ h5,jJ h6] at h2
      exact⟨⟨s,z1,z2⟩,h2⟩)
    subst hxl;exact⟨_,l,c,rfl,hl,nLT hl hm,fun _=>⟨b,o,rfl,hlt,hxs⟩⟩
theorem post_bel {f:Func} {s:ChangeSpec} {apart fresh handsOn again:Bool} {W W':World} {args:Array Value} {v:Value} {ds gs:List (DataW H)} {before pa pv:List MemPlace} (hW:DataW.Whole enc P f.params.toList s.vars apart W args.toList ds gs before)
    (hres:∀ (b:Nat) (sp:Nat→Bool) (hd:Bool),DataW.TrodAll enc P W' b sp hd f.resultTypes.toList (v.resultList f.resultTypes.size) (s.fn H (ds ++ gs)).results [])
    (hargs:∀ sp:Nat→Bool,(∀ p ∈ before,sp p.block=true)→DataW.TrodAll enc P W' 0 sp true f.params.toList args.toList (s.fn H (ds ++ gs)).args pa)
    (hvars:∀ sp:Nat→Bool,(∀ p ∈ before,sp p.block=true)→DataW.TrodVars enc P W' sp s.vars (s.fn H (ds ++ gs)).vars pv)
    (hps:before=pa ++ pv) (hb:Bel W W')
    (hok:∀ (j:Nat) (t:TypeId) (r:Value),f.resultTypes[j]? =some t→(v.resultList f.resultTypes.size)[j]? =some r→Value.okWide P W' .any 0 t r):
    s.post enc P f apart fresh handsOn again W args v W':=by
  have hlt:=fun p hp=>hW.lt p hp
  have hold:∀ p ∈ before,(fun b=>decide (b < W.heap.size)) p.block=true:=fun p hp=>by simpa using hlt p hp
  refine⟨ds,gs,before,[],pa,pv,hW,hres _ _ _,hargs _ hold,hvars _ hold,World.keptBut_mono (fun p hp=>⟨hp,?_⟩) (hb.frame (· ∈ before)),fun _=>?_⟩
  · rw [hps,List.mem_append] at hp;exact .inr hp
  obtain⟨_,_,_,_,_,hz,hn⟩:=hW;refine⟨hok,_,_,([] ++ pa) ++ pv,⟨[] ++ pa,pv,trodAll_append (hargs _ (fun _ _=>rfl)) (hres _ _ _),hvars _ (fun _ _=>rfl),rfl,fun b off hp=>?_,fun ha=>?_⟩,fun p hp _=>?_⟩
  · have hin:MemPlace.cell b off ∈ before:=by rw [hps];simpa using hp
    rw [hb.frozen (hlt _ hin)];exact hz b off hin
  · have:=hn ha
    rw [hps] at this;simpa using this
  · rw [hps];simpa using hp
end
end Go.Proofs.YtdgnllfbooklcaaDoor
namespace Go.Proofs.YtdgnllfbooklcaaDoor
open Go.RowKit
class UndC (P:Program) (t:TypeId) (u:outParam TypeDesc):Prop where
  h:P.underlying t=some u
class SzC (P:Program) (t:TypeId) (n:outParam Nat):Prop where
  h:(P.info? t).map (·.size)=some n
abbrev yQ {P:Program} {t:TypeId} {u:TypeDesc} (_:P.underlying t=some u):TypeDesc:=u
instance:UndC Tryd.prog 3 (yQ U3):=⟨U3⟩
instance:UndC Tryd.prog 4 (yQ U4):=⟨U4⟩
instance:UndC Tryd.prog 5 (yQ U5):=⟨U5⟩
instance:UndC Tryd.prog 9 (yQ U9):=⟨U9⟩
instance:UndC Tryd.prog 21 (yQ Tryd.underlying21):=⟨Tryd.underlying21⟩
instance:UndC Tryd.prog 22 (yQ U22):=⟨U22⟩
instance:UndC Tryd.prog 23 (yQ Tryd.underlying23):=⟨Tryd.underlying23⟩
instance:UndC Tryd.prog 25 (yQ U25):=⟨U25⟩
instance:UndC Tryd.prog 26 (yQ Tryd.underlying26):=⟨Tryd.underlying26⟩
instance:UndC Tryd.prog 27 (yQ U27):=⟨U27⟩
instance:UndC Tryd.prog 28 (yQ U28):=⟨U28⟩
instance:UndC Tryd.prog 30 (yQ U30):=⟨U30⟩
instance:UndC Tryd.prog 32 (yQ U32):=⟨U32⟩
instance:UndC Tryd.prog 33 (yQ U33):=⟨U33⟩
instance:UndC Tryd.prog 36 (yQ U36):=⟨U36⟩
instance:UndC Tryd.prog 39 (yQ U39):=⟨U39⟩
instance:UndC Tryd.prog 41 (yQ U41):=⟨U41⟩
instance:UndC Tryd.prog 42 (yQ U42):=⟨U42⟩
instance:UndC Tryd.prog 44 (yQ U44):=⟨U44⟩
instance:UndC Tryd.prog 46 (yQ U46):=⟨U46⟩
instance:UndC Tryd.prog 49 (yQ U49):=⟨U49⟩
instance:UndC Tryd.prog 61 (yQ Tryd.underlying61):=⟨Tryd.underlying61⟩
instance:UndC Tryd.prog 70 (yQ U70):=⟨U70⟩
instance:UndC Tryd.prog 72 (yQ U72):=⟨U72⟩
instance:UndC Tryd.prog 75 (yQ U75):=⟨U75⟩
instance:UndC Tryd.prog 84 (yQ U84):=⟨U84⟩
instance:UndC Tryd.prog 86 (yQ U86):=⟨U86⟩
instance:UndC Tryd.prog 91 (yQ U91):=⟨U91⟩
instance:UndC Tryd.prog 93 (yQ U93):=⟨U93⟩
instance:UndC Tryd.prog 95 (yQ U95):=⟨U95⟩
instance:UndC Tryd.prog 107 (yQ Tryd.underlying107):=⟨Tryd.underlying107⟩
instance:UndC Tryd.prog 110 (yQ H2):=⟨H2⟩
instance:UndC Tryd.prog 112 (yQ Rq):=⟨Rq⟩
instance:UndC Tryd.prog 117 (yQ Vk):=⟨Vk⟩
instance:UndC Tryd.prog 120 (yQ OY):=⟨OY⟩
instance:UndC Tryd.prog 123 (yQ PK):=⟨PK⟩
instance:UndC Tryd.prog 125 (yQ Bq):=⟨Bq⟩
instance:UndC Tryd.prog 134 (yQ Tryd.underlying134):=⟨Tryd.underlying134⟩
instance:UndC Tryd.prog 135 (yQ PJ):=⟨PJ⟩
instance:UndC Tryd.prog 143 (yQ Tryd.underlying143):=⟨Tryd.underlying143⟩
instance:UndC Tryd.prog 153 (yQ Tryd.underlying153):=⟨Tryd.underlying153⟩
instance:UndC Tryd.prog 154 (yQ Tryd.underlying154):=⟨Tryd.underlying154⟩
instance:UndC Tryd.prog 155 (yQ Tryd.underlying155):=⟨Tryd.underlying155⟩
instance:UndC Tryd.prog 158 (yQ Tryd.underlying158):=⟨Tryd.underlying158⟩
instance:UndC Tryd.prog 160 (yQ E8):=⟨E8⟩
instance:UndC Tryd.prog 161 (yQ Tryd.underlying161):=⟨Tryd.underlying161⟩
instance:UndC Tryd.prog 165 (yQ U165):=⟨U165⟩
class FaC (P:Program) (t:TypeId) (i:Nat) (off:outParam Nat):Prop where
  h:∃ fs ft sz,P.underlying t=some (.struct fs)∧(P.info? ft).map (·.size)=some sz∧(sz == 0)=false∧(fs[i]?).map (fun x=>(x.type,x.offset))=some (ft,off)
theorem faM {P:Program} {t:TypeId} {i off ft sz:Nat} {fs:Array Field} (hu:P.underlying t=some (.struct fs)) (hs:(P.info? ft).map (·.size)=some sz) (h0:(sz == 0)=false) (hf:(fs[i]?).map (fun x=>(x.type,x.offset))=some (ft,off)):FaC P t i off:=⟨fs,ft,sz,hu,hs,h0,hf⟩
instance:SzC Tryd.prog 3 1:=⟨by kernel_rfl⟩
instance:SzC Tryd.prog 4 1:=⟨by kernel_rfl⟩
instance:SzC Tryd.prog 5 1:=⟨by kernel_rfl⟩
instance:SzC Tryd.prog 9 1:=⟨by kernel_rfl⟩
instance:SzC Tryd.prog 22 1:=⟨by kernel_rfl⟩
instance:SzC Tryd.prog 23 1:=⟨by kernel_rfl⟩
instance:SzC Tryd.prog 25 2:=⟨by kernel_rfl⟩
instance:SzC Tryd.prog 26 1:=⟨by kernel_rfl⟩
instance:SzC Tryd.prog 27 1:=⟨by kernel_rfl⟩
instance:SzC Tryd.prog 28 1:=⟨by kernel_rfl⟩
instance:SzC Tryd.prog 30 1:=⟨by kernel_rfl⟩
instance:SzC Tryd.prog 32 5:=⟨by kernel_rfl⟩
instance:SzC Tryd.prog 36 2:=⟨by kernel_rfl⟩
instance:SzC Tryd.prog 39 1:=⟨by kernel_rfl⟩
instance:SzC Tryd.prog 41 2:=⟨by kernel_rfl⟩
instance:SzC Tryd.prog 42 1:=⟨by kernel_rfl⟩
instance:SzC Tryd.prog 44 6:=⟨by kernel_rfl⟩
instance:SzC Tryd.prog 46 9:=⟨by kernel_rfl⟩
instance:SzC Tryd.prog 49 10:=⟨by kernel_rfl⟩
instance:SzC Tryd.prog 70 1:=⟨by kernel_rfl⟩
instance:SzC Tryd.prog 72 3:=⟨by kernel_rfl⟩
instance:SzC Tryd.prog 84 1:=⟨by kernel_rfl⟩
instance:SzC Tryd.prog 86 2:=⟨by kernel_rfl⟩
instance:SzC Tryd.prog 91 1:=⟨by kernel_rfl⟩
instance:SzC Tryd.prog 93 2:=⟨by kernel_rfl⟩
instance:SzC Tryd.prog 95 2:=⟨by kernel_rfl⟩
instance:SzC Tryd.prog 107 1:=⟨by kernel_rfl⟩
instance:SzC Tryd.prog 110 2:=⟨by kernel_rfl⟩
instance:SzC Tryd.prog 117 1:=⟨by kernel_rfl⟩
instance:SzC Tryd.prog 123 1:=⟨by kernel_rfl⟩
instance:SzC Tryd.prog 134 2:=⟨by kernel_rfl⟩
instance:SzC Tryd.prog 143 1:=⟨by kernel_rfl⟩
instance:SzC Tryd.prog 155 1:=⟨by kernel_rfl⟩
instance:SzC Tryd.prog 160 2:=⟨by kernel_rfl⟩
instance:SzC Tryd.prog 165 256:=⟨by kernel_rfl⟩
instance:FaC Tryd.prog 25 0 0:=faM U25 (SzC.h (t:=22)) rfl rfl
instance:FaC Tryd.prog 25 1 1:=faM U25 (SzC.h (t:=23)) rfl rfl
instance:FaC Tryd.prog 30 0 0:=faM U30 (SzC.h (t:=28)) rfl rfl
instance:FaC Tryd.prog 32 0 0:=faM U32 (SzC.h (t:=25)) rfl rfl
instance:FaC Tryd.prog 32 1 2:=faM U32 (SzC.h (t:=26)) rfl rfl
instance:FaC Tryd.prog 32 2 3:=faM U32 (SzC.h (t:=27)) rfl rfl
instance:FaC Tryd.prog 32 3 4:=faM U32 (SzC.h (t:=30)) rfl rfl
instance:FaC Tryd.prog 36 0 0:=faM U36 (SzC.h (t:=3)) rfl rfl
instance:FaC Tryd.prog 36 1 1:=faM U36 (SzC.h (t:=3)) rfl rfl
instance:FaC Tryd.prog 41 0 0:=faM U41 (SzC.h (t:=9)) rfl rfl
instance:FaC Tryd.prog 41 1 1:=faM U41 (SzC.h (t:=39)) rfl rfl
instance:FaC Tryd.prog 44 0 0:=faM U44 (SzC.h (t:=3)) rfl rfl
instance:FaC Tryd.prog 44 1 1:=faM U44 (SzC.h (t:=9)) rfl rfl
instance:FaC Tryd.prog 44 2 2:=faM U44 (SzC.h (t:=3)) rfl rfl
instance:FaC Tryd.prog 44 3 3:=faM U44 (SzC.h (t:=41)) rfl rfl
instance:FaC Tryd.prog 44 4 5:=faM U44 (SzC.h (t:=42)) rfl rfl
instance:FaC Tryd.prog 46 0 0:=faM U46 (SzC.h (t:=9)) rfl rfl
instance:FaC Tryd.prog 46 1 1:=faM U46 (SzC.h (t:=30)) rfl rfl
instance:FaC Tryd.prog 46 2 2:=faM U46 (SzC.h (t:=3)) rfl rfl
instance:FaC Tryd.prog 46 3 3:=faM U46 (SzC.h (t:=44)) rfl rfl
instance:FaC Tryd.prog 49 0 0:=faM U49 (SzC.h (t:=9)) rfl rfl
instance:FaC Tryd.prog 49 1 1:=faM U49 (SzC.h (t:=30)) rfl rfl
instance:FaC Tryd.prog 49 2 2:=faM U49 (SzC.h (t:=3)) rfl rfl
instance:FaC Tryd.prog 49 3 3:=faM U49 (SzC.h (t:=3)) rfl rfl
instance:FaC Tryd.prog 49 4 4:=faM U49 (SzC.h (t:=44)) rfl rfl
instance:FaC Tryd.prog 72 0 0:=faM U72 (SzC.h (t:=9)) rfl rfl
instance:FaC Tryd.prog 72 1 1:=faM U72 (SzC.h (t:=3)) rfl rfl
instance:FaC Tryd.prog 72 2 2:=faM U72 (SzC.h (t:=3)) rfl rfl
instance:FaC Tryd.prog 86 0 0:=faM U86 (SzC.h (t:=84)) rfl rfl
instance:FaC Tryd.prog 86 1 1:=faM U86 (SzC.h (t:=84)) rfl rfl
instance:FaC Tryd.prog 93 0 0:=faM U93 (SzC.h (t:=3)) rfl rfl
instance:FaC Tryd.prog 93 1 1:=faM U93 (SzC.h (t:=91)) rfl rfl
instance:FaC Tryd.prog 95 0 0:=faM U95 (SzC.h (t:=3)) rfl rfl
instance:FaC Tryd.prog 95 1 1:=faM U95 (SzC.h (t:=3)) rfl rfl
instance:FaC Tryd.prog 110 0 0:=faM H2 (SzC.h (t:=9)) rfl rfl
instance:FaC Tryd.prog 110 1 1:=faM H2 (SzC.h (t:=70)) rfl rfl
instance:FaC Tryd.prog 125 0 0:=faM Bq (SzC.h (t:=86)) rfl rfl
instance:FaC Tryd.prog 125 1 2:=faM Bq (SzC.h (t:=70)) rfl rfl
instance:FaC Tryd.prog 125 2 3:=faM Bq (SzC.h (t:=70)) rfl rfl
instance:FaC Tryd.prog 125 3 4:=faM Bq (SzC.h (t:=123)) rfl rfl
instance:FaC Tryd.prog 160 0 0:=faM E8 (SzC.h (t:=5)) rfl rfl
instance:FaC Tryd.prog 160 1 1:=faM E8 (SzC.h (t:=5)) rfl rfl
theorem gdA {b:Bool} {p q:Prop} (h:p) (e:b=true:=by rfl):(b=true→p)∧(b=false→q):=⟨fun _=>h,fun k=>by rw [e] at k;cases k⟩
section held
variable {P:Program} {Q:Exit→Act→World→Prop} {n:Nat} {f:Fr} {w:World} {l:List Oper} {X ds is:List Nat} {op:Op} {ty t:TypeId} {pos:String} {af:Array Edge} {v:Value} {x:Operand} {d:Tmp} {i:Nat}
theorem hlv (ho:l[i]? =some ⟨some d,op,ty,pos,af,none⟩) (h:∀ w',Same X w w'→RV P n f w' ⟨some d,op,ty,pos,af,none⟩ v w') (K:HL P l Q X (i :: ds) is n (upd f d v) w):HL P l Q X ds (i :: is) n f w:=
  h_yi ho (.inl ⟨by simp [Region.wanted],fun w' hs=>by rw [jY];exact MY (h w' hs)⟩) K
def UpB (b:Nat) (w w':World):Prop:=∀ c,w.heap[b]? =some c→w'.heap[b]? =some c
theorem UpB.rf {b:Nat}:UpB b w w:=fun _ h=>h
theorem UpB.fX {b:Nat} {w' w2:World} (hs:Same X w w') (hX:b ∉ X) (h:UpB b w' w2):UpB b w w2:=fun c hc=>by
  have hl:b < w.heap.size:=by
    refine Classical.byContradiction (fun hn=>?_);rw [Array.getElem?_eq_none om] at hc;cases hc
  exact h c ((hs.blk b hl hX).trans hc)
theorem UpB.f0 {b:Nat} {w' w2:World} (hs:Same [] w w') (h:UpB b w' w2):UpB b w w2:=UpB.fX hs List.not_mem_nil h
theorem UpB.blk {w0:World} {b:Nat} {tb:TypeId} {cs:Array Value} (h:Blk w0 b tb cs) (u:UpB b w0 w):Blk w b tb cs:=u _ h
def UpN (n:Nat) (w w':World):Prop:=∀ w0:World,w0.heap.size=n→Bel w0 w→Bel w0 w'
theorem UpN.rf {n:Nat}:UpN n w w:=fun _ _ h=>h
theorem UpN.f0 {n:Nat} {w' w2:World} (hs:Same [] w w') (h:UpN n w' w2):UpN n w w2:=fun w0 e h0=>h w0 e (h0.tr0 hs)
theorem UpN.f1 {n b:Nat} {w' w2:World} (hs:Same [b] w w') (hb:n≤b) (h:UpN n w' w2):UpN n w w2:=fun w0 e h0=>h w0 e (h0.tr1 hs (by rw [e];exact hb))
theorem Bel.fw {w0 w':World} (h:Bel w0 w) (u:UpN w0.heap.size w w'):Bel w0 w':=u w0 rfl h
theorem Bel.rng {w0:World} {b o:Nat} {xs:List Value} (hc:w0.rangeAt b o xs) (hb:b < w0.heap.size) (h:Bel w0 w):w.rangeAt b o xs:=h.range hb hc
end held
variable {P:Program} {Q:Exit→Act→World→Prop} {n:Nat} {f:Fr} {w:World} {ops:Array Oper} {rest:List Oper} {d:Nat} {dst:Option Tmp} {gd:Option (Nat×Bool)} {ty t:TypeId} {pos:String} {af:Array Edge} {x y z:Operand}
theorem r_mvI {a1:_} {b1:_} (h:ev n f x= .int a1 b1):RV P n f w ⟨dst,.move x,ty,pos,af,gd⟩ (.int a1 b1) w:=x8 h
theorem r_asI {a1:_} {b1:_} (h:ev n f x= .int a1 b1):RV P n f w ⟨dst,.assign x,ty,pos,af,gd⟩ (.int a1 b1) w:=u7 h
theorem r_ptI {a1:_} {b1:_} (hc:ev n f x= .bool true) (h:ev n f y= .int a1 b1):RV P n f w ⟨dst,.pick x y z,ty,pos,af,gd⟩ (.int a1 b1) w:=SK hc h
theorem r_pfI {a1:_} {b1:_} (hc:ev n f x= .bool false) (h:ev n f z= .int a1 b1):RV P n f w ⟨dst,.pick x y z,ty,pos,af,gd⟩ (.int a1 b1) w:=SV hc h
theorem r_mvB {a1:_} (h:ev n f x= .bool a1):RV P n f w ⟨dst,.move x,ty,pos,af,gd⟩ (.bool a1) w:=x8 h
theorem r_asB {a1:_} (h:ev n f x= .bool a1):RV P n f w ⟨dst,.assign x,ty,pos,af,gd⟩ (.bool a1) w:=u7 h
theorem r_ptB {a1:_} (hc:ev n f x= .bool true) (h:ev n f y= .bool a1):RV P n f w ⟨dst,.pick x y z,ty,pos,af,gd⟩ (.bool a1) w:=SK hc h
theorem r_pfB {a1:_} (hc:ev n f x= .bool false) (h:ev n f z= .bool a1):RV P n f w ⟨dst,.pick x y z,ty,pos,af,gd⟩ (.bool a1) w:=SV hc h
theorem r_mvS {a1:_} {b1:_} {c1:_} (h:ev n f x= .slice a1 b1 c1):RV P n f w ⟨dst,.move x,ty,pos,af,gd⟩ (.slice a1 b1 c1) w:=x8 h
theorem r_asS {a1:_} {b1:_} {c1:_} (h:ev n f x= .slice a1 b1 c1):RV P n f w ⟨dst,.assign x,ty,pos,af,gd⟩ (.slice a1 b1 c1) w:=u7 h
theorem r_ptS {a1:_} {b1:_} {c1:_} (hc:ev n f x= .bool true) (h:ev n f y= .slice a1 b1 c1):RV P n f w ⟨dst,.pick x y z,ty,pos,af,gd⟩ (.slice a1 b1 c1) w:=SK hc h
theorem r_pfS {a1:_} {b1:_} {c1:_} (hc:ev n f x= .bool false) (h:ev n f z= .slice a1 b1 c1):RV P n f w ⟨dst,.pick x y z,ty,pos,af,gd⟩ (.slice a1 b1 c1) w:=SV hc h
theorem r_mvT {a1:_} (h:ev n f x= .string a1):RV P n f w ⟨dst,.move x,ty,pos,af,gd⟩ (.string a1) w:=x8 h
theorem r_asT {a1:_} (h:ev n f x= .string a1):RV P n f w ⟨dst,.assign x,ty,pos,af,gd⟩ (.string a1) w:=u7 h
theorem r_ptT {a1:_} (hc:ev n f x= .bool true) (h:ev n f y= .string a1):RV P n f w ⟨dst,.pick x y z,ty,pos,af,gd⟩ (.string a1) w:=SK hc h
theorem r_pfT {a1:_} (hc:ev n f x= .bool false) (h:ev n f z= .string a1):RV P n f w ⟨dst,.pick x y z,ty,pos,af,gd⟩ (.string a1) w:=SV hc h
theorem r_mvF {a1:_} {b1:_} {c1:_} (h:ev n f x= .func a1 b1 c1):RV P n f w ⟨dst,.move x,ty,pos,af,gd⟩ (.func a1 b1 c1) w:=x8 h
theorem r_asF {a1:_} {b1:_} {c1:_} (h:ev n f x= .func a1 b1 c1):RV P n f w ⟨dst,.assign x,ty,pos,af,gd⟩ (.func a1 b1 c1) w:=u7 h
theorem r_ptF {a1:_} {b1:_} {c1:_} (hc:ev n f x= .bool true) (h:ev n f y= .func a1 b1 c1):RV P n f w ⟨dst,.pick x y z,ty,pos,af,gd⟩ (.func a1 b1 c1) w:=SK hc h
theorem r_pfF {a1:_} {b1:_} {c1:_} (hc:ev n f x= .bool false) (h:ev n f z= .func a1 b1 c1):RV P n f w ⟨dst,.pick x y z,ty,pos,af,gd⟩ (.func a1 b1 c1) w:=SV hc h
theorem r_mvU {a1:_} (h:ev n f x= .tuple a1):RV P n f w ⟨dst,.move x,ty,pos,af,gd⟩ (.tuple a1) w:=x8 h
theorem r_asU {a1:_} (h:ev n f x= .tuple a1):RV P n f w ⟨dst,.assign x,ty,pos,af,gd⟩ (.tuple a1) w:=u7 h
theorem r_ptU {a1:_} (hc:ev n f x= .bool true) (h:ev n f y= .tuple a1):RV P n f w ⟨dst,.pick x y z,ty,pos,af,gd⟩ (.tuple a1) w:=SK hc h
theorem r_pfU {a1:_} (hc:ev n f x= .bool false) (h:ev n f z= .tuple a1):RV P n f w ⟨dst,.pick x y z,ty,pos,af,gd⟩ (.tuple a1) w:=SV hc h
theorem r_mvG {a1:_} (h:ev n f x= .agg a1):RV P n f w ⟨dst,.move x,ty,pos,af,gd⟩ (.agg a1) w:=x8 h
theorem r_asG {a1:_} (h:ev n f x= .agg a1):RV P n f w ⟨dst,.assign x,ty,pos,af,gd⟩ (.agg a1) w:=u7 h
theorem r_ptG {a1:_} (hc:ev n f x= .bool true) (h:ev n f y= .agg a1):RV P n f w ⟨dst,.pick x y z,ty,pos,af,gd⟩ (.agg a1) w:=SK hc h
theorem r_pfG {a1:_} (hc:ev n f x= .bool false) (h:ev n f z= .agg a1):RV P n f w ⟨dst,.pick x y z,ty,pos,af,gd⟩ (.agg a1) w:=SV hc h
theorem r_ldC {b o:Nat} {dd:TypeDesc} {tb:TypeId} {cs:Array Value} {v:Value} [hu:UndC P t dd] (hd:dd.isRow=false) (hx:ev n f x= .pointer (some ⟨b,o,none⟩)) (hb:Blk w b tb cs) (hc:cs[o]? =some v):RV P n f w ⟨dst,.load t x,ty,pos,af,gd⟩ v w:=qY hu.h hd hx (hb.cell hc)
theorem r_ldD {b o:Nat} {dd:TypeDesc} {cs:List Value} [hu:UndC P t dd] (hd:dd.isRow=true) (hx:ev n f x= .pointer (some ⟨b,o,none⟩)) (hc:w.rangeAt b o cs) (hi:(P.info? t).map (·.size)=some cs.length):RV P n f w ⟨dst,.load t x,ty,pos,af,gd⟩ (.agg cs.toArray) w:=qW hu.h hd hx hc hi
theorem r_faC {b o o' i off:Nat} [hu:FaC P t i off] (hx:ev n f x= .pointer (some ⟨b,o,none⟩)) (ho:o + off=o'):RV P n f w ⟨dst,.fieldAddr t x i,ty,pos,af,gd⟩ (.pointer (some ⟨b,o',none⟩)) w:=by
  obtain⟨fs,ft,sz,h1,h2,h3,h4⟩:=hu.h;exact uK h1 h2 (by simpa using h3) h4 hx ho
theorem r_lnC {A:Option Addr} {m c:Nat} {e:TypeId} [hu:UndC P t (.slice e)] (hx:ev n f x= .slice A m c):RV P n f w ⟨dst,.call { callee:= .builtin .len,args:=#[x],argTypes:=#[t] },ty,pos,af,gd⟩ (.int .i64 (m:Int)) w:=Ny hu.h hx
theorem r_lsC {p:ByteArray} [hu:UndC P t .string] (hx:ev n f x= .string p):RV P n f w ⟨dst,.call { callee:= .builtin .len,args:=#[x],argTypes:=#[t] },ty,pos,af,gd⟩ (.int .i64 (p.size:Int)) w:=r_lenS hu.h hx
theorem r_iaC {b o o' m c i sz:Nat} {e:TypeId} [hu:UndC P t (.slice e)] [hs:SzC P e sz] (hx:ev n f x= .slice (some ⟨b,o,none⟩) m c) (hy:ev n f y= .int .i64 (i:Int)) (ho:o + i * sz=o') (hi:i < m):RV P n f w ⟨dst,.indexAddr t x y,ty,pos,af,gd⟩ (.pointer (some ⟨b,o',none⟩)) w:=yz hu.h hs.h hx hy hi ho
theorem rvA {o:Oper} {v:Value} {w2:World} (h:RV P n f w o v w2:=by first | (apply r_mvI;exact rfl) | (apply r_mvB;exact rfl) | (apply r_asI;exact rfl) | (apply r_asB;exact rfl) | (apply r_ldC;exact rfl;exact rfl;(first | assumption | (apply UpB.blk;assumption;focus repeat (first | exact UpB.rf | (apply UpB.f0;assumption) | (apply UpB.fX;assumption;(simp only [List.mem_cons,List.not_mem_nil,or_false,not_or];omega)))));exact rfl) | (apply r_faC;exact rfl;exact rfl) | (apply r_mvS;exact rfl) | (apply r_mvT;exact rfl) | (apply r_ptB;exact rfl;exact rfl) | (apply r_pfB;exact rfl;exact rfl) | (apply Y3;exact rfl;exact rfl) | (apply r_eql;exact rfl;exact rfl) | (apply r_lnC;exact rfl) | (apply r_ldD;exact rfl;exact rfl;(first | (apply Blk.range0;(first | assumption | (apply UpB.blk;assumption;focus repeat (first | exact UpB.rf | (apply UpB.f0;assumption) | (apply UpB.fX;assumption;(simp only [List.mem_cons,List.not_mem_nil,or_false,not_or];omega)))))) | (apply Bel.rng;assumption;assumption;(first | assumption | (apply Bel.fw;assumption;focus repeat (first | exact UpN.rf | (apply UpN.f0;assumption) | (apply UpN.f1;assumption;omega))))));exact SzC.h.trans rfl) | (apply J7;exact rfl;exact rfl;exact rfl;omega) | (apply r_iaC;exact rfl;exact rfl;exact rfl;omega) | (apply r_neq;exact rfl;exact rfl) | (apply SW;exact rfl;exact rfl) | (apply r_geq;exact rfl;exact rfl) | (apply r_leq;exact rfl;exact rfl) | (apply r_lsC;exact rfl) | (apply r_notd;exact rfl) | (apply r_not;exact rfl) | (apply r_eqlS;exact rfl;exact rfl) | (apply r_neqS;exact rfl;exact rfl) | (apply r_asS;exact rfl) | (apply r_asT;exact rfl) | (apply r_asF;exact rfl) | (apply r_asU;exact rfl) | (apply r_asG;exact rfl) | (apply r_mvF;exact rfl) | (apply r_mvU;exact rfl) | (apply r_mvG;exact rfl) | (apply r_ptI;exact rfl;exact rfl) | (apply r_ptS;exact rfl;exact rfl) | (apply r_ptT;exact rfl;exact rfl) | (apply r_ptF;exact rfl;exact rfl) | (apply r_ptU;exact rfl;exact rfl) | (apply r_ptG;exact rfl;exact rfl) | (apply r_pfI;exact rfl;exact rfl) | (apply r_pfS;exact rfl;exact rfl) | (apply r_pfT;exact rfl;exact rfl) | (apply r_pfF;exact rfl;exact rfl) | (apply r_pfU;exact rfl;exact rfl) | (apply r_pfG;exact rfl;exact rfl)):RV P n f w o v w2:=h
theorem zc {A B C:Prop} (h:B→C:=by intro k;first | exact e_S k | exact y8 k | exact zQ k | exact Q4 k | (apply wl;(case K=>exact k);exact rvA) | (apply wlgn;(case K=>exact k);exact rfl;exact rfl;exact rfl) | (apply wlgu;(case K=>exact k);exact rfl;exact rfl) | (apply wl_gd;(case K=>exact k);exact rfl;exact rfl) | (apply y7;(case hR=>exact k);exact .inl rfl;exact rfl;exact rfl) | exact WY k | exact e_Sr k | exact c_ret k | exact e_B k | exact c_block k | exact e_Br k | exact c_exit k | exact e_LSr k | exact e_LSx k | exact e_Sx k | exact e_Bx k | exact c_yes rfl k | exact c_no rfl k | (apply ws;(case hk=>exact k);exact rvA) | (apply wsgn;(case hk=>exact k);exact rfl;exact rfl;exact rfl) | (apply hlv;(case K=>exact k);exact rfl;(intro _ _;exact rvA)) | (apply hg;(case K=>exact k);exact rfl;exact rfl;exact rfl;(intro _ _;exact rvA)) | (apply hsk;(case K=>exact k);exact rfl;exact rfl;exact rfl) | (apply hsu;(case K=>exact k);exact rfl;exact rfl;exact rfl) | exact h_end k) (g:A→B):A→C:=fun a=>h (g a)
theorem zn1 {A B:Prop} (k:A) (h:A→B:=by exact zc (g:=fun k=>k)):B:=h k
theorem zn2 {A B:Prop} (k:A) (h:A→B:=by exact zc (g:=zc (g:=fun k=>k))):B:=h k
theorem zn3 {A B:Prop} (k:A) (h:A→B:=by exact zc (g:=zc (g:=zc (g:=fun k=>k)))):B:=h k
theorem zn4 {A B:Prop} (k:A) (h:A→B:=by exact zc (g:=zc (g:=zc (g:=zc (g:=fun k=>k))))):B:=h k
theorem zn5 {A B:Prop} (k:A) (h:A→B:=by exact zc (g:=zc (g:=zc (g:=zc (g:=zc (g:=fun k=>k)))))):B:=h k
theorem zn6 {A B:Prop} (k:A) (h:A→B:=by exact zc (g:=zc (g:=zc (g:=zc (g:=zc (g:=zc (g:=fun k=>k))))))):B:=h k
theorem zn7 {A B:Prop} (k:A) (h:A→B:=by exact zc (g:=zc (g:=zc (g:=zc (g:=zc (g:=zc (g:=zc (g:=fun k=>k)))))))):B:=h k
theorem zn8 {A B:Prop} (k:A) (h:A→B:=by exact zc (g:=zc (g:=zc (g:=zc (g:=zc (g:=zc (g:=zc (g:=zc (g:=fun k=>k))))))))):B:=h k
theorem zn9 {A B:Prop} (k:A) (h:A→B:=by exact zc (g:=zc (g:=zc (g:=zc (g:=zc (g:=zc (g:=zc (g:=zc (g:=zc (g:=fun k=>k)))))))))):B:=h k
theorem kv {A B:Prop} (k:A) (h:A→B:=by exact zc (g:=zc (g:=zc (g:=zc (g:=zc (g:=zc (g:=zc (g:=zc (g:=zc (g:=zc (g:=fun k=>k))))))))))):B:=h k
theorem ZQ {A B:Prop} (k:A) (h:A→B:=by exact zc (g:=zc (g:=zc (g:=zc (g:=zc (g:=zc (g:=zc (g:=zc (g:=zc (g:=zc (g:=zc (g:=fun k=>k)))))))))))):B:=h k
theorem jw {A B:Prop} (k:A) (h:A→B:=by exact zc (g:=zc (g:=zc (g:=zc (g:=zc (g:=zc (g:=zc (g:=zc (g:=zc (g:=zc (g:=zc (g:=zc (g:=fun k=>k))))))))))))):B:=h k
theorem Z8 {A B:Prop} (k:A) (h:A→B:=by exact zc (g:=zc (g:=zc (g:=zc (g:=zc (g:=zc (g:=zc (g:=zc (g:=zc (g:=zc (g:=zc (g:=zc (g:=zc (g:=fun k=>k)))))))))))))):B:=h k
theorem V8 {A B:Prop} (k:A) (h:A→B:=by exact zc (g:=zc (g:=zc (g:=zc (g:=zc (g:=zc (g:=zc (g:=zc (g:=zc (g:=zc (g:=zc (g:=zc (g:=zc (g:=zc (g:=fun k=>k))))))))))))))):B:=h k
theorem G7 {A B:Prop} (k:A) (h:A→B:=by exact zc (g:=zc (g:=zc (g:=zc (g:=zc (g:=zc (g:=zc (g:=zc (g:=zc (g:=zc (g:=zc (g:=zc (g:=zc (g:=zc (g:=zc (g:=fun k=>k)))))))))))))))):B:=h k
theorem E2 {A B:Prop} (k:A) (h:A→B:=by exact zc (g:=zc (g:=zc (g:=zc (g:=zc (g:=zc (g:=zc (g:=zc (g:=zc (g:=zc (g:=zc (g:=zc (g:=zc (g:=zc (g:=zc (g:=zc (g:=fun k=>k))))))))))))))))):B:=h k
theorem G6 {A B:Prop} (k:A) (h:A→B:=by exact zc (g:=zc (g:=zc (g:=zc (g:=zc (g:=zc (g:=zc (g:=zc (g:=zc (g:=zc (g:=zc (g:=zc (g:=zc (g:=zc (g:=zc (g:=zc (g:=zc (g:=fun k=>k)))))))))))))))))):B:=h k
theorem zn18 {A B:Prop} (k:A) (h:A→B:=by exact zc (g:=zc (g:=zc (g:=zc (g:=zc (g:=zc (g:=zc (g:=zc (g:=zc (g:=zc (g:=zc (g:=zc (g:=zc (g:=zc (g:=zc (g:=zc (g:=zc (g:=zc (g:=fun k=>k))))))))))))))))))):B:=h k
theorem zn19 {A B:Prop} (k:A) (h:A→B:=by exact zc (g:=zc (g:=zc (g:=zc (g:=zc (g:=zc (g:=zc (g:=zc (g:=zc (g:=zc (g:=zc (g:=zc (g:=zc (g:=zc (g:=zc (g:=zc (g:=zc (g:=zc (g:=zc (g:=fun k=>k)))))))))))))))))))):B:=h k
theorem zn20 {A B:Prop} (k:A) (h:A→B:=by exact zc (g:=zc (g:=zc (g:=zc (g:=zc (g:=zc (g:=zc (g:=zc (g:=zc (g:=zc (g:=zc (g:=zc (g:=zc (g:=zc (g:=zc (g:=zc (g:=zc (g:=zc (g:=zc (g:=zc (g:=fun k=>k))))))))))))))))))))):B:=h k
theorem zn22 {A B:Prop} (k:A) (h:A→B:=by exact zc (g:=zc (g:=zc (g:=zc (g:=zc (g:=zc (g:=zc (g:=zc (g:=zc (g:=zc (g:=zc (g:=zc (g:=zc (g:=zc (g:=zc (g:=zc (g:=zc (g:=zc (g:=zc (g:=zc (g:=zc (g:=zc (g:=fun k=>k))))))))))))))))))))))):B:=h k
theorem zn23 {A B:Prop} (k:A) (h:A→B:=by exact zc (g:=zc (g:=zc (g:=zc (g:=zc (g:=zc (g:=zc (g:=zc (g:=zc (g:=zc (g:=zc (g:=zc (g:=zc (g:=zc (g:=zc (g:=zc (g:=zc (g:=zc (g:=zc (g:=zc (g:=zc (g:=zc (g:=zc (g:=fun k=>k)))))))))))))))))))))))):B:=h k
theorem zn26 {A B:Prop} (k:A) (h:A→B:=by exact zc (g:=zc (g:=zc (g:=zc (g:=zc (g:=zc (g:=zc (g:=zc (g:=zc (g:=zc (g:=zc (g:=zc (g:=zc (g:=zc (g:=zc (g:=zc (g:=zc (g:=zc (g:=zc (g:=zc (g:=zc (g:=zc (g:=zc (g:=zc (g:=zc (g:=zc (g:=fun k=>k))))))))))))))))))))))))))):B:=h k
theorem zn29 {A B:Prop} (k:A) (h:A→B:=by exact zc (g:=zc (g:=zc (g:=zc (g:=zc (g:=zc (g:=zc (g:=zc (g:=zc (g:=zc (g:=zc (g:=zc (g:=zc (g:=zc (g:=zc (g:=zc (g:=zc (g:=zc (g:=zc (g:=zc (g:=zc (g:=zc (g:=zc (g:=zc (g:=zc (g:=zc (g:=zc (g:=zc (g:=zc (g:=fun k=>k)))))))))))))))))))))))))))))):B:=h k
theorem zn30 {A B:Prop} (k:A) (h:A→B:=by exact zc (g:=zc (g:=zc (g:=zc (g:=zc (g:=zc (g:=zc (g:=zc (g:=zc (g:=zc (g:=zc (g:=zc (g:=zc (g:=zc (g:=zc (g:=zc (g:=zc (g:=zc (g:=zc (g:=zc (g:=zc (g:=zc (g:=zc (g:=zc (g:=zc (g:=zc (g:=zc (g:=zc (g:=zc (g:=zc (g:=fun k=>k))))))))))))))))))))))))))))))):B:=h k
end Go.Proofs.YtdgnllfbooklcaaDoor
namespace Go.Proofs.YtdgnllfbooklcaaDoor
open Go.RowKit
def J9 (c:UInt8):Bool:=decide (97≤c.toNat∧c.toNat≤122) || decide (48≤c.toNat∧c.toNat≤57) || decide (c.toNat=95) || decide (c.toNat=45)
theorem Ox (c:UInt8):J9 c=true ↔ ((97≤c.toNat∧c.toNat≤122)∨(48≤c.toNat∧c.toNat≤57)∨c.toNat=95∨c.toNat=45):=by simp [J9,or_assoc]
def FW:List UInt8→Bool
  | []=>false
  | c :: _=>decide (97≤c.toNat∧c.toNat≤122)
def yX (s:ByteArray):Bool:=decide (s.size≤30) && FW s.data.toList && s.data.toList.all J9
theorem XY {a b:Bool} (h:a=b):Ending.returned (.bool b)= .returned (.bool a):=by rw [h]
theorem hd_num (s:ByteArray):∃ c0:Nat,∀ h:0 < s.size,(s[0]'h).toNat=c0:=by
  by_cases h:0 < s.size
  · exact⟨(s[0]'h).toNat,fun _=>rfl⟩
  · exact⟨0,fun h'=>absurd h' h⟩
theorem isName_eq (s:ByteArray) (c0:Nat) (e0:∀ h:0 < s.size,(s[0]'h).toNat=c0):
    yX s=decide ((s.size≠0∧s.size≤30)∧(97≤c0∧c0≤122)∧(∀ k (hk:k < s.size),J9 (s[k]'hk)=true)):=by
  have ha:(s.data.toList.all J9=true) ↔ (∀ k (hk:k < s.size),J9 (s[k]'hk)=true):=by
    rw [List.all_eq_true]
    constructor
    · intro h k hk
      exact h _ (List.getElem_mem (l:=s.data.toList) (n:=k) (by simpa using hk))
    · intro h x hx
      obtain⟨k,hk,rfl⟩:=List.mem_iff_getElem.1 hx;exact h k (by simpa using hk)
  have hh:∀ h:0 < s.size,FW s.data.toList=decide (97≤c0∧c0≤122):=by
    intro h;rw [← e0 h];obtain⟨⟨l⟩⟩:=s;cases l with
    | nil=>exact absurd h dE
    | cons c l=>rfl
  by_cases h0:s.size=0
  · have:s.data.toList= []:=by
      apply List.eq_nil_of_length_eq_zero;simpa using h0
    simp [yX,this,FW,h0]
  · have h:=hh om
    rw [Bool.eq_iff_iff];simp only [yX,h,Bool.and_eq_true,decide_eq_true_eq,ha]
    constructor
    · rintro ⟨⟨a,b⟩,c⟩;exact⟨⟨h0,a⟩,b,c⟩
    · rintro ⟨⟨_,a⟩,b,c⟩;exact⟨⟨a,b⟩,c⟩
theorem K6:(Tryd.prog.info? 36).map (·.size)=some 2:=by kernel_rfl
theorem ze36:(Tryd.prog.info? 36).map (·.zero)=some (some (.agg #[.int .i64 0,.int .i64 0])):=by kernel_rfl
theorem IW (s:ByteArray) (w:World):Calls Tryd.prog 46 #[.string s] w fun e w'=>e= .returned (.bool (yX s))∧w=w':=by
 obtain⟨c0,e0⟩:=hd_num s;have hN:=Lib.hid (isName_eq s c0 e0);refine enter Tryd.func46 Tryd.ntmps46 rfl (Nat.le_of_ble_eq_true rfl) (zn7 ?_);refine yV [5,6,7,8,9,10,11,12,13,14,15,16,17,18,19,20,21,22] 22 (.bool (decide (s.size=0∨30 < s.size∨c0 < 97∨122 < c0))) nu ?_ (fun gq=>?_)
 ·refine zn5 ?_;refine zY 8 rfl (fun g8=>?_) (fun g8=>?_)
  ·refine V8 ?_;refine zQ (e_R ⟨rfl,agA,?_⟩);show Value.bool _=Value.bool _
   try have e0':=e0 om
   first | exact congrArg Value.bool (decide_eq_true om).symm | exact congrArg Value.bool (decide_eq_false om).symm | exact congrArg Value.bool (decide_eq_decide.2 om) | exact congrArg Value.bool ((decide_not).symm.trans (decide_eq_decide.2 om))
  refine zn8 ?_;refine zY 13 rfl (fun g13=>?_) (fun g13=>?_)
  ·refine zn9 ?_;refine zQ (e_R ⟨rfl,agA,?_⟩);show Value.bool _=Value.bool _
   try have e0':=e0 om
   first | exact congrArg Value.bool (decide_eq_true om).symm | exact congrArg Value.bool (decide_eq_false om).symm | exact congrArg Value.bool (decide_eq_decide.2 om) | exact congrArg Value.bool ((decide_not).symm.trans (decide_eq_decide.2 om))
  refine zn3 ?_;refine wl (HW (i:=0) U9 rfl rfl om) (zn4 ?_);refine zY 18 rfl (fun g18=>?_) (fun g18=>?_)
  ·refine zn4 ?_;refine zQ (e_R ⟨rfl,agA,?_⟩);show Value.bool _=Value.bool _
   try have e0':=e0 om
   first | exact congrArg Value.bool (decide_eq_true om).symm | exact congrArg Value.bool (decide_eq_false om).symm | exact congrArg Value.bool (decide_eq_decide.2 om) | exact congrArg Value.bool ((decide_not).symm.trans (decide_eq_decide.2 om))
  refine zn3 ?_;refine wl (HW (i:=0) U9 rfl rfl om) (zn3 ?_);refine zQ (e_R ⟨rfl,agA,?_⟩);show Value.bool _=Value.bool _
  try have e0':=e0 om
  first | exact congrArg Value.bool (decide_eq_true om).symm | exact congrArg Value.bool (decide_eq_false om).symm | exact congrArg Value.bool (decide_eq_decide.2 om) | exact congrArg Value.bool ((decide_not).symm.trans (decide_eq_decide.2 om))
 refine e_S ?_;refine zW rfl (fun c22=>?_) (fun c22=>?_)
 ·refine zn8 ?_;exact⟨XY (by rw [hN.out];exact decide_eq_false (fun h=>by omega)),rfl⟩
 refine ZQ ?_;refine qQ [2,3,4,25,26,27,28,29,30,31,32,33,34,35,36,37,38,39,40,41,42,43,44,45,46,47,48,49,50,51,52,53,54] (fun m g w'=>∃ k:Nat,k≤s.size∧m=s.size - k∧g 25= .int .i64 k∧w=w'∧(∀ j (hj:j < s.size),j < k→J9 (s[j]'hj)=true)) (s.size) ?_ (fun m g4 w1 hI=>?_)
 ·exact⟨0,Nat.zero_le _,rfl,rfl,rfl,fun j hj h=>by omega⟩
 obtain⟨k,hk,hm,h25,rfl,hall⟩:=hI;refine zX 25 _ h25 nu (zn6 ?_);refine zW rfl (fun c26=>?_) (fun c26=>?_)
 ·refine V8 ?_;refine wl (HW (i:=k) U9 rfl rfl om) (zn4 ?_);refine yV [31,32,33,34,35,36,37,38,39,40,41,42,43,44,45,46,47,48,49,50,51,52,53] 53 (.bool (decide (¬((97≤(s[k]'om).toNat∧(s[k]'om).toNat≤122)∨(48≤(s[k]'om).toNat∧(s[k]'om).toNat≤57)∨(s[k]'om).toNat=95∨(s[k]'om).toNat=45)))) nu ?_ (fun gq=>?_)
  ·refine zn4 ?_;refine zY 33 rfl (fun g33=>?_) (fun g33=>?_)
   ·refine zn6 ?_;refine zY 37 rfl (fun g37=>?_) (fun g37=>?_)
    ·refine E2 ?_;refine zQ (e_R ⟨rfl,agA,?_⟩);exact clA
    refine zn6 ?_;refine zY 40 rfl (fun g40=>?_) (fun g40=>?_)
    ·refine zn8 ?_;refine zY 45 rfl (fun g45=>?_) (fun g45=>?_)
     ·refine zn8 ?_;refine zQ (e_R ⟨rfl,agA,?_⟩);exact clA
     refine zn6 ?_;refine zY 49 rfl (fun g49=>?_) (fun g49=>?_)
     ·refine zn4 ?_;refine zQ (e_R ⟨rfl,agA,?_⟩);exact clA
     refine zn6 ?_;refine zQ (e_R ⟨rfl,agA,?_⟩);exact clA
    refine jw ?_;refine zY 49 rfl (fun g49=>?_) (fun g49=>?_)
    ·refine zn4 ?_;refine zQ (e_R ⟨rfl,agA,?_⟩);exact clA
    refine zn6 ?_;refine zQ (e_R ⟨rfl,agA,?_⟩);exact clA
   refine kv ?_;refine zY 40 rfl (fun g40=>?_) (fun g40=>?_)
   ·refine zn8 ?_;refine zY 45 rfl (fun g45=>?_) (fun g45=>?_)
    ·refine zn8 ?_;refine zQ (e_R ⟨rfl,agA,?_⟩);exact clA
    refine zn6 ?_;refine zY 49 rfl (fun g49=>?_) (fun g49=>?_)
    ·refine zn4 ?_;refine zQ (e_R ⟨rfl,agA,?_⟩);exact clA
    refine zn6 ?_;refine zQ (e_R ⟨rfl,agA,?_⟩);exact clA
   refine jw ?_;refine zY 49 rfl (fun g49=>?_) (fun g49=>?_)
   ·refine zn4 ?_;refine zQ (e_R ⟨rfl,agA,?_⟩);exact clA
   refine zn6 ?_;refine zQ (e_R ⟨rfl,agA,?_⟩);exact clA
  refine e_S ?_;refine zW rfl (fun c53=>?_) (fun c53=>?_)
  ·refine jw ?_;exact⟨XY (by rw [hN.out];exact decide_eq_false (fun h=>c53 ((Ox _).1 (h.2.2 k om)))),rfl⟩
  have hall':∀ j (hj:j < s.size),j < k + 1→J9 (s[j]'hj)=true:=fun j hj h=>by
    by_cases e:j=k
    · subst e;exact(Ox _).2 om
    · exact hall j hj om
  refine zn7 ?_;refine y6 (s.size - (k + 1)) om agA ?_;exact⟨k + 1,by omega,rfl,rfl,rfl,fun j hj h=>hall' j hj h⟩
 refine jw ?_;exact⟨XY (by rw [hN.out];exact decide_eq_true ⟨by omega,by omega,fun j hj=>hall j hj om⟩),rfl⟩
theorem kK (a b:Int) (w:World):Calls Tryd.prog 62 #[.int .i64 a,.int .i64 b] w fun e w'=>e= .returned (flV (a,b))∧Bel w w':=by
 refine enter Tryd.func62 Tryd.ntmps62 rfl (Nat.le_of_ble_eq_true rfl) ?_;have hB:Bel w w:=Below.refl _ _;refine zn2 ?_;refine qV (cs:=#[.int .i64 0,.int .i64 0]) ze36 rfl (fun b4 w1 hb4 s1 hr=>?_);have lo4:=nLT (Bel.size hB) hr;refine zn6 ?_;refine wl (oK (v0:= .int _ _) (v1:= .int _ _) (fun v0 v1=>#[v0,v1]) rfl rfl kR) ?_;refine zk hb4 rfl rfl K6 rfl zJ (fun w2 hq s2=>?_);replace hb4:=hq;refine zn3 ?_;refine y7 (.inl rfl) rfl (zw U36 rfl rfl hb4.range0 K6) ?_;replace hB:=(hB.tr0 s1).tr1 s2 lo4;exact⟨rfl,hB⟩
end Go.Proofs.YtdgnllfbooklcaaDoor
