/- The engine's part for drawn regions in which the operations that do more than yield a value wait for one another: such a region is walked in one order. What the data of hierarchies are as plain values, and how a world holds them. Arguments opened: slices of ints and of structs, as the readings of data give them. Nothing here speaks of one program. Steps that need no hint. Simple types as plain trees, how a world holds them, and what is wrong with them. No program in sight. -/
import Derived.Test.YtdgnllfbooklcaaDoorEng2
import Derived.OrdersHeld
import Derived.ChangeSame
import Derived.ChangeArms
import Derived.Clock
import Derived.Carry
import Derived.OpenShut
import Derived.Deep.Slices
import Derived.Deep.Strs
import Derived.Lib.SmallJoins
import Derived.Test.YtdgnllfbooklcaaDoorU
import Derived.Test.YtdgnllfbooklcaaDoorProg
namespace Go.Proofs.YtdgnllfbooklcaaDoor
open Go.RowKit
section held
variable {P:Program} {Q:Exit→Act→World→Prop} {n:Nat} {f:Fr} {w:World} {l:List Oper} {X ds is:List Nat}
def mk (m:Nat):List Nat→Array Bool
  | []=>Array.replicate m false
  | i :: is=>(mk m is).setIfInBounds i true
def PQ (Q:Exit→Act→World→Prop):Prop:=∀ (d:Option Tmp) v c a w,Q (.panic c) (Act.put a d v) w→Q (.panic c) a w
def okL (l:List Oper):List Nat→List Nat→Bool
  | ds,[]=>(Region.ready .any l.toArray (mk l.length ds)).isEmpty
  | ds,i :: is=>((Region.free .any l.toArray (mk l.length ds) i && (Region.ready .any l.toArray (mk l.length ds)).contains i) || (Region.ready .any l.toArray (mk l.length ds) == [i])) && okL l (i :: ds) is
def HL (P:Program) (l:List Oper) (Q:Exit→Act→World→Prop) (X ds is:List Nat) (n:Nat) (f:Fr) (w:World):Prop:=
  Region.noSelect l.toArray=true→okL l ds is=true→PQ Q→wpAnyH P .any l.toArray Q (fun w'=>Same X w w') is.length (mk l.length ds) (AF n f) w
theorem Dx {S S':World→Prop} (hS:∀ w,S' w→S w):∀ (fuel:Nat) (listed:Array Bool) (a:Act) (w:World),wpAnyH P .any l.toArray Q S' fuel listed a w→wpAnyH P .any l.toArray Q S fuel listed a w
  | 0,_,_,_,h=>h
  | fuel + 1,_,_,_,h=>⟨h.1,fun i hi=>wpOp_mono (fun a' w' h'=>⟨hS _ h'.1,Dx hS fuel _ a' w' h'.2⟩) (h.2 i hi)⟩
theorem uQ {id:Nat} (X is:List Nat) (hm:P.follows .mixedOrders=true) (K:∀ w1,Same [] w w1→HL P l Q X [] is n f w1) (hc:(Region.noSelect l.toArray && (Nat.beq is.length l.length && okL l [] is))=true:=by kernel_rfl) (hQ:PQ Q:=by first | (intro d;cases d <;> exact fun _ _ _ _ h=>h) | (have h:=‹PQ _›;exact fun d v c a w k=>h d v c a w k)):WC P (.region id l.toArray true) Q n f w:=by
  unfold WC;simp only [Bool.and_eq_true] at hc;have e:is.length=l.length:=Nat.eq_of_beq_eq_true hc.2.1;have h:=K { w with drawn:=w.drawn + 1 } (Same.drew w 1) hc.1 hc.2.2 hQ;rw [e] at h;exact wp_region_any hm (wpAny_of_held _ _ _ _ h)
theorem h_yi {i:Nat} {o:Oper} {v:Value} (ho:l[i]? =some o) (hy:YieldsIf P l.toArray (fun w'=>Same X w w') o v (AF n f)) (K:HL P l Q X (i :: ds) is n (RQ f o.dst v) w):HL P l Q X ds (i :: is) n f w:=by
  intro h2 hc hQ;simp only [okL,Bool.and_eq_true,Bool.or_eq_true] at hc;obtain⟨hc1,hc⟩:=hc;have hK:=K h2 hc hQ;rw [← NK] at hK;have ho':(l.toArray)[i]? =some o:=by simpa using ho
  rcases hc1 with ⟨h3,h4⟩ | h4
  · exact wpAnyH_take ho' h2 h3 h4 (hQ _ _) hy (Same.refl _ _) hK
  · exact wpAnyH_all (eq_of_beq h4) (by simp) (fun j hj=>by rw [List.mem_singleton.1 hj];exact hy.wpOp ho' (Same.refl _ _) ⟨Same.refl _ _,hK⟩)
variable {op:Op} {ty t:TypeId} {pos:String} {af:Array Edge} {v:Value} {x:Operand} {d:Tmp} {i:Nat}
theorem M4 {o:Oper} {w':World} (h:RV P n f w o v w'):(execOp (ev n f) o).run P w= .ok (.value v) w':=by unfold RV at h;exact h
theorem hl (ho:l[i]? =some ⟨some d,op,ty,pos,af,none⟩) (h:∀ w',RV P n f w' ⟨some d,op,ty,pos,af,none⟩ v w') (K:HL P l Q X (i :: ds) is n (upd f d v) w):HL P l Q X ds (i :: is) n f w:=
  h_yi ho (.inl ⟨by simp [Region.wanted],fun w' _=>by rw [jk];exact M4 (h w')⟩) K
theorem hle {u:Value} (ho:l[i]? =some ⟨some d,op,ty,pos,af,none⟩) (h:∀ w',RV P n f w' ⟨some d,op,ty,pos,af,none⟩ u w') (e:u=v) (K:HL P l Q X (i :: ds) is n (upd f d v) w):HL P l Q X ds (i :: is) n f w:=
  hl ho (fun w'=>e ▸ h w') K
theorem Same.cl {w':World} {b o:Nat} (hs:Same X w w') (hb:b ∉ X) (hc:w.cell? ⟨b,o,none⟩=some v):w'.cell? ⟨b,o,none⟩=some v:=by
  have hl:b < w.heap.size:=by
    refine Classical.byContradiction (fun h=>?_);have:w.heap[b]? =none:=Array.getElem?_eq_none om;simp [World.cell?,this] at hc
  have h:=hs.blk b hl hb;simp only [World.cell?,h] at hc ⊢;exact hc
theorem hl1 {b o:Nat} {dd:TypeDesc} (ho:l[i]? =some ⟨some d,.load t x,ty,pos,af,none⟩) (hu:P.underlying t=some dd) (hd:dd.isRow=false) (hx:ev n f x= .pointer (some ⟨b,o,none⟩)) (hl:w.cell? ⟨b,o,none⟩=some v) (K:HL P l Q X (i :: ds) is n (upd f d v) w) (hb:b ∉ X:=by first | exact List.not_mem_nil | (simp only [List.mem_cons,List.not_mem_nil,or_false,not_or];omega)):HL P l Q X ds (i :: is) n f w:=
  h_yi ho (.inl ⟨by simp [Region.wanted],fun w' hs=>by rw [jk];exact M4 (qK hu hd hx (hs.cl hb hl))⟩) K
theorem hlS {b o:Nat} {dd:TypeDesc} {cs:List Value} (ho:l[i]? =some ⟨some d,.load t x,ty,pos,af,none⟩) (hu:P.underlying t=some dd) (hd:dd.isRow=true) (hx:ev n f x= .pointer (some ⟨b,o,none⟩)) (hl:w.rangeAt b o cs) (hi:(P.info? t).map (·.size)=some cs.length) (K:HL P l Q X (i :: ds) is n (upd f d (.agg cs.toArray)) w) (hb:b ∉ X:=by first | exact List.not_mem_nil | (simp only [List.mem_cons,List.not_mem_nil,or_false,not_or];omega)):HL P l Q X ds (i :: is) n f w:=
  h_yi ho (.inl ⟨by simp [Region.wanted],fun w' hs=>by rw [jk];exact M4 (qW hu hd hx (fun j v hj=>hs.cl hb (hl j v hj)) hi)⟩) K
theorem hg {dst:Option Tmp} {j:Nat} {b:Bool} (g:Tmp) (ho:l[i]? =some ⟨dst,op,ty,pos,af,some (j,b)⟩) (hj:(l.toArray[j]?).bind (·.dst)=some g) (hv:ev n f (.tmp g)= .bool b) (h:∀ w',Same X w w'→RV P n f w' ⟨dst,op,ty,pos,af,some (j,b)⟩ v w') (K:HL P l Q X (i :: ds) is n (RQ f dst v) w):HL P l Q X ds (i :: is) n f w:=
  h_yi ho (.inl ⟨by rw [IZ hj hv];simp,fun w' hs=>by rw [jk];exact M4 (h w' hs)⟩) K
theorem hge {dst:Option Tmp} {j:Nat} {b:Bool} (g:Tmp) {u:Value} (ho:l[i]? =some ⟨dst,op,ty,pos,af,some (j,b)⟩) (hj:(l.toArray[j]?).bind (·.dst)=some g) (hv:ev n f (.tmp g)= .bool b) (h:∀ w',Same X w w'→RV P n f w' ⟨dst,op,ty,pos,af,some (j,b)⟩ u w') (e:u=v) (K:HL P l Q X (i :: ds) is n (RQ f dst v) w):HL P l Q X ds (i :: is) n f w:=
  hg g ho hj hv (fun w' hs=>e ▸ h w' hs) K
theorem hg1 {j:Nat} {b':Bool} {b o:Nat} {dd:TypeDesc} (g:Tmp) (ho:l[i]? =some ⟨some d,.load t x,ty,pos,af,some (j,b')⟩) (hj:(l.toArray[j]?).bind (·.dst)=some g) (hv:ev n f (.tmp g)= .bool b') (hu:P.underlying t=some dd) (hd:dd.isRow=false) (hx:ev n f x= .pointer (some ⟨b,o,none⟩)) (hl:w.cell? ⟨b,o,none⟩=some v) (K:HL P l Q X (i :: ds) is n (upd f d v) w) (hb:b ∉ X:=by first | exact List.not_mem_nil | (simp only [List.mem_cons,List.not_mem_nil,or_false,not_or];omega)):HL P l Q X ds (i :: is) n f w:=
  hg g ho hj hv (fun w' hs=>qK hu hd hx (hs.cl hb hl)) K
theorem hgS {j:Nat} {b':Bool} {b o:Nat} {dd:TypeDesc} {cs:List Value} (g:Tmp) (ho:l[i]? =some ⟨some d,.load t x,ty,pos,af,some (j,b')⟩) (hj:(l.toArray[j]?).bind (·.dst)=some g) (hv:ev n f (.tmp g)= .bool b') (hu:P.underlying t=some dd) (hd:dd.isRow=true) (hx:ev n f x= .pointer (some ⟨b,o,none⟩)) (hl:w.rangeAt b o cs) (hi:(P.info? t).map (·.size)=some cs.length) (K:HL P l Q X (i :: ds) is n (upd f d (.agg cs.toArray)) w) (hb:b ∉ X:=by first | exact List.not_mem_nil | (simp only [List.mem_cons,List.not_mem_nil,or_false,not_or];omega)):HL P l Q X ds (i :: is) n f w:=
  hg g ho hj hv (fun w' hs=>qW hu hd hx (fun j v hj=>hs.cl hb (hl j v hj)) hi) K
theorem hsk {dst:Option Tmp} {j:Nat} {b:Bool} (g:Tmp) (ho:l[i]? =some ⟨dst,op,ty,pos,af,some (j,b)⟩) (hj:(l.toArray[j]?).bind (·.dst)=some g) (hv:ev n f (.tmp g)= .bool (!b)) (K:HL P l Q X (i :: ds) is n (RQ f dst undef) w):HL P l Q X ds (i :: is) n f w:=
  h_yi ho (.inr ⟨by rw [IZ hj hv];cases b <;> rfl,rfl⟩) K
theorem Lk (t:Nat) {b:Bool} (hv:ev n f (.tmp t)= .bool b) (h1:b=true→HL P l Q X ds is n (upd f t (.bool true)) w) (h2:b=false→HL P l Q X ds is n (upd f t (.bool false)) w):HL P l Q X ds is n f w:=by
  have hf:=Y7 hv nu;cases b
  · have:=h2 rfl;rwa [ky hf] at this
  · have:=h1 rfl;rwa [ky hf] at this
theorem h_casesd (t:Nat) {p:Prop} {dp:Decidable p} (hv:ev n f (.tmp t)= .bool (@decide p dp)) (h1:p→HL P l Q X ds is n (upd f t (.bool true)) w) (h2:¬p→HL P l Q X ds is n (upd f t (.bool false)) w):HL P l Q X ds is n f w:=
  Lk t hv (fun h=>h1 (of_decide_eq_true h)) (fun h=>h2 (of_decide_eq_false h))
def QH (P:Program) (l:List Oper) (Q:Exit→Act→World→Prop) (S:World→Prop) (ds is:List Nat):Exit→Act→World→Prop
  | .normal,a,w=>Region.noSelect l.toArray=true→okL l ds is=true→PQ Q→S w∧wpAnyH P .any l.toArray Q S is.length (mk l.length ds) a w
  | e,a,w=>Q e a w
theorem wp_qh {S:World→Prop} {o:Oper} {a:Act} {K:Act→World→Prop} (h:o.wp P a w K (QH P l Q S ds is)):o.wp P a w K Q:=by
  unfold Oper.wp at *
  generalize (execOp a.eval o).run P w=r at *
  cases r with
  | ok x w'=>cases x <;> exact h
  | halt x w'=>cases x <;> exact h
theorem e_H {w0:World} {X X':List Nat} (hs:Same X w0 w) (hX:∀ g ∈ X',g ∈ X∨w0.heap.size≤g) (h:HL P l Q X' ds is n f w):EX (QH P l Q (fun w'=>Same X w0 w') ds is) .normal n f w:=by
  unfold EX;exact fun h2 hc hQ=>⟨hs,Dx (fun w' (h':Same X' w w')=>⟨h'.os.trans hs.os,h'.tape.trans hs.tape,h'.output.trans hs.output,nLT hs.size h'.size,fun k hk hx=>(h'.blk k (nLL hk hs.size) (fun hm=>(hX k hm).elim hx (fun h2=>by omega))).trans (hs.blk k hk hx)⟩) _ _ _ _ (h h2 hc hQ)⟩
theorem Px {w0:World} (hs:Same [] w0 w) (h:HL P l Q [] ds is n f w):EX (QH P l Q (fun w'=>Same [] w0 w') ds is) .normal n f w:=e_H hs (fun _ hg=> .inl hg) h
theorem h1 {o:Oper} (ho:l[i]? =some o) (h:WL P l.toArray (QH P l Q (fun w'=>Same X w w') (i :: ds) is) [o] n f w) (hr:Region.ready .any l.toArray (mk l.length ds)= [i]:=by kernel_rfl):HL P l Q X ds (i :: is) n f w:=by
  intro h2 hc hQ;simp only [okL,Bool.and_eq_true] at hc;refine wpAnyH_all hr (by simp) (fun j hj=>?_);rw [List.mem_singleton.1 hj];unfold wpOp;have ho':(l.toArray)[i]? =some o:=by simpa using ho
  simp only [ho'];unfold WL wpList at h;by_cases hwt:Region.wanted o (yielded l.toArray (AF n f).tmps)=true
  · rw [if_pos hwt] at h ⊢
    rcases h with h | h
    · exact .inl (Oper.wp_mono (fun a' w' h'=>(show QH P l Q _ _ _ .normal a' w' from h') h2 hc.2 hQ) (wp_qh h))
    · exact .inr h
  · rw [if_neg hwt] at h ⊢
    exact(show QH P l Q _ _ _ .normal _ w from h) h2 hc.2 hQ
theorem h_end (h:EX Q .normal n f w):HL P l Q X ds [] n f w:=fun _ hc _=>by
  unfold EX at h
  exact wpAnyH_done (by simpa [okL] using hc) h _
theorem hcl (Rk:Value→World→Prop) {F:FuncId} {xs:Array Operand} {ats:Array TypeId} {args:List Value} {R:Ending→World→Prop} (ho:l[i]? =some ⟨some d,.call { callee:= .value (.func F),args:=xs,argTypes:=ats },ty,pos,af,none⟩) (hF:zZ P F=true) (hc:Calls P F args.toArray w R) (hargs:xs.toList.map (ev n f)=args)
    (hR:∀ e' w1,R e' w1→∃ v,e'= .returned v∧Same [] w w1∧Rk v w1) (K:∀ v w1,Same [] w w1→Rk v w1→HL P l Q X (i :: ds) is n (upd f d v) w1) (hr:Region.ready .any l.toArray (mk l.length ds)= [i]:=by kernel_rfl):HL P l Q X ds (i :: is) n f w:=by
  refine h1 ho (zX hF hc hargs (fun e' w1 h=>?_)) hr;obtain⟨v,h1,h2,h3⟩:=hR e' w1 h;exact⟨v,h1,zW (e_H (h2.weak (by simp)) (fun g hg=> .inl hg) (K v w1 h2 h3))⟩
theorem a_tk (i:Nat) {k:Nat} {listed:Array Bool} (ho:l[i]? =some ⟨some d,op,ty,pos,af,none⟩) (h:∀ w',RV P n f w' ⟨some d,op,ty,pos,af,none⟩ v w') (K:WA P l Q k (listed.setIfInBounds i true) n (upd f d v) w) (hc:(Region.noSelect l.toArray && (Region.free .any l.toArray listed i && (Region.ready .any l.toArray listed).contains i))=true:=by kernel_rfl) (hQ:PQ Q:=by first | (intro d;cases d <;> exact fun _ _ _ _ h=>h) | (have h:=‹PQ _›;exact fun d v c a w k=>h d v c a w k)):WA P l Q (k + 1) listed n f w:=by
  simp only [Bool.and_eq_true] at hc;obtain⟨h2,h3,h4⟩:=hc;unfold WA at K ⊢;refine wpAny_take (by simpa using ho) h2 h3 h4 (hQ _ _) (.inl ⟨by simp [Region.wanted],fun w'=>by rw [jk];exact M4 (h w')⟩) ?_;rw [NK];exact K
end held
attribute [irreducible] HL
end Go.Proofs.YtdgnllfbooklcaaDoor
namespace Go.Proofs.YtdgnllfbooklcaaDoor
open Go.RowKit
structure Ty where
  name:ByteArray
  par:List Int
structure Ft where
  name:ByteArray
  of:Int
  val:Int
abbrev Fl:=Int×Int
def flV (p:Fl):Value:= .agg #[.int .i64 p.1,.int .i64 p.2]
theorem xW {c i:Int} {p:Fl} (h:p=(c,i)):Ending.returned (.agg [.int .i64 c,.int .i64 i].toArray)= .returned (flV p):=by rw [h];rfl
def vz:Nat:=9223372036854775807
def IntsIn (w:World) (A:Option Addr) (xs:List Int):Prop:=
  xs.length≤vz∧(xs≠[]→∃ b o,A=some ⟨b,o,none⟩∧b < w.heap.size∧∀ k (h:k < xs.length),w.cell? ⟨b,o + k * 1,none⟩=some (.int .i64 xs[k]))
theorem IntsIn.mono {w w':World} {A:Option Addr} {xs:List Int} (h:IntsIn w A xs) (hb:Bel w w'):IntsIn w' A xs:=
  ⟨h.1,fun hn=>by
    obtain⟨b,o,e,hl,hc⟩:=h.2 hn
    exact⟨b,o,e,nLL hl hb.size,fun k hk=>hb.cell hl (hc k hk)⟩⟩
theorem IntsIn.at_ {w:World} {A:Option Addr} {xs:List Int} (h:IntsIn w A xs) {k:Nat} (hk:k < xs.length):
    ∃ b o,A=some ⟨b,o,none⟩∧b < w.heap.size∧w.cell? ⟨b,o + k * 1,none⟩=some (.int .i64 xs[k]):=by
  obtain⟨b,o,e,hl,hc⟩:=h.2 (by rintro rfl;simp at hk);exact⟨b,o,e,hl,hc k hk⟩
def TyIn (w:World) (b o:Nat) (t:Ty):Prop:=∃ A c,w.rangeAt b o [.string t.name,.slice A t.par.length c]∧IntsIn w A t.par
def TypesIn (w:World) (A:Option Addr) (l:List Ty):Prop:=
  l.length≤vz∧(l≠[]→∃ b o,A=some ⟨b,o,none⟩∧b < w.heap.size∧∀ k (h:k < l.length),TyIn w b (o + k * 2) l[k])
theorem TyIn.mono {w w':World} {b o:Nat} {t:Ty} (h:TyIn w b o t) (hb:Bel w w') (hl:b < w.heap.size):TyIn w' b o t:=by
  obtain⟨A,c,h1,h2⟩:=h;exact⟨A,c,hb.range hl h1,h2.mono hb⟩
theorem TypesIn.mono {w w':World} {A:Option Addr} {l:List Ty} (h:TypesIn w A l) (hb:Bel w w'):TypesIn w' A l:=
  ⟨h.1,fun hn=>by
    obtain⟨b,o,e,hl,hc⟩:=h.2 hn
    exact⟨b,o,e,nLL hl hb.size,fun k hk=>(hc k hk).mono hb hl⟩⟩
theorem TypesIn.at_ {w w':World} {A:Option Addr} {l:List Ty} (h:TypesIn w A l) (hb:Bel w w') {k:Nat} (hk:k < l.length):
    ∃ b o A' c,A=some ⟨b,o,none⟩∧b < w.heap.size∧w'.rangeAt b (o + k * 2) [.string (l[k]).name,.slice A' (l[k]).par.length c]∧IntsIn w A' (l[k]).par:=by
  obtain⟨b,o,e,hl,hc⟩:=h.2 (by rintro rfl;simp at hk);obtain⟨A',c,h1,h2⟩:=hc k hk;exact⟨b,o,A',c,e,hl,hb.range hl h1,h2⟩
def FtIn (w:World) (b o:Nat) (t:Ft):Prop:=w.rangeAt b o [.string t.name,.int .i64 t.of,.int .i64 t.val]
def FeatsIn (w:World) (A:Option Addr) (l:List Ft):Prop:=
  l.length≤vz∧(l≠[]→∃ b o,A=some ⟨b,o,none⟩∧b < w.heap.size∧∀ k (h:k < l.length),FtIn w b (o + k * 3) l[k])
theorem FeatsIn.mono {w w':World} {A:Option Addr} {l:List Ft} (h:FeatsIn w A l) (hb:Bel w w'):FeatsIn w' A l:=
  ⟨h.1,fun hn=>by
    obtain⟨b,o,e,hl,hc⟩:=h.2 hn
    exact⟨b,o,e,nLL hl hb.size,fun k hk=>hb.range hl (hc k hk)⟩⟩
theorem FeatsIn.at_ {w w':World} {A:Option Addr} {l:List Ft} (h:FeatsIn w A l) (hb:Bel w w') {k:Nat} (hk:k < l.length):
    ∃ b o,A=some ⟨b,o,none⟩∧b < w.heap.size∧w'.rangeAt b (o + k * 3) [.string (l[k]).name,.int .i64 (l[k]).of,.int .i64 (l[k]).val]:=by
  obtain⟨b,o,e,hl,hc⟩:=h.2 (by rintro rfl;simp at hk);exact⟨b,o,e,hl,hb.range hl (hc k hk)⟩
def u6 (i:Int):Int→List Int→Int
  | _,[]=>0
  | last,p :: ps=>if p < 0∨i≤p then 3 else if p≤last then 13 else u6 i p ps
def qv (f:Nat→Int):Nat→Nat→Fl
  | _,0=>(0,0)
  | i,m + 1=>if f i≠0 then (f i,(i:Int)) else qv f (i + 1) m
theorem y9 {f:Nat→Int} {i m:Nat} {c:Int} (hm:0 < m) (hc:f i=c) (h:c≠0):qv f i m=(c,(i:Int)):=by
  subst hc;cases m with
  | zero=>omega
  | succ m=>simp [qv,h]
theorem jY {f:Nat→Int} {i n:Nat} (hm:i < n) (h:f i=0):qv f i (n - i)=qv f (i + 1) (n - (i + 1)):=by
  obtain⟨m,hm'⟩:∃ m,n - i=m + 1:=⟨n - i - 1,by omega⟩
  rw [hm',show n - (i + 1)=m from by omega];simp [qv,h]
theorem uq {f:Nat→Int} {i n:Nat} (h:n≤i):qv f i (n - i)=(0,0):=by
  rw [show n - i=0 from by omega];rfl
def uy (l:List ByteArray) (s:ByteArray):Bool:=l.any (fun u=>decide (u=s))
theorem M3 (l:List ByteArray) (u s:ByteArray):uy (l ++ [u]) s=(uy l s || decide (u=s)):=by simp [uy]
theorem oZ {α:Type} (l:List α) {k:Nat} (hk:k < l.length):l.take (k + 1)=l.take k ++ [l[k]]:=by
  rw [List.take_succ_eq_append_getElem hk]
end Go.Proofs.YtdgnllfbooklcaaDoor
namespace Go.Proofs.YtdgnllfbooklcaaDoor
open Go.RowKit Go.ChangeShapes Go.WideShapes Go.Deep Go.Joins
theorem vW {α:Type} {n:Nat} {p:Nat→α→Prop} (h:∀ i,i < n→∃ x,p i x):∃ l:List α,l.length=n∧∀ k (hk:k < l.length),p k l[k]:=by
  induction n with
  | zero=>exact⟨[],rfl,fun k hk=>by simp at hk⟩
  | succ n ih=>
    obtain⟨l,hl,hp⟩:=ih (fun i hi=>h i om);obtain⟨x,hx⟩:=h n om;refine⟨l ++ [x],by simp [hl],fun k hk=>?_⟩;by_cases e:k < l.length
    · rw [List.getElem_append_left e];exact hp k e
    · have e2:k=l.length:=by simp at hk;omega
      subst e2;have e3:(l ++ [x])[l.length]'hk=x:=by simp
      rw [e3,hl];exact hx
section
variable {H:Type} {enc:TypeId×Value→H} {P:Program} {w:World} {base:Nat} {spare:Nat→Bool} {held:Bool}
theorem vZ {v v':Value} (h:[v]= [v']):v=v':=by cases h;rfl
theorem KZ {t e:TypeId} {sz fuel:Nat} {v:Value} {x:DataW H×List MemPlace} (ht:P.underlying t=some (.slice e)) (hsz:P.cellsOf e=sz) (hpos:0 < sz) (h:DataW.trod enc P w base spare held fuel t [v]=some x):
    ∃ A len c,v= .slice A len c∧len≤c∧c≤vz∧(len≠0→∃ b o,A=some ⟨b,o,none⟩∧b < w.heap.size∧∀ i,i < len→∃ cs k y,cs.length=sz∧w.rangeAt b (o + i * sz) cs∧DataW.trod enc P w base spare held k e cs=some y):=by
  rcases open_slice ht h with ⟨hc,_⟩ | ⟨a,len,cap,m,n,D,Pl,hc,hb,hl,hm,hmm,_,hi⟩
  · rw [vZ hc]
    exact⟨none,0,0,rfl,Nat.le_refl _,Nat.zero_le _,fun h=>absurd rfl h⟩
  · rw [vZ hc]
    rw [hsz] at hi;refine⟨some a,len,cap,rfl,hl,hm,fun h0=>?_⟩;have hlm:len≤m:=by rw [hmm];split <;> omega
    obtain⟨b,o,s⟩:=a;have hsp:s=none∧b < w.heap.size:=by
      obtain⟨cs,h1,_⟩:=hi 0 om;obtain⟨_,h3,h4⟩:=World.cells?_some h1;have h5:=h4 0 hpos;have h6:cs[0]? =some (cs[0]'om):=List.getElem?_eq_getElem om;have h7:(Addr.add (Addr.add ⟨b,o,s⟩ (0 * sz)) 0)=⟨b,o,s⟩:=by simp [Addr.add]
      rw [h7,h6] at h5;exact⟨World.cell?_spot h5,Go.Clock.block_lt h5⟩
    obtain⟨rfl,hlt⟩:=hsp;refine⟨b,o,rfl,hlt,fun i hil=>?_⟩;obtain⟨cs,h1,h2⟩:=hi i om;obtain⟨_,h3,h4⟩:=World.cells?_some h1;refine⟨cs,n,_,h3,fun j v hj=>?_,h2⟩;have hjl:=(List.getElem?_eq_some_iff.1 hj).1;have h5:=h4 j om;rw [Addr.add_mid,Addr.add_mid] at h5;rw [h5];exact hj
theorem ints_open {t e:TypeId} {fuel:Nat} {v:Value} {x:DataW H×List MemPlace} (ht:P.underlying t=some (.slice e)) (he:P.underlying e=some (.int .i64)) (hsz:P.cellsOf e=1) (h:DataW.trod enc P w base spare held fuel t [v]=some x):
    ∃ A xs c,v= .slice A (List.length xs) c∧xs.length≤c∧IntsIn w A xs:=by
  obtain⟨A,len,c,rfl,hl,hm,hx⟩:=KZ ht hsz dE h;by_cases h0:len=0
  · subst h0
    exact⟨A,[],c,rfl,Nat.zero_le _,Nat.zero_le _,fun h=>absurd rfl h⟩
  · obtain⟨b,o,rfl,hlt,hc⟩:=hx h0
    obtain⟨xs,hxl,hxs⟩:=vW (p:=fun i (z:Int)=>w.cell? ⟨b,o + i * 1,none⟩=some (.int .i64 z)) (n:=len) (fun i hi=>by
      obtain⟨cs,k,y,h1,h2,h3⟩:=hc i hi;obtain⟨z,rfl,_,_⟩:=DataW.trod_int he h3
      exact⟨z,h2 0 _ rfl⟩)
    subst hxl;exact⟨_,xs,c,rfl,hl,nLT hl hm,fun _=>⟨b,o,rfl,hlt,hxs⟩⟩
theorem IX {e:TypeId} {f0 f1:Field} {fuel:Nat} {cs:List Value} {x:DataW H×List MemPlace} (he:P.underlying e=some (.struct #[f0,f1])) (hl:cs.length=2) (o0:f0.offset=0) (o1:f1.offset=1) (c0:P.cellsOf f0.type=1) (c1:P.cellsOf f1.type=1) (h:DataW.trod enc P w base spare held fuel e cs=some x):
    ∃ v0 v1 n y0 y1,cs= [v0,v1]∧DataW.trod enc P w base spare held n f0.type [v0]=some y0∧DataW.trod enc P w base spare held n f1.type [v1]=some y1:=by
  obtain⟨y0,y1,n,_,_,h0,h1⟩:=trod_struct2 he h
  match cs,hl with
  | [v0,v1],_=>
    simp [o0,o1,c0,c1] at h0 h1;exact⟨v0,v1,n,y0,y1,rfl,h0,h1⟩
theorem S3 {e:TypeId} {f0 f1 f2:Field} {fuel:Nat} {cs:List Value} {x:DataW H×List MemPlace} (he:P.underlying e=some (.struct #[f0,f1,f2])) (hl:cs.length=3) (o0:f0.offset=0) (o1:f1.offset=1) (o2:f2.offset=2) (c0:P.cellsOf f0.type=1) (c1:P.cellsOf f1.type=1) (c2:P.cellsOf f2.type=1) (h:DataW.trod enc P w base spare held fuel e cs=some x):
    ∃ v0 v1 v2 n y0 y1 y2,cs= [v0,v1,v2]∧DataW.trod enc P w base spare held n f0.type [v0]=some y0∧DataW.trod enc P w base spare held n f1.type [v1]=some y1∧DataW.trod enc P w base spare held n f2.type [v2]=some y2:=by
  obtain⟨y0,y1,y2,n,_,_,h0,h1,h2⟩:=trod_struct3 he h
  match cs,hl with
  | [v0,v1,v2],_=>
    simp [o0,o1,o2,c0,c1,c2] at h0 h1 h2;exact⟨v0,v1,v2,n,y0,y1,y2,rfl,h0,h1,h2⟩
theorem RK {t e ts ti tis:TypeId} {f0 f1:Field} {fuel:Nat} {v:Value} {x:DataW H×List MemPlace} (ht:P.underlying t=some (.slice e)) (he:P.underlying e=some (.struct #[f0,f1])) (hsz:P.cellsOf e=2) (o0:f0.offset=0) (o1:f1.offset=1) (e0:f0.type=ts) (e1:f1.type=tis) (hs:P.underlying ts=some .string) (hcs:P.cellsOf ts=1) (hci:P.cellsOf tis=1)
    (hti:P.underlying tis=some (.slice ti)) (hi:P.underlying ti=some (.int .i64)) (hc1:P.cellsOf ti=1) (h:DataW.trod enc P w base spare held fuel t [v]=some x):
    ∃ A l c,v= .slice A (List.length l) c∧l.length≤c∧TypesIn w A l:=by
  subst e0 e1;obtain⟨A,len,c,rfl,hl,hm,hx⟩:=KZ ht hsz dE h;by_cases h0:len=0
  · subst h0
    exact⟨A,[],c,rfl,Nat.zero_le _,Nat.zero_le _,fun h=>absurd rfl h⟩
  · obtain⟨b,o,rfl,hlt,hc⟩:=hx h0
    obtain⟨l,hxl,hxs⟩:=vW (p:=fun i (z:Ty)=>TyIn w b (o + i * 2) z) (n:=len) (fun i hi'=>by
      obtain⟨cs,k,y,h1,h2,h3⟩:=hc i hi';obtain⟨v0,v1,n,y0,y1,rfl,g0,g1⟩:=IX he h1 o0 o1 hcs hci h3;obtain⟨s,h4,_,_⟩:=DataW.trod_string hs g0;obtain⟨A',xs,c',rfl,_,hin⟩:=ints_open hti hi hc1 g1;rw [vZ h4] at h2
      exact⟨⟨s,xs⟩,A',c',h2,hin⟩)
    subst hxl;exact⟨_,l,c,rfl,hl,nLT hl hm,fun _=>⟨b,o,rfl,hlt,hxs⟩⟩
theorem Wv {t e ts ti:TypeId} {f0 f1 f2:Field} {fuel:Nat} {v:Value} {x:DataW H×List MemPlace} (ht:P.underlying t=some (.slice e)) (he:P.underlying e=some (.struct #[f0,f1,f2])) (hsz:P.cellsOf e=3) (o0:f0.offset=0) (o1:f1.offset=1) (o2:f2.offset=2) (e0:f0.type=ts) (e1:f1.type=ti) (e2:f2.type=ti) (hs:P.underlying ts=some .string) (hcs:P.cellsOf ts=1)
    (hi:P.underlying ti=some (.int .i64)) (hc1:P.cellsOf ti=1) (h:DataW.trod enc P w base spare held fuel t [v]=some x):
    ∃ A l c,v= .slice A (List.length l) c∧l.length≤c∧FeatsIn w A l:=by
  subst e0;obtain⟨A,len,c,rfl,hl,hm,hx⟩:=KZ ht hsz dE h;by_cases h0:len=0
  · subst h0
    exact⟨A,[],c,rfl,Nat.zero_le _,Nat.zero_le _,fun h=>absurd rfl h⟩
  · obtain⟨b,o,rfl,hlt,hc⟩:=hx h0
    obtain⟨l,hxl,hxs⟩:=vW (p:=fun i (z:Ft)=>FtIn w b (o + i * 3) z) (n:=len) (fun i hi'=>by
      obtain⟨cs,k,y,h1,h2,h3⟩:=hc i hi';obtain⟨v0,v1,v2,n,y0,y1,y2,rfl,g0,g1,g2⟩:=S3 he h1 o0 o1 o2 hcs (by rw [e1];exact hc1) (by rw [e2];exact hc1) h3;rw [e1] at g1;rw [e2] at g2;obtain⟨s,h4,_,_⟩:=DataW.trod_string hs g0;obtain⟨z1,h5,_,_⟩:=DataW.trod_int hi g1;obtain⟨z2,h6,_,_⟩:=DataW.trod_int hi g2;rw [vZ h4,vZ h5,vZ h6] at h2
      exact⟨⟨s,z1,z2⟩,h2⟩)
    subst hxl;exact⟨_,l,c,rfl,hl,nLT hl hm,fun _=>⟨b,o,rfl,hlt,hxs⟩⟩
theorem post_bel {f:Func} {s:ChangeSpec} {apart fresh handsOn again:Bool} {W W':World} {args:Array Value} {v:Value} {ds gs:List (DataW H)} {before pa pv:List MemPlace} (hW:DataW.Whole enc P f.params.toList s.vars apart W args.toList ds gs before)
    (hres:∀ (b:Nat) (sp:Nat→Bool) (hd:Bool),DataW.TrodAll enc P W' b sp hd f.resultTypes.toList (v.resultList f.resultTypes.size) (s.fn H (ds ++ gs)).results [])
    (hargs:∀ sp:Nat→Bool,(∀ p ∈ before,sp p.block=true)→DataW.TrodAll enc P W' 0 sp true f.params.toList args.toList (s.fn H (ds ++ gs)).args pa)
    (hvars:∀ sp:Nat→Bool,(∀ p ∈ before,sp p.block=true)→DataW.TrodVars enc P W' sp s.vars (s.fn H (ds ++ gs)).vars pv)
    (hps:before=pa ++ pv) (hb:Bel W W')
    (hok:∀ (j:Nat) (t:TypeId) (r:Value),f.resultTypes[j]? =some t→(v.resultList f.resultTypes.size)[j]? =some r→Value.okWide P W' .any 0 t r):
    s.post enc P f apart fresh handsOn again W args v W':=by
  have hlt:=fun p hp=>hW.lt p hp
  have hold:∀ p ∈ before,(fun b=>decide (b < W.heap.size)) p.block=true:=fun p hp=>by simpa using hlt p hp
  refine⟨ds,gs,before,[],pa,pv,hW,hres _ _ _,hargs _ hold,hvars _ hold,World.keptBut_mono (fun p hp=>⟨hp,?_⟩) (hb.frame (· ∈ before)),fun _=>?_⟩
  · rw [hps,List.mem_append] at hp;exact .inr hp
  obtain⟨_,_,_,_,_,hz,hn⟩:=hW;refine⟨hok,_,_,([] ++ pa) ++ pv,⟨[] ++ pa,pv,trodAll_append (hargs _ (fun _ _=>rfl)) (hres _ _ _),hvars _ (fun _ _=>rfl),rfl,fun b off hp=>?_,fun ha=>?_⟩,fun p hp _=>?_⟩
  · have hin:MemPlace.cell b off ∈ before:=by rw [hps];simpa using hp
    rw [hb.frozen (hlt _ hin)];exact hz b off hin
  · have:=hn ha
    rw [hps] at this;simpa using this
  · rw [hps];simpa using hp
end
end Go.Proofs.YtdgnllfbooklcaaDoor
namespace Go.Proofs.YtdgnllfbooklcaaDoor
open Go.RowKit
class UndC (P:Program) (t:TypeId) (u:outParam TypeDesc):Prop where
  h:P.underlying t=some u
class SzC (P:Program) (t:TypeId) (n:outParam Nat):Prop where
  h:(P.info? t).map (·.size)=some n
abbrev y7 {P:Program} {t:TypeId} {u:TypeDesc} (_:P.underlying t=some u):TypeDesc:=u
instance:UndC Tryd.prog 3 (y7 U3):=⟨U3⟩
instance:UndC Tryd.prog 4 (y7 U4):=⟨U4⟩
instance:UndC Tryd.prog 5 (y7 U5):=⟨U5⟩
instance:UndC Tryd.prog 9 (y7 U9):=⟨U9⟩
instance:UndC Tryd.prog 21 (y7 Tryd.underlying21):=⟨Tryd.underlying21⟩
instance:UndC Tryd.prog 22 (y7 U22):=⟨U22⟩
instance:UndC Tryd.prog 23 (y7 Tryd.underlying23):=⟨Tryd.underlying23⟩
instance:UndC Tryd.prog 25 (y7 U25):=⟨U25⟩
instance:UndC Tryd.prog 26 (y7 Tryd.underlying26):=⟨Tryd.underlying26⟩
instance:UndC Tryd.prog 27 (y7 U27):=⟨U27⟩
instance:UndC Tryd.prog 28 (y7 U28):=⟨U28⟩
instance:UndC Tryd.prog 30 (y7 U30):=⟨U30⟩
instance:UndC Tryd.prog 32 (y7 U32):=⟨U32⟩
instance:UndC Tryd.prog 33 (y7 U33):=⟨U33⟩
instance:UndC Tryd.prog 36 (y7 U36):=⟨U36⟩
instance:UndC Tryd.prog 39 (y7 U39):=⟨U39⟩
instance:UndC Tryd.prog 41 (y7 U41):=⟨U41⟩
instance:UndC Tryd.prog 42 (y7 U42):=⟨U42⟩
instance:UndC Tryd.prog 44 (y7 U44):=⟨U44⟩
instance:UndC Tryd.prog 46 (y7 U46):=⟨U46⟩
instance:UndC Tryd.prog 49 (y7 U49):=⟨U49⟩
instance:UndC Tryd.prog 54 (y7 Tryd.underlying54):=⟨Tryd.underlying54⟩
instance:UndC Tryd.prog 56 (y7 U56):=⟨U56⟩
instance:UndC Tryd.prog 61 (y7 U61):=⟨U61⟩
instance:UndC Tryd.prog 70 (y7 U70):=⟨U70⟩
instance:UndC Tryd.prog 72 (y7 U72):=⟨U72⟩
instance:UndC Tryd.prog 75 (y7 U75):=⟨U75⟩
instance:UndC Tryd.prog 84 (y7 U84):=⟨U84⟩
instance:UndC Tryd.prog 86 (y7 U86):=⟨U86⟩
instance:UndC Tryd.prog 91 (y7 U91):=⟨U91⟩
instance:UndC Tryd.prog 93 (y7 U93):=⟨U93⟩
instance:UndC Tryd.prog 95 (y7 U95):=⟨U95⟩
instance:UndC Tryd.prog 107 (y7 Tryd.underlying107):=⟨Tryd.underlying107⟩
instance:UndC Tryd.prog 110 (y7 WX):=⟨WX⟩
instance:UndC Tryd.prog 112 (y7 R9):=⟨R9⟩
instance:UndC Tryd.prog 117 (y7 Yw):=⟨Yw⟩
instance:UndC Tryd.prog 120 (y7 U120):=⟨U120⟩
instance:UndC Tryd.prog 123 (y7 Pw):=⟨Pw⟩
instance:UndC Tryd.prog 125 (y7 Bq):=⟨Bq⟩
instance:UndC Tryd.prog 134 (y7 Tryd.underlying134):=⟨Tryd.underlying134⟩
instance:UndC Tryd.prog 135 (y7 Pv):=⟨Pv⟩
instance:UndC Tryd.prog 141 (y7 Tryd.underlying141):=⟨Tryd.underlying141⟩
instance:UndC Tryd.prog 143 (y7 Tryd.underlying143):=⟨Tryd.underlying143⟩
instance:UndC Tryd.prog 153 (y7 Tryd.underlying153):=⟨Tryd.underlying153⟩
instance:UndC Tryd.prog 154 (y7 Tryd.underlying154):=⟨Tryd.underlying154⟩
instance:UndC Tryd.prog 155 (y7 Tryd.underlying155):=⟨Tryd.underlying155⟩
instance:UndC Tryd.prog 158 (y7 Tryd.underlying158):=⟨Tryd.underlying158⟩
instance:UndC Tryd.prog 160 (y7 Nk):=⟨Nk⟩
instance:UndC Tryd.prog 161 (y7 Tryd.underlying161):=⟨Tryd.underlying161⟩
instance:UndC Tryd.prog 165 (y7 U165):=⟨U165⟩
class FaC (P:Program) (t:TypeId) (i:Nat) (off:outParam Nat):Prop where
  h:∃ fs ft sz,P.underlying t=some (.struct fs)∧(P.info? ft).map (·.size)=some sz∧(sz == 0)=false∧(fs[i]?).map (fun x=>(x.type,x.offset))=some (ft,off)
theorem faM {P:Program} {t:TypeId} {i off ft sz:Nat} {fs:Array Field} (hu:P.underlying t=some (.struct fs)) (hs:(P.info? ft).map (·.size)=some sz) (h0:(sz == 0)=false) (hf:(fs[i]?).map (fun x=>(x.type,x.offset))=some (ft,off)):FaC P t i off:=⟨fs,ft,sz,hu,hs,h0,hf⟩
instance:SzC Tryd.prog 3 1:=⟨by kernel_rfl⟩
instance:SzC Tryd.prog 4 1:=⟨by kernel_rfl⟩
instance:SzC Tryd.prog 5 1:=⟨by kernel_rfl⟩
instance:SzC Tryd.prog 9 1:=⟨by kernel_rfl⟩
instance:SzC Tryd.prog 22 1:=⟨by kernel_rfl⟩
instance:SzC Tryd.prog 23 1:=⟨by kernel_rfl⟩
instance:SzC Tryd.prog 25 2:=⟨by kernel_rfl⟩
instance:SzC Tryd.prog 26 1:=⟨by kernel_rfl⟩
instance:SzC Tryd.prog 27 1:=⟨by kernel_rfl⟩
instance:SzC Tryd.prog 28 1:=⟨by kernel_rfl⟩
instance:SzC Tryd.prog 30 1:=⟨by kernel_rfl⟩
instance:SzC Tryd.prog 32 5:=⟨by kernel_rfl⟩
instance:SzC Tryd.prog 36 2:=⟨by kernel_rfl⟩
instance:SzC Tryd.prog 39 1:=⟨by kernel_rfl⟩
instance:SzC Tryd.prog 41 2:=⟨by kernel_rfl⟩
instance:SzC Tryd.prog 42 1:=⟨by kernel_rfl⟩
instance:SzC Tryd.prog 44 6:=⟨by kernel_rfl⟩
instance:SzC Tryd.prog 46 9:=⟨by kernel_rfl⟩
instance:SzC Tryd.prog 49 10:=⟨by kernel_rfl⟩
instance:SzC Tryd.prog 54 1:=⟨by kernel_rfl⟩
instance:SzC Tryd.prog 56 3:=⟨by kernel_rfl⟩
instance:SzC Tryd.prog 61 1:=⟨by kernel_rfl⟩
instance:SzC Tryd.prog 70 1:=⟨by kernel_rfl⟩
instance:SzC Tryd.prog 72 3:=⟨by kernel_rfl⟩
instance:SzC Tryd.prog 84 1:=⟨by kernel_rfl⟩
instance:SzC Tryd.prog 86 2:=⟨by kernel_rfl⟩
instance:SzC Tryd.prog 91 1:=⟨by kernel_rfl⟩
instance:SzC Tryd.prog 93 2:=⟨by kernel_rfl⟩
instance:SzC Tryd.prog 95 2:=⟨by kernel_rfl⟩
instance:SzC Tryd.prog 107 1:=⟨by kernel_rfl⟩
instance:SzC Tryd.prog 110 2:=⟨by kernel_rfl⟩
instance:SzC Tryd.prog 117 1:=⟨by kernel_rfl⟩
instance:SzC Tryd.prog 123 1:=⟨by kernel_rfl⟩
instance:SzC Tryd.prog 134 2:=⟨by kernel_rfl⟩
instance:SzC Tryd.prog 141 1:=⟨by kernel_rfl⟩
instance:SzC Tryd.prog 143 1:=⟨by kernel_rfl⟩
instance:SzC Tryd.prog 155 1:=⟨by kernel_rfl⟩
instance:SzC Tryd.prog 160 2:=⟨by kernel_rfl⟩
instance:SzC Tryd.prog 165 256:=⟨by kernel_rfl⟩
instance:FaC Tryd.prog 25 0 0:=faM U25 (SzC.h (t:=22)) rfl rfl
instance:FaC Tryd.prog 25 1 1:=faM U25 (SzC.h (t:=23)) rfl rfl
instance:FaC Tryd.prog 30 0 0:=faM U30 (SzC.h (t:=28)) rfl rfl
instance:FaC Tryd.prog 32 0 0:=faM U32 (SzC.h (t:=25)) rfl rfl
instance:FaC Tryd.prog 32 1 2:=faM U32 (SzC.h (t:=26)) rfl rfl
instance:FaC Tryd.prog 32 2 3:=faM U32 (SzC.h (t:=27)) rfl rfl
instance:FaC Tryd.prog 32 3 4:=faM U32 (SzC.h (t:=30)) rfl rfl
instance:FaC Tryd.prog 36 0 0:=faM U36 (SzC.h (t:=3)) rfl rfl
instance:FaC Tryd.prog 36 1 1:=faM U36 (SzC.h (t:=3)) rfl rfl
instance:FaC Tryd.prog 41 0 0:=faM U41 (SzC.h (t:=9)) rfl rfl
instance:FaC Tryd.prog 41 1 1:=faM U41 (SzC.h (t:=39)) rfl rfl
instance:FaC Tryd.prog 44 0 0:=faM U44 (SzC.h (t:=3)) rfl rfl
instance:FaC Tryd.prog 44 1 1:=faM U44 (SzC.h (t:=9)) rfl rfl
instance:FaC Tryd.prog 44 2 2:=faM U44 (SzC.h (t:=3)) rfl rfl
instance:FaC Tryd.prog 44 3 3:=faM U44 (SzC.h (t:=41)) rfl rfl
instance:FaC Tryd.prog 44 4 5:=faM U44 (SzC.h (t:=42)) rfl rfl
instance:FaC Tryd.prog 46 0 0:=faM U46 (SzC.h (t:=9)) rfl rfl
instance:FaC Tryd.prog 46 1 1:=faM U46 (SzC.h (t:=30)) rfl rfl
instance:FaC Tryd.prog 46 2 2:=faM U46 (SzC.h (t:=3)) rfl rfl
instance:FaC Tryd.prog 46 3 3:=faM U46 (SzC.h (t:=44)) rfl rfl
instance:FaC Tryd.prog 49 0 0:=faM U49 (SzC.h (t:=9)) rfl rfl
instance:FaC Tryd.prog 49 1 1:=faM U49 (SzC.h (t:=30)) rfl rfl
instance:FaC Tryd.prog 49 2 2:=faM U49 (SzC.h (t:=3)) rfl rfl
instance:FaC Tryd.prog 49 3 3:=faM U49 (SzC.h (t:=3)) rfl rfl
instance:FaC Tryd.prog 49 4 4:=faM U49 (SzC.h (t:=44)) rfl rfl
instance:FaC Tryd.prog 56 0 0:=faM U56 (SzC.h (t:=3)) rfl rfl
instance:FaC Tryd.prog 56 1 1:=faM U56 (SzC.h (t:=3)) rfl rfl
instance:FaC Tryd.prog 56 2 2:=faM U56 (SzC.h (t:=54)) rfl rfl
instance:FaC Tryd.prog 72 0 0:=faM U72 (SzC.h (t:=9)) rfl rfl
instance:FaC Tryd.prog 72 1 1:=faM U72 (SzC.h (t:=3)) rfl rfl
instance:FaC Tryd.prog 72 2 2:=faM U72 (SzC.h (t:=3)) rfl rfl
instance:FaC Tryd.prog 86 0 0:=faM U86 (SzC.h (t:=84)) rfl rfl
instance:FaC Tryd.prog 86 1 1:=faM U86 (SzC.h (t:=84)) rfl rfl
instance:FaC Tryd.prog 93 0 0:=faM U93 (SzC.h (t:=3)) rfl rfl
instance:FaC Tryd.prog 93 1 1:=faM U93 (SzC.h (t:=91)) rfl rfl
instance:FaC Tryd.prog 95 0 0:=faM U95 (SzC.h (t:=3)) rfl rfl
instance:FaC Tryd.prog 95 1 1:=faM U95 (SzC.h (t:=3)) rfl rfl
instance:FaC Tryd.prog 110 0 0:=faM WX (SzC.h (t:=9)) rfl rfl
instance:FaC Tryd.prog 110 1 1:=faM WX (SzC.h (t:=70)) rfl rfl
instance:FaC Tryd.prog 125 0 0:=faM Bq (SzC.h (t:=86)) rfl rfl
instance:FaC Tryd.prog 125 1 2:=faM Bq (SzC.h (t:=70)) rfl rfl
instance:FaC Tryd.prog 125 2 3:=faM Bq (SzC.h (t:=70)) rfl rfl
instance:FaC Tryd.prog 125 3 4:=faM Bq (SzC.h (t:=123)) rfl rfl
instance:FaC Tryd.prog 160 0 0:=faM Nk (SzC.h (t:=5)) rfl rfl
instance:FaC Tryd.prog 160 1 1:=faM Nk (SzC.h (t:=5)) rfl rfl
theorem gdA {b:Bool} {p q:Prop} (h:p) (e:b=true:=by rfl):(b=true→p)∧(b=false→q):=⟨fun _=>h,fun k=>by rw [e] at k;cases k⟩
section held
variable {P:Program} {Q:Exit→Act→World→Prop} {n:Nat} {f:Fr} {w:World} {l:List Oper} {X ds is:List Nat} {op:Op} {ty t:TypeId} {pos:String} {af:Array Edge} {v:Value} {x:Operand} {d:Tmp} {i:Nat}
theorem hlv (ho:l[i]? =some ⟨some d,op,ty,pos,af,none⟩) (h:∀ w',Same X w w'→RV P n f w' ⟨some d,op,ty,pos,af,none⟩ v w') (K:HL P l Q X (i :: ds) is n (upd f d v) w):HL P l Q X ds (i :: is) n f w:=
  h_yi ho (.inl ⟨by simp [Region.wanted],fun w' hs=>by rw [jk];exact M4 (h w' hs)⟩) K
def UpB (b:Nat) (w w':World):Prop:=∀ c,w.heap[b]? =some c→w'.heap[b]? =some c
theorem UpB.rf {b:Nat}:UpB b w w:=fun _ h=>h
theorem UpB.fX {b:Nat} {w' w2:World} (hs:Same X w w') (hX:b ∉ X) (h:UpB b w' w2):UpB b w w2:=fun c hc=>by
  have hl:b < w.heap.size:=by
    refine Classical.byContradiction (fun hn=>?_);rw [Array.getElem?_eq_none om] at hc;cases hc
  exact h c ((hs.blk b hl hX).trans hc)
theorem UpB.f0 {b:Nat} {w' w2:World} (hs:Same [] w w') (h:UpB b w' w2):UpB b w w2:=UpB.fX hs List.not_mem_nil h
theorem UpB.blk {w0:World} {b:Nat} {tb:TypeId} {cs:Array Value} (h:Blk w0 b tb cs) (u:UpB b w0 w):Blk w b tb cs:=u _ h
def UpN (n:Nat) (w w':World):Prop:=∀ w0:World,w0.heap.size=n→Bel w0 w→Bel w0 w'
theorem UpN.rf {n:Nat}:UpN n w w:=fun _ _ h=>h
theorem UpN.f0 {n:Nat} {w' w2:World} (hs:Same [] w w') (h:UpN n w' w2):UpN n w w2:=fun w0 e h0=>h w0 e (h0.tr0 hs)
theorem UpN.f1 {n b:Nat} {w' w2:World} (hs:Same [b] w w') (hb:n≤b) (h:UpN n w' w2):UpN n w w2:=fun w0 e h0=>h w0 e (h0.tr1 hs (by rw [e];exact hb))
theorem Bel.fw {w0 w':World} (h:Bel w0 w) (u:UpN w0.heap.size w w'):Bel w0 w':=u w0 rfl h
theorem Bel.rng {w0:World} {b o:Nat} {xs:List Value} (hc:w0.rangeAt b o xs) (hb:b < w0.heap.size) (h:Bel w0 w):w.rangeAt b o xs:=h.range hb hc
end held
variable {P:Program} {Q:Exit→Act→World→Prop} {n:Nat} {f:Fr} {w:World} {ops:Array Oper} {rest:List Oper} {d:Nat} {dst:Option Tmp} {gd:Option (Nat×Bool)} {ty t:TypeId} {pos:String} {af:Array Edge} {x y z:Operand}
theorem r_mvI {a1:_} {b1:_} (h:ev n f x= .int a1 b1):RV P n f w ⟨dst,.move x,ty,pos,af,gd⟩ (.int a1 b1) w:=x5 h
theorem r_asI {a1:_} {b1:_} (h:ev n f x= .int a1 b1):RV P n f w ⟨dst,.assign x,ty,pos,af,gd⟩ (.int a1 b1) w:=kQ h
theorem r_ptI {a1:_} {b1:_} (hc:ev n f x= .bool true) (h:ev n f y= .int a1 b1):RV P n f w ⟨dst,.pick x y z,ty,pos,af,gd⟩ (.int a1 b1) w:=SV hc h
theorem r_pfI {a1:_} {b1:_} (hc:ev n f x= .bool false) (h:ev n f z= .int a1 b1):RV P n f w ⟨dst,.pick x y z,ty,pos,af,gd⟩ (.int a1 b1) w:=SW hc h
theorem r_mvB {a1:_} (h:ev n f x= .bool a1):RV P n f w ⟨dst,.move x,ty,pos,af,gd⟩ (.bool a1) w:=x5 h
theorem r_asB {a1:_} (h:ev n f x= .bool a1):RV P n f w ⟨dst,.assign x,ty,pos,af,gd⟩ (.bool a1) w:=kQ h
theorem r_ptB {a1:_} (hc:ev n f x= .bool true) (h:ev n f y= .bool a1):RV P n f w ⟨dst,.pick x y z,ty,pos,af,gd⟩ (.bool a1) w:=SV hc h
theorem r_pfB {a1:_} (hc:ev n f x= .bool false) (h:ev n f z= .bool a1):RV P n f w ⟨dst,.pick x y z,ty,pos,af,gd⟩ (.bool a1) w:=SW hc h
theorem r_mvS {a1:_} {b1:_} {c1:_} (h:ev n f x= .slice a1 b1 c1):RV P n f w ⟨dst,.move x,ty,pos,af,gd⟩ (.slice a1 b1 c1) w:=x5 h
theorem r_asS {a1:_} {b1:_} {c1:_} (h:ev n f x= .slice a1 b1 c1):RV P n f w ⟨dst,.assign x,ty,pos,af,gd⟩ (.slice a1 b1 c1) w:=kQ h
theorem r_ptS {a1:_} {b1:_} {c1:_} (hc:ev n f x= .bool true) (h:ev n f y= .slice a1 b1 c1):RV P n f w ⟨dst,.pick x y z,ty,pos,af,gd⟩ (.slice a1 b1 c1) w:=SV hc h
theorem r_pfS {a1:_} {b1:_} {c1:_} (hc:ev n f x= .bool false) (h:ev n f z= .slice a1 b1 c1):RV P n f w ⟨dst,.pick x y z,ty,pos,af,gd⟩ (.slice a1 b1 c1) w:=SW hc h
theorem r_mvT {a1:_} (h:ev n f x= .string a1):RV P n f w ⟨dst,.move x,ty,pos,af,gd⟩ (.string a1) w:=x5 h
theorem r_asT {a1:_} (h:ev n f x= .string a1):RV P n f w ⟨dst,.assign x,ty,pos,af,gd⟩ (.string a1) w:=kQ h
theorem r_ptT {a1:_} (hc:ev n f x= .bool true) (h:ev n f y= .string a1):RV P n f w ⟨dst,.pick x y z,ty,pos,af,gd⟩ (.string a1) w:=SV hc h
theorem r_pfT {a1:_} (hc:ev n f x= .bool false) (h:ev n f z= .string a1):RV P n f w ⟨dst,.pick x y z,ty,pos,af,gd⟩ (.string a1) w:=SW hc h
theorem r_mvF {a1:_} {b1:_} {c1:_} (h:ev n f x= .func a1 b1 c1):RV P n f w ⟨dst,.move x,ty,pos,af,gd⟩ (.func a1 b1 c1) w:=x5 h
theorem r_asF {a1:_} {b1:_} {c1:_} (h:ev n f x= .func a1 b1 c1):RV P n f w ⟨dst,.assign x,ty,pos,af,gd⟩ (.func a1 b1 c1) w:=kQ h
theorem r_ptF {a1:_} {b1:_} {c1:_} (hc:ev n f x= .bool true) (h:ev n f y= .func a1 b1 c1):RV P n f w ⟨dst,.pick x y z,ty,pos,af,gd⟩ (.func a1 b1 c1) w:=SV hc h
theorem r_pfF {a1:_} {b1:_} {c1:_} (hc:ev n f x= .bool false) (h:ev n f z= .func a1 b1 c1):RV P n f w ⟨dst,.pick x y z,ty,pos,af,gd⟩ (.func a1 b1 c1) w:=SW hc h
theorem r_mvU {a1:_} (h:ev n f x= .tuple a1):RV P n f w ⟨dst,.move x,ty,pos,af,gd⟩ (.tuple a1) w:=x5 h
theorem r_asU {a1:_} (h:ev n f x= .tuple a1):RV P n f w ⟨dst,.assign x,ty,pos,af,gd⟩ (.tuple a1) w:=kQ h
theorem r_ptU {a1:_} (hc:ev n f x= .bool true) (h:ev n f y= .tuple a1):RV P n f w ⟨dst,.pick x y z,ty,pos,af,gd⟩ (.tuple a1) w:=SV hc h
theorem r_pfU {a1:_} (hc:ev n f x= .bool false) (h:ev n f z= .tuple a1):RV P n f w ⟨dst,.pick x y z,ty,pos,af,gd⟩ (.tuple a1) w:=SW hc h
theorem r_mvG {a1:_} (h:ev n f x= .agg a1):RV P n f w ⟨dst,.move x,ty,pos,af,gd⟩ (.agg a1) w:=x5 h
theorem r_asG {a1:_} (h:ev n f x= .agg a1):RV P n f w ⟨dst,.assign x,ty,pos,af,gd⟩ (.agg a1) w:=kQ h
theorem r_ptG {a1:_} (hc:ev n f x= .bool true) (h:ev n f y= .agg a1):RV P n f w ⟨dst,.pick x y z,ty,pos,af,gd⟩ (.agg a1) w:=SV hc h
theorem r_pfG {a1:_} (hc:ev n f x= .bool false) (h:ev n f z= .agg a1):RV P n f w ⟨dst,.pick x y z,ty,pos,af,gd⟩ (.agg a1) w:=SW hc h
theorem r_ldC {b o:Nat} {dd:TypeDesc} {tb:TypeId} {cs:Array Value} {v:Value} [hu:UndC P t dd] (hd:dd.isRow=false) (hx:ev n f x= .pointer (some ⟨b,o,none⟩)) (hb:Blk w b tb cs) (hc:cs[o]? =some v):RV P n f w ⟨dst,.load t x,ty,pos,af,gd⟩ v w:=qK hu.h hd hx (hb.cell hc)
theorem r_ldD {b o:Nat} {dd:TypeDesc} {cs:List Value} [hu:UndC P t dd] (hd:dd.isRow=true) (hx:ev n f x= .pointer (some ⟨b,o,none⟩)) (hc:w.rangeAt b o cs) (hi:(P.info? t).map (·.size)=some cs.length):RV P n f w ⟨dst,.load t x,ty,pos,af,gd⟩ (.agg cs.toArray) w:=qW hu.h hd hx hc hi
theorem r_faC {b o o' i off:Nat} [hu:FaC P t i off] (hx:ev n f x= .pointer (some ⟨b,o,none⟩)) (ho:o + off=o'):RV P n f w ⟨dst,.fieldAddr t x i,ty,pos,af,gd⟩ (.pointer (some ⟨b,o',none⟩)) w:=by
  obtain⟨fs,ft,sz,h1,h2,h3,h4⟩:=hu.h;exact o7 h1 h2 (by simpa using h3) h4 hx ho
theorem r_lnC {A:Option Addr} {m c:Nat} {e:TypeId} [hu:UndC P t (.slice e)] (hx:ev n f x= .slice A m c):RV P n f w ⟨dst,.call { callee:= .builtin .len,args:=#[x],argTypes:=#[t] },ty,pos,af,gd⟩ (.int .i64 (m:Int)) w:=MW hu.h hx
theorem r_lsC {p:ByteArray} [hu:UndC P t .string] (hx:ev n f x= .string p):RV P n f w ⟨dst,.call { callee:= .builtin .len,args:=#[x],argTypes:=#[t] },ty,pos,af,gd⟩ (.int .i64 (p.size:Int)) w:=r_lenS hu.h hx
theorem r_iaC {b o o' m c i sz:Nat} {e:TypeId} [hu:UndC P t (.slice e)] [hs:SzC P e sz] (hx:ev n f x= .slice (some ⟨b,o,none⟩) m c) (hy:ev n f y= .int .i64 (i:Int)) (ho:o + i * sz=o') (hi:i < m):RV P n f w ⟨dst,.indexAddr t x y,ty,pos,af,gd⟩ (.pointer (some ⟨b,o',none⟩)) w:=yJ hu.h hs.h hx hy hi ho
theorem rvA {o:Oper} {v:Value} {w2:World} (h:RV P n f w o v w2:=by first | (apply r_mvI;exact rfl) | (apply r_mvB;exact rfl) | (apply r_asI;exact rfl) | (apply r_asB;exact rfl) | (apply r_ldC;exact rfl;exact rfl;(first | assumption | (apply UpB.blk;assumption;focus repeat (first | exact UpB.rf | (apply UpB.f0;assumption) | (apply UpB.fX;assumption;(simp only [List.mem_cons,List.not_mem_nil,or_false,not_or];omega)))));exact rfl) | (apply r_faC;exact rfl;exact rfl) | (apply r_mvS;exact rfl) | (apply r_mvT;exact rfl) | (apply r_ptB;exact rfl;exact rfl) | (apply r_pfB;exact rfl;exact rfl) | (apply Xz;exact rfl;exact rfl) | (apply r_eql;exact rfl;exact rfl) | (apply r_lnC;exact rfl) | (apply r_ldD;exact rfl;exact rfl;(first | (apply Blk.range0;(first | assumption | (apply UpB.blk;assumption;focus repeat (first | exact UpB.rf | (apply UpB.f0;assumption) | (apply UpB.fX;assumption;(simp only [List.mem_cons,List.not_mem_nil,or_false,not_or];omega)))))) | (apply Bel.rng;assumption;assumption;(first | assumption | (apply Bel.fw;assumption;focus repeat (first | exact UpN.rf | (apply UpN.f0;assumption) | (apply UpN.f1;assumption;omega))))));exact SzC.h.trans rfl) | (apply Q5;exact rfl;exact rfl;exact rfl;omega) | (apply r_iaC;exact rfl;exact rfl;exact rfl;omega) | (apply r_neq;exact rfl;exact rfl) | (apply SY;exact rfl;exact rfl) | (apply r_geq;exact rfl;exact rfl) | (apply r_leq;exact rfl;exact rfl) | (apply r_lsC;exact rfl) | (apply r_notd;exact rfl) | (apply r_not;exact rfl) | (apply r_eqlS;exact rfl;exact rfl) | (apply r_neqS;exact rfl;exact rfl) | (apply r_asS;exact rfl) | (apply r_asT;exact rfl) | (apply r_asF;exact rfl) | (apply r_asU;exact rfl) | (apply r_asG;exact rfl) | (apply r_mvF;exact rfl) | (apply r_mvU;exact rfl) | (apply r_mvG;exact rfl) | (apply r_ptI;exact rfl;exact rfl) | (apply r_ptS;exact rfl;exact rfl) | (apply r_ptT;exact rfl;exact rfl) | (apply r_ptF;exact rfl;exact rfl) | (apply r_ptU;exact rfl;exact rfl) | (apply r_ptG;exact rfl;exact rfl) | (apply r_pfI;exact rfl;exact rfl) | (apply r_pfS;exact rfl;exact rfl) | (apply r_pfT;exact rfl;exact rfl) | (apply r_pfF;exact rfl;exact rfl) | (apply r_pfU;exact rfl;exact rfl) | (apply r_pfG;exact rfl;exact rfl)):RV P n f w o v w2:=h
theorem zc {A B C:Prop} (h:B→C:=by intro k;first | exact e_S k | exact xK k | exact zW k | exact Zq k | (apply wl;(case K=>exact k);exact rvA) | (apply wlgn;(case K=>exact k);exact rfl;exact rfl;exact rfl) | (apply wlgu;(case K=>exact k);exact rfl;exact rfl) | (apply wl_gd;(case K=>exact k);exact rfl;exact rfl) | (apply xX;(case hR=>exact k);exact .inl rfl;exact rfl;exact rfl) | exact B6 k | exact e_Sr k | exact c_ret k | exact e_B k | exact c_block k | exact e_Br k | exact c_exit k | exact e_LSr k | exact e_LSx k | exact e_Sx k | exact e_Bx k | exact c_yes rfl k | exact c_no rfl k | (apply ws;(case hk=>exact k);exact rvA) | (apply wsgn;(case hk=>exact k);exact rfl;exact rfl;exact rfl) | (apply hlv;(case K=>exact k);exact rfl;(intro _ _;exact rvA)) | (apply hg;(case K=>exact k);exact rfl;exact rfl;exact rfl;(intro _ _;exact rvA)) | (apply hsk;(case K=>exact k);exact rfl;exact rfl;exact rfl) | (apply hsu;(case K=>exact k);exact rfl;exact rfl;exact rfl) | exact h_end k) (g:A→B):A→C:=fun a=>h (g a)
theorem zn1 {A B:Prop} (k:A) (h:A→B:=by exact zc (g:=fun k=>k)):B:=h k
theorem zn2 {A B:Prop} (k:A) (h:A→B:=by exact zc (g:=zc (g:=fun k=>k))):B:=h k
theorem zn3 {A B:Prop} (k:A) (h:A→B:=by exact zc (g:=zc (g:=zc (g:=fun k=>k)))):B:=h k
theorem zn4 {A B:Prop} (k:A) (h:A→B:=by exact zc (g:=zc (g:=zc (g:=zc (g:=fun k=>k))))):B:=h k
theorem zn5 {A B:Prop} (k:A) (h:A→B:=by exact zc (g:=zc (g:=zc (g:=zc (g:=zc (g:=fun k=>k)))))):B:=h k
theorem zn6 {A B:Prop} (k:A) (h:A→B:=by exact zc (g:=zc (g:=zc (g:=zc (g:=zc (g:=zc (g:=fun k=>k))))))):B:=h k
theorem zn7 {A B:Prop} (k:A) (h:A→B:=by exact zc (g:=zc (g:=zc (g:=zc (g:=zc (g:=zc (g:=zc (g:=fun k=>k)))))))):B:=h k
theorem zn8 {A B:Prop} (k:A) (h:A→B:=by exact zc (g:=zc (g:=zc (g:=zc (g:=zc (g:=zc (g:=zc (g:=zc (g:=fun k=>k))))))))):B:=h k
theorem zn9 {A B:Prop} (k:A) (h:A→B:=by exact zc (g:=zc (g:=zc (g:=zc (g:=zc (g:=zc (g:=zc (g:=zc (g:=zc (g:=fun k=>k)))))))))):B:=h k
theorem jy {A B:Prop} (k:A) (h:A→B:=by exact zc (g:=zc (g:=zc (g:=zc (g:=zc (g:=zc (g:=zc (g:=zc (g:=zc (g:=zc (g:=fun k=>k))))))))))):B:=h k
theorem gj {A B:Prop} (k:A) (h:A→B:=by exact zc (g:=zc (g:=zc (g:=zc (g:=zc (g:=zc (g:=zc (g:=zc (g:=zc (g:=zc (g:=zc (g:=fun k=>k)))))))))))):B:=h k
theorem vQ {A B:Prop} (k:A) (h:A→B:=by exact zc (g:=zc (g:=zc (g:=zc (g:=zc (g:=zc (g:=zc (g:=zc (g:=zc (g:=zc (g:=zc (g:=zc (g:=fun k=>k))))))))))))):B:=h k
theorem Zk {A B:Prop} (k:A) (h:A→B:=by exact zc (g:=zc (g:=zc (g:=zc (g:=zc (g:=zc (g:=zc (g:=zc (g:=zc (g:=zc (g:=zc (g:=zc (g:=zc (g:=fun k=>k)))))))))))))):B:=h k
theorem Yq {A B:Prop} (k:A) (h:A→B:=by exact zc (g:=zc (g:=zc (g:=zc (g:=zc (g:=zc (g:=zc (g:=zc (g:=zc (g:=zc (g:=zc (g:=zc (g:=zc (g:=zc (g:=fun k=>k))))))))))))))):B:=h k
theorem Ow {A B:Prop} (k:A) (h:A→B:=by exact zc (g:=zc (g:=zc (g:=zc (g:=zc (g:=zc (g:=zc (g:=zc (g:=zc (g:=zc (g:=zc (g:=zc (g:=zc (g:=zc (g:=zc (g:=fun k=>k)))))))))))))))):B:=h k
theorem NY {A B:Prop} (k:A) (h:A→B:=by exact zc (g:=zc (g:=zc (g:=zc (g:=zc (g:=zc (g:=zc (g:=zc (g:=zc (g:=zc (g:=zc (g:=zc (g:=zc (g:=zc (g:=zc (g:=zc (g:=fun k=>k))))))))))))))))):B:=h k
theorem Bx {A B:Prop} (k:A) (h:A→B:=by exact zc (g:=zc (g:=zc (g:=zc (g:=zc (g:=zc (g:=zc (g:=zc (g:=zc (g:=zc (g:=zc (g:=zc (g:=zc (g:=zc (g:=zc (g:=zc (g:=zc (g:=fun k=>k)))))))))))))))))):B:=h k
theorem zn18 {A B:Prop} (k:A) (h:A→B:=by exact zc (g:=zc (g:=zc (g:=zc (g:=zc (g:=zc (g:=zc (g:=zc (g:=zc (g:=zc (g:=zc (g:=zc (g:=zc (g:=zc (g:=zc (g:=zc (g:=zc (g:=zc (g:=fun k=>k))))))))))))))))))):B:=h k
theorem zn19 {A B:Prop} (k:A) (h:A→B:=by exact zc (g:=zc (g:=zc (g:=zc (g:=zc (g:=zc (g:=zc (g:=zc (g:=zc (g:=zc (g:=zc (g:=zc (g:=zc (g:=zc (g:=zc (g:=zc (g:=zc (g:=zc (g:=zc (g:=fun k=>k)))))))))))))))))))):B:=h k
theorem zn20 {A B:Prop} (k:A) (h:A→B:=by exact zc (g:=zc (g:=zc (g:=zc (g:=zc (g:=zc (g:=zc (g:=zc (g:=zc (g:=zc (g:=zc (g:=zc (g:=zc (g:=zc (g:=zc (g:=zc (g:=zc (g:=zc (g:=zc (g:=zc (g:=fun k=>k))))))))))))))))))))):B:=h k
theorem zn22 {A B:Prop} (k:A) (h:A→B:=by exact zc (g:=zc (g:=zc (g:=zc (g:=zc (g:=zc (g:=zc (g:=zc (g:=zc (g:=zc (g:=zc (g:=zc (g:=zc (g:=zc (g:=zc (g:=zc (g:=zc (g:=zc (g:=zc (g:=zc (g:=zc (g:=zc (g:=fun k=>k))))))))))))))))))))))):B:=h k
theorem zn23 {A B:Prop} (k:A) (h:A→B:=by exact zc (g:=zc (g:=zc (g:=zc (g:=zc (g:=zc (g:=zc (g:=zc (g:=zc (g:=zc (g:=zc (g:=zc (g:=zc (g:=zc (g:=zc (g:=zc (g:=zc (g:=zc (g:=zc (g:=zc (g:=zc (g:=zc (g:=zc (g:=fun k=>k)))))))))))))))))))))))):B:=h k
theorem zn26 {A B:Prop} (k:A) (h:A→B:=by exact zc (g:=zc (g:=zc (g:=zc (g:=zc (g:=zc (g:=zc (g:=zc (g:=zc (g:=zc (g:=zc (g:=zc (g:=zc (g:=zc (g:=zc (g:=zc (g:=zc (g:=zc (g:=zc (g:=zc (g:=zc (g:=zc (g:=zc (g:=zc (g:=zc (g:=zc (g:=fun k=>k))))))))))))))))))))))))))):B:=h k
theorem zn29 {A B:Prop} (k:A) (h:A→B:=by exact zc (g:=zc (g:=zc (g:=zc (g:=zc (g:=zc (g:=zc (g:=zc (g:=zc (g:=zc (g:=zc (g:=zc (g:=zc (g:=zc (g:=zc (g:=zc (g:=zc (g:=zc (g:=zc (g:=zc (g:=zc (g:=zc (g:=zc (g:=zc (g:=zc (g:=zc (g:=zc (g:=zc (g:=zc (g:=fun k=>k)))))))))))))))))))))))))))))):B:=h k
theorem zn30 {A B:Prop} (k:A) (h:A→B:=by exact zc (g:=zc (g:=zc (g:=zc (g:=zc (g:=zc (g:=zc (g:=zc (g:=zc (g:=zc (g:=zc (g:=zc (g:=zc (g:=zc (g:=zc (g:=zc (g:=zc (g:=zc (g:=zc (g:=zc (g:=zc (g:=zc (g:=zc (g:=zc (g:=zc (g:=zc (g:=zc (g:=zc (g:=zc (g:=zc (g:=fun k=>k))))))))))))))))))))))))))))))):B:=h k
end Go.Proofs.YtdgnllfbooklcaaDoor
namespace Go.Proofs.YtdgnllfbooklcaaDoor
open Go.RowKit
inductive Sm where
  | mk (base:ByteArray) (args:List Sm)
def Sm.base:Sm→ByteArray | .mk b _=>b
def Sm.args:Sm→List Sm | .mk _ a=>a
theorem Sm.eta (s:Sm):s= .mk s.base s.args:=by cases s;rfl
mutual
inductive SimAt (w:World):Nat→Nat→Sm→Prop
  | mk {b o:Nat} {base:ByteArray} {args:List Sm} {A:Option Addr} {c:Nat} (hb:b < w.heap.size) (h:w.rangeAt b o [.string base,.slice A (List.length args) c]) (hs:SimsIn w A args):SimAt w b o (.mk base args)
inductive SimsIn (w:World):Option Addr→List Sm→Prop
  | nil {A:Option Addr}:SimsIn w A []
  | more {b o:Nat} {args:List Sm} (hl:args.length≤vz) (hb:b < w.heap.size) (h:∀ k (hk:k < args.length),SimAt w b (o + k * 2) args[k]):SimsIn w (some ⟨b,o,none⟩) args
end
theorem SimAt.both {w w':World} (hw:Bel w w'):(∀ {b o:Nat} {s:Sm},SimAt w b o s→SimAt w' b o s)∧∀ {A:Option Addr} {l:List Sm},SimsIn w A l→SimsIn w' A l:=by
  have h1:∀ {b o:Nat} {s:Sm} (h:SimAt w b o s),SimAt w' b o s:=fun h=>
    SimAt.rec (motive_1:=fun b o s _=>SimAt w' b o s) (motive_2:=fun A l _=>SimsIn w' A l)
      (fun hb h _ ih=> .mk (nLL hb hw.size) (hw.range hb h) ih) .nil (fun hl hb _ ih=> .more hl (nLL hb hw.size) ih) h
  have h2:∀ {A:Option Addr} {l:List Sm} (h:SimsIn w A l),SimsIn w' A l:=fun h=>
    SimsIn.rec (motive_1:=fun b o s _=>SimAt w' b o s) (motive_2:=fun A l _=>SimsIn w' A l)
      (fun hb h _ ih=> .mk (nLL hb hw.size) (hw.range hb h) ih) .nil (fun hl hb _ ih=> .more hl (nLL hb hw.size) ih) h
  exact⟨h1,h2⟩
theorem SimAt.mono {w w':World} {b o:Nat} {s:Sm} (h:SimAt w b o s) (hw:Bel w w'):SimAt w' b o s:=(SimAt.both hw).1 h
theorem SimsIn.mono {w w':World} {A:Option Addr} {l:List Sm} (h:SimsIn w A l) (hw:Bel w w'):SimsIn w' A l:=(SimAt.both hw).2 h
theorem SimsIn.le {w:World} {A:Option Addr} {l:List Sm} (h:SimsIn w A l):l.length≤vz:=by
  cases h with
  | nil=>exact Nat.zero_le _
  | more hl=>exact hl
theorem SimsIn.at_ {w:World} {A:Option Addr} {l:List Sm} (h:SimsIn w A l) {k:Nat} (hk:k < l.length):∃ b o A' c,A=some ⟨b,o,none⟩∧b < w.heap.size∧w.rangeAt b (o + k * 2) [Value.string (l[k]).base,.slice A' (l[k]).args.length c]∧SimsIn w A' (l[k]).args:=by
  cases h with
  | nil=>simp at hk
  | @more b o _ _ hb h=>
    have hx:=h k hk
    generalize l[k]=s at hx
    cases hx with
    | mk _ hr hs=>exact⟨b,o,_,_,rfl,hb,hr,hs⟩
def smE:ByteArray:=⟨#[101]⟩
def smT:ByteArray:=⟨#[116]⟩
def Nq (s:Sm):Prop:=((s.base=smE∨s.base=smT)∧s.args.length=0)∨(s.base=⟨#[]⟩∧s.args.length=2)
instance (s:Sm):Decidable (Nq s):=by unfold Nq;infer_instance
mutual
def swk:Sm→Nat→Nat→Nat×Int
  | .mk b l,d,n=>if 200 < n + 1∨40 < d then (n + 1,1) else if Nq (.mk b l) then Nz l (d + 1) (n + 1) else (n + 1,5)
def Nz:List Sm→Nat→Nat→Nat×Int
  | [],_,n=>(n,0)
  | x :: r,d,n=>if (swk x d n).2=0 then Nz r d (swk x d n).1 else swk x d n
end
theorem F6 (s:Sm) (d n:Nat):swk s d n=if 200 < n + 1∨40 < d then (n + 1,1) else if Nq s then Nz s.args (d + 1) (n + 1) else (n + 1,5):=by
  cases s;rw [swk];rfl
def smF (s:Sm):Int:=(swk s 1 0).2
inductive Ts where
  | b (t:Bool)
  | f (x y:Ts)
def Ts.sm:Ts→Sm
  | .b t=> .mk (if t then smT else smE) []
  | .f x y=> .mk ⟨#[]⟩ [x.sm,y.sm]
def Ts.size:Ts→Nat
  | .b _=>1
  | .f x y=>x.size + y.size + 1
def Ts.eqb:Ts→Ts→Bool
  | .b s,.b t=>s == t
  | .f x y,.f p q=>x.eqb p && y.eqb q
  | _,_=>false
theorem Ts.eqb_iff:∀ {a b:Ts},a.eqb b=true ↔ a=b
  | .b s,.b t=>by simp [Ts.eqb]
  | .f x y,.f p q=>by simp [Ts.eqb,Ts.eqb_iff (a:=x),Ts.eqb_iff (a:=y)]
  | .b s,.f p q=>by simp [Ts.eqb]
  | .f x y,.b t=>by simp [Ts.eqb]
theorem smOk_leaf {s:Sm} (h:Nq s) (hl:s.args.length=0):∃ t,s=(Ts.b t).sm:=by
  rcases h with ⟨hb,_⟩ | ⟨_,h2⟩
  · have ha:s.args= []:=List.length_eq_zero_iff.1 hl
    rcases hb with hb | hb
    · exact⟨false,by rw [Sm.eta s,hb,ha];rfl⟩
    · exact⟨true,by rw [Sm.eta s,hb,ha];rfl⟩
  · omega
mutual
theorem F5:∀ (s:Sm) (d n:Nat),(swk s d n).2=0→∃ τ:Ts,s=τ.sm∧(swk s d n).1=n + τ.size∧n + τ.size≤200
  | .mk b l,d,n,h=>by
    rw [swk] at h ⊢
    by_cases h1:200 < n + 1∨40 < d
    · rw [if_pos h1] at h;cases h
    · rw [if_neg h1] at h ⊢
      by_cases h2:Nq (.mk b l)
      · rw [if_pos h2] at h ⊢
        obtain⟨ts,e1,e2,e3⟩:=Hx l (d + 1) (n + 1) h om
        match l,ts,e1,h2 with
        | [],ts,e1,h2=>
          obtain⟨t,ht⟩:=smOk_leaf h2 rfl
          cases ts with
          | nil=>exact⟨.b t,ht,e2,by simp [Ts.size] at e3 ⊢;omega⟩
          | cons a r=>cases e1
        | [x,y],[p,q],e1,h2=>
          simp only [List.map_cons,List.map_nil,List.cons.injEq,and_true] at e1
          rcases h2 with ⟨_,h2⟩ | ⟨h2,_⟩
          · cases h2
          · have h2:b=⟨#[]⟩:=h2
            simp only [List.map_cons,List.map_nil,List.sum_cons,List.sum_nil] at e2 e3
            refine⟨.f p q,?_,?_,?_⟩
            · rw [h2,e1.1,e1.2];rfl
            · rw [e2];show _=n + (p.size + q.size + 1);omega
            · show n + (p.size + q.size + 1)≤200;omega
        | [x],ts,_,h2=>rcases h2 with ⟨_,h2⟩ | ⟨_,h2⟩ <;> cases h2
        | x :: y :: z :: r,ts,_,h2=>rcases h2 with ⟨_,h2⟩ | ⟨_,h2⟩ <;> cases h2
      · rw [if_neg h2] at h;cases h
theorem Hx:∀ (l:List Sm) (d n:Nat),(Nz l d n).2=0→n≤200→∃ ts:List Ts,l=ts.map Ts.sm∧(Nz l d n).1=n + (ts.map Ts.size).sum∧n + (ts.map Ts.size).sum≤200
  | [],d,n,_,hn=>⟨[],rfl,by rw [Nz];rfl,hn⟩
  | x :: r,d,n,h,hn=>by
    rw [Nz] at h ⊢
    by_cases h1:(swk x d n).2=0
    · rw [if_pos h1] at h ⊢
      obtain⟨τ,e1,e2,e3⟩:=F5 x d n h1
      rw [e2] at h ⊢
      obtain⟨ts,k1,k2,k3⟩:=Hx r d (n + τ.size) h e3
      exact⟨τ :: ts,by rw [e1,k1];rfl,by rw [k2];simp;omega,by simp;omega⟩
    · rw [if_neg h1] at h;exact absurd h h1
end
theorem smF_ts {s:Sm} (h:smF s=0):∃ τ:Ts,s=τ.sm∧τ.size≤200:=by
  obtain⟨τ,e,_,e2⟩:=F5 s 1 0 h;exact⟨τ,e,by omega⟩
theorem Ts.sm_inj:∀ {a b:Ts},a.sm=b.sm→a=b
  | .b s,.b t,h=>by
    cases s <;> cases t <;> first | rfl | (exfalso;revert h;simp [Ts.sm,smE,smT])
  | .b s,.f x y,h=>by exfalso;revert h;cases s <;> simp [Ts.sm]
  | .f x y,.b t,h=>by exfalso;revert h;cases t <;> simp [Ts.sm]
  | .f x y,.f p q,h=>by
    simp only [Ts.sm,Sm.mk.injEq,List.cons.injEq,and_true,true_and] at h
    rw [Ts.sm_inj h.1,Ts.sm_inj h.2]
def Ts.txt:Ts→List UInt8
  | .b t=>if t then [116] else [101]
  | .f x y=>40 :: (x.txt ++ 32 :: (y.txt ++ [41]))
end Go.Proofs.YtdgnllfbooklcaaDoor
