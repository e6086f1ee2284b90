/- The rules of a small engine for walks: frames as functions from slots to values, one rule an operation, facts on memory that speak of the heap alone. Nothing here speaks of one program. -/
import Derived.WalkKit
import Derived.WalkSpells
import Derived.WalkLawsBesides
import Derived.Lib.Hide
import Derived.Deep.QuietTactic
import Derived.Deep.MidRow
import Derived.IntWalk
import Derived.StillTail
namespace Go.Proofs.YtndbjnkilegebaaGreatDoor
open Go.RowKit
variable {A:Option Addr}{F:FuncId}{P:Program}{S X:List Nat}{a:Bool}{args xs:List Value}{b c d i id j j0 j1 j2 k o' sz:Nat}{cells cs cs':Array Value}{dst:Option Tmp}{e tb ty:TypeId}{g:Nat->Value}{gd:Option (Nat×Bool)}{l rest:List Oper}{m:List (ByteArray×Value)}{p:Prop}{v0 v1 v2 zv:Value}{w w0:World}{x y:Code}{x0 x1 x2:Operand}
theorem ae{b:Bool}(h:Value.bool a= .bool b:=by first|exact congrArg Value.bool (decide_eq_true (by grind)).symm|exact congrArg Value.bool (decide_eq_false (by grind)).symm|exact congrArg Value.bool (decide_eq_decide.2 (by grind))|exact congrArg Value.bool (by grind)):Value.bool a= .bool b:=h
theorem ag{b:Bool}(h:a=b):Value.bool a= .bool b:=congrArg _ h
abbrev ah:=@Nat.zero_le
abbrev ai:=@Nat.le_refl
abbrev aj:=@decide_eq_true
abbrev ak:=@Decidable.not_not
abbrev am:=@decide_eq_decide
abbrev ap:=@decide_eq_false
abbrev aq:=@List.getElem_mem
abbrev ar:=@List.mem_singleton
abbrev au:=@Classical.not_not
abbrev av:=@List.mem_cons
abbrev aw:=@List.mem_cons_of_mem
abbrev ax:=@List.mem_map
abbrev ay:=@Nat.le_of_eq
abbrev az:=@List.mem_range
abbrev aA:=@Nat.le_of_ble_eq_true
abbrev aB:=@Nat.not_lt_zero
abbrev aC:=@List.getElem?_eq_some_iff
abbrev aD:=@List.mem_append
abbrev aE:=@List.mem_cons_self
abbrev aF:=@List.all_eq_true
abbrev aG:=@Nat.lt_irrefl
abbrev aH:=@Nat.lt_succ_self
abbrev aI:=@Nat.le_succ_of_le
abbrev aJ:=@Bool.and_eq_true_iff
abbrev aK:=@Classical.byContradiction
abbrev aM:=@List.length_eq_zero_iff
abbrev aN:=@List.getElem?_eq_getElem
abbrev aO:=@of_decide_eq_true
abbrev aP:=@Int.le_refl
abbrev aQ:=@Bool.false_ne_true
abbrev aR:=@List.pairwise_cons
abbrev aS:=@List.map_congr_left
abbrev aT:=@Option.map_eq_some_iff
abbrev aU:=@Nat.eq_of_beq_eq_true
abbrev aV:=@Nat.mul_le_mul_right
abbrev aW:=@Nat.or_lt_two_pow
abbrev aX:=@List.take_of_length_le
abbrev aY:=@Option.isSome_iff_exists
theorem oG(h:p:=by omega):p:=h
theorem nu{v:Value}(h:v≠undef:=by simp[undef]):v≠undef:=h
theorem nLL{a:Nat}(h:a<b)(k:b<=c):a<c:=Nat.lt_of_lt_of_le h k
theorem nLT{a:Nat}(h:a<=b)(k:b<=c):a<=c:=Nat.le_trans h k
theorem kR(h:p:=by kernel_rfl):p:=h
theorem dE(h:p:=by decide):p:=h
theorem sI{α:Type _}{a b:α}(h:some a=some b):a=b:=Option.some.inj h
abbrev Fr:=Nat->Value
def upd(f:Fr)(d:Nat)(v:Value):Fr:=fun t=>bif Nat.beq t d then v else f t
structure Nw where
 n:Nat
 ds:List Deferred
abbrev nw0(k:Nat):Nw:=⟨k,[]⟩
instance(k:Nat):OfNat Nw k:=⟨nw0 k⟩
def AF(n:Nw)(f:Fr):Act:=⟨Array.ofFn (n:=n.n) (fun i=>f i.val),n.ds⟩
def ev(n:Nw)(f:Fr):Operand->Value
 | .tmp t=>bif Nat.ble (t+1) n.n then f t else undef
 | .const v=>v
 | .global g=> .pointer (some ⟨g,0,none⟩)
 | .func g=> .func (.func g) #[] #[]
theorem IV(n:Nw)(f:Fr)(t:Nat):(AF n f).tmps[t]? =if t<n.n then some (f t)else none:=by
 simp only[AF,Array.getElem?_ofFn];split<;>rfl
theorem jZ(n:Nw)(f:Fr):(AF n f).eval=ev n f:=by
 funext x
 cases x with
 | tmp t=>
  simp only[Act.eval,ev,Array.getD_eq_getD_getElem?,IV]
  grind[Nat.ble,Nat.ble_eq]
 | const v=>rfl
 | global g=>rfl
 | func g=>rfl
theorem K0(n:Nw)(f:Fr)(d:Nat)(v:Value):(AF n f).put (some d) v=AF n (upd f d v):=by
 simp only[Act.put,AF,Act.mk.injEq,and_true]
 apply Array.ext
 ·simp
 ·intro i h1 h2
  rw[Array.getElem_setIfInBounds (by simpa using h1),Array.getElem_ofFn,Array.getElem_ofFn];by_cases h:d=i
  ·subst h;simp[upd]
  ·grind[Nat.beq,Nat.eq_of_beq_eq_true,upd]
def KK(f:Fr):Option Nat->Value->Fr
 | some d,v=>upd f d v
 | none,_=>f
theorem EK(n:Nw)(f:Fr)(d:Option Nat)(v:Value):(AF n f).put d v=AF n (KK f d v):=by
 cases d
 ·rfl
 ·exact K0 n f _ v
section
variable {P:Program} {ops:Array Oper} {Q:Exit->Act->World->Prop} {n:Nw} {f:Fr} {w w':World} {rest:List Oper} {o:Oper} {v:Value}
def WL(P:Program)(ops:Array Oper)(Q:Exit->Act->World->Prop)(l:List Oper)(n:Nw)(f:Fr)(w:World):Prop:=wpList P ops Q l (AF n f) w
def WC(P:Program)(c:Code)(Q:Exit->Act->World->Prop)(n:Nw)(f:Fr)(w:World):Prop:=c.wp P Q (AF n f) w
def QS(P:Program)(y:Code)(Q:Exit->Act->World->Prop):Exit->Act->World->Prop:=Exit.then (fun a w=>y.wp P Q a w) Q
def QB(id:Nat)(Q:Exit->Act->World->Prop):Exit->Act->World->Prop:=Exit.inBlock id Q
def QL(n:Nw)(I:Nat->Fr->World->Prop)(m:Nat)(Q:Exit->Act->World->Prop):Exit->Act->World->Prop:=
 Exit.then (fun a w=>∃ f m',m'<m/\a=AF n f/\I m' f w) Q
def QR(n:Nw)(R:Fr->World->Prop)(Q:Exit->Act->World->Prop):Exit->Act->World->Prop:=
 Exit.then (fun a w=>∃ f,a=AF n f/\R f w) Q
def EX(Q:Exit->Act->World->Prop)(e:Exit)(n:Nw)(f:Fr)(w:World):Prop:=Q e (AF n f) w
theorem qY(h:EX Q .normal n f w):WL P ops Q [] n f w:=wpList_nil h
theorem QK(h:EX Q .normal n f w):WC P .skip Q n f w:=wp_skip h
theorem c_exit(h:EX Q (.exit id) n f w):WC P (.exit id) Q n f w:=wp_exit h
theorem c_ret(h:EX Q .ret n f w):WC P .ret Q n f w:=wp_ret h
theorem e_S(h:WC P y Q n f w):EX (QS P y Q) .normal n f w:=h
theorem e_Sx(h:EX Q (.exit i) n f w):EX (QS P y Q) (.exit i) n f w:=h
theorem e_Sr(h:EX Q .ret n f w):EX (QS P y Q) .ret n f w:=h
theorem e_B(h:EX Q .normal n f w):EX (QB id Q) .normal n f w:=h
theorem e_Bx(h:EX Q .normal n f w):EX (QB id Q) (.exit id) n f w:=by
 simpa[EX,QB,Exit.inBlock]using h
theorem e_Br(h:EX Q .ret n f w):EX (QB id Q) .ret n f w:=h
theorem e_R{R:Fr->World->Prop}(h:R f w):EX (QR n R Q) .normal n f w:=⟨f,rfl,h⟩
theorem xQ(h:WC P x (QS P y Q) n f w):WC P (.seq x y) Q n f w:=wp_seq h
theorem c_block{c:Code}(h:WC P c (QB id Q) n f w):WC P (.block id c) Q n f w:=wp_block h
theorem c_cut(R:Fr->World->Prop)(h:WC P x (QR n R Q) n f w)(hy:∀ f w,R f w->EX Q .normal n f w):WC P x Q n f w:=
 wp_mono h (fun e a w q=>by
  cases e with
  | normal=>obtain⟨f,rfl,hr⟩:=q;exact hy f w hr
  | _=>exact q)
theorem jv{c:Operand}{b:Bool}(hc:ev n f c= .bool b)(h1:b=true->WC P x Q n f w)(h2:b=false->WC P y Q n f w):WC P (.cond c x y) Q n f w:=
 wp_cond_split (t:=b) (by rw[jZ];exact hc) h1 h2
theorem zZ{c:Operand}{dp:Decidable p}(hc:ev n f c= .bool (@decide p dp))(h1:p->WC P x Q n f w)(h2:¬p->WC P y Q n f w):WC P (.cond c x y) Q n f w:=
 jv hc (fun h=>h1 (of_decide_eq_true h)) (fun h=>h2 (of_decide_eq_false h))
theorem c_yes{c:Operand}(hc:ev n f c= .bool true)(h1:WC P x Q n f w):WC P (.cond c x y) Q n f w:=
 jv hc (fun _=>h1) (fun h=>by cases h)
theorem c_no{c:Operand}(hc:ev n f c= .bool false)(h2:WC P y Q n f w):WC P (.cond c x y) Q n f w:=
 jv hc (fun h=>by cases h) (fun _=>h2)
theorem c_loop{c:Code}(I:Nat->Fr->World->Prop)(m:Nat)(h0:I m f w)(h:∀ m f w,I m f w->WC P c (QL n I m Q) n f w):WC P (.loop c) Q n f w:=by
 intro b k cs;have key:∀ m f w,I m f w->
   ∃ e a' w',Q e a' w'/\Arrives P (lone (b.at (AF n f) (.code c:: .inLoop c::k)) cs w) b k cs e a' w':=by
  intro m
  induction m using Nat.strongRecOn with
  | _ m ih=>
   intro f w hI;obtain⟨e,a₁,w₁,hq,a1⟩:=h m f w hI b (.inLoop c::k) cs;cases e with
   | normal=>
    obtain⟨f₁,m₁,hlt,rfl,hI₁⟩:=hq;obtain⟨e₂,a₂,w₂,hq₂,a2⟩:=ih m₁ hlt f₁ w₁ hI₁;exact⟨e₂,a₂,w₂,hq₂,.of_steps (Steps.trans a1 (.one step_inLoop)) a2⟩
   | exit id=>exact⟨_,a₁,w₁,hq,.pass (x:= .inLoop c) rfl (fun _ _=> .inl (by simp)) a1⟩
   | goto l=>exact⟨_,a₁,w₁,hq,.pass (x:= .inLoop c) rfl (fun _ _=> .inl (by simp)) a1⟩
   | ret=>exact⟨_,a₁,w₁,hq,.pass (x:= .inLoop c) rfl (fun _ _=> .inl (by simp)) a1⟩
   | panic ch=>exact⟨_,a₁,w₁,hq,.pass (x:= .inLoop c) rfl (fun _ _=> .inl (by simp)) a1⟩
   | outgrown=>exact⟨_,a₁,w₁,hq,.pass (x:= .inLoop c) rfl (fun _ _=> .inl (by simp)) a1⟩
 obtain⟨e,a',w',hq,a1⟩:=key m f w h0;exact⟨e,a',w',hq,.of_steps (.one step_loop) a1⟩
theorem Qq(h:WL P l.toArray Q l n f w):WC P (.region id l.toArray false) Q n f w:=wp_region_lit h
def RV(P:Program)(n:Nw)(f:Fr)(w:World)(o:Oper)(v:Value)(w':World):Prop:=(execOp (ev n f) o).run P w= .ok (.value v) w'
def RS(P:Program)(n:Nw)(f:Fr)(w:World)(o:Oper)(w':World):Prop:=(execOp (ev n f) o).run P w= .ok .skip w'
variable {d:Nat} {op:Op} {ty:TypeId} {pos:String} {af:Array Edge}
theorem wl(h:RV P n f w ⟨some d,op,ty,pos,af,none⟩ v w')(K:WL P ops Q rest n (upd f d v) w'):WL P ops Q (⟨some d,op,ty,pos,af,none⟩::rest) n f w:=by
 refine wpList_plain rfl fun K' hK=>?_
 unfold Oper.wp;rw[jZ];unfold RV at h;rw[h,Oper.upon_value];exact hK _ _ (by rw[K0];exact K)
theorem wls(h:RS P n f w ⟨none,op,ty,pos,af,none⟩ w')(K:WL P ops Q rest n f w'):WL P ops Q (⟨none,op,ty,pos,af,none⟩::rest) n f w:=by
 refine wpList_plain rfl fun K' hK=>?_
 unfold Oper.wp;rw[jZ];unfold RS at h;rw[h,Oper.upon_skip];exact hK _ _ K
theorem Y3(ops:Array Oper)(n:Nw)(f:Fr)(j t:Nat)(b:Bool)(hj:(ops[j]?).bind (·.dst)=some t)(hv:ev n f (.tmp t)= .bool b):yielded ops (AF n f).tmps j=some b:=by
 unfold yielded;rw[hj,Option.bind_some,IV];by_cases h:t<n.n
 ·have h':Nat.ble (t+1) n.n=true:=by rw[Nat.ble_eq];exact h
  simp only[ev,h',cond_true]at hv;simp[h,hv]
 ·have h':Nat.ble (t+1) n.n=false:=by
   grind[Nat.ble,Nat.ble_eq]
  simp only[ev,h',cond_false]at hv;exact absurd hv (by simp[undef])
theorem wlgn(t:Nat){b b':Bool}(hj:(ops[j]?).bind (·.dst)=some t)(hv:ev n f (.tmp t)= .bool b')(hne:(b'==b)=false)(K:WL P ops Q rest n (upd f d undef) w):
  WL P ops Q (⟨some d,op,ty,pos,af,some (j,b)⟩::rest) n f w:=by
 refine wpList_step fun K' hK=>?_
 have hy:=Y3 ops n f j t b' hj hv;have hw:Region.wanted ⟨some d,op,ty,pos,af,some (j,b)⟩ (yielded ops (AF n f).tmps)=false:=by
  simp only[Region.wanted,hy];exact hne
 rw[if_neg (by rw[hw];simp),K0];exact hK _ _ K
theorem T8(ops:Array Oper)(n:Nw)(f:Fr)(j t:Nat)(hj:(ops[j]?).bind (·.dst)=some t)(hv:ev n f (.tmp t)=undef):yielded ops (AF n f).tmps j=none:=by
 unfold yielded;rw[hj,Option.bind_some,IV];by_cases h:t<n.n
 ·have h':Nat.ble (t+1) n.n=true:=by rw[Nat.ble_eq];exact h
  simp only[ev,h',cond_true]at hv;simp[h,hv,undef]
 ·simp[h]
theorem wlgu(t:Nat){b:Bool}(hj:(ops[j]?).bind (·.dst)=some t)(hv:ev n f (.tmp t)=undef)(K:WL P ops Q rest n (upd f d undef) w):
  WL P ops Q (⟨some d,op,ty,pos,af,some (j,b)⟩::rest) n f w:=by
 refine wpList_step fun K' hK=>?_
 have hy:=T8 ops n f j t hj hv;have hw:Region.wanted ⟨some d,op,ty,pos,af,some (j,b)⟩ (yielded ops (AF n f).tmps)=false:=by
  simp[Region.wanted,hy]
 rw[if_neg (by rw[hw];simp),K0];exact hK _ _ K
theorem o7{t:Nat}(h:f t=v):upd f t v=f:=by
 grind[upd,Nat.beq,Nat.eq_of_beq_eq_true]
theorem K6{t:Nat}(h:ev n f (.tmp t)=v)(hv:v≠undef):f t=v:=by
 simp only[ev]at h
 grind
theorem uv(t:Nat){b:Bool}(hv:ev n f (.tmp t)= .bool b)(h1:b=true->WL P ops Q l n (upd f t (.bool true)) w)(h2:b=false->WL P ops Q l n (upd f t (.bool false)) w):WL P ops Q l n f w:=by
 have hf:=K6 hv (by simp[undef]);cases b
 ·have:=h2 rfl;rwa[o7 hf]at this
 ·have:=h1 rfl;rwa[o7 hf]at this
theorem zk(t:Nat){dp:Decidable p}(hv:ev n f (.tmp t)= .bool (@decide p dp))(h1:p->WL P ops Q l n (upd f t (.bool true)) w)(h2:¬p->WL P ops Q l n (upd f t (.bool false)) w):WL P ops Q l n f w:=
 uv t hv (fun h=>h1 (of_decide_eq_true h)) (fun h=>h2 (of_decide_eq_false h))
def rg(a:List Nat)(s n:Nat):List Nat:=a++List.range' s n
def mem(S:List Nat)(t:Nat):Bool:=match S with|[]=>false|s::r=>bif Nat.beq t s then true else mem r t
def ovr(S:List Nat)(g f:Fr):Fr:=fun t=>bif mem S t then g t else f t
def Ag(S:List Nat)(f' f:Fr):Prop:=∀ t,mem S t=false->f' t=f t
theorem Ok:Ag S f f:=fun _ _=>rfl
theorem L4{f':Fr}{d:Nat}{v:Value}(hd:mem S d=true)(h:Ag S f' f):Ag S (upd f' d v) f:=by
 intro t ht;simp only[upd];cases hb:Nat.beq t d
 ·exact h t ht
 ·have:t=d:=Nat.eq_of_beq_eq_true hb
  grind
theorem T4{f':Fr}(h:Ag S f' f):f'=ovr S f' f:=by
 funext t
 simp only[ovr];cases hb:mem S t
 ·exact h t hb
 ·rfl
theorem xj(S:List Nat)(t:Nat)(v:Value)(hv:v≠undef)(h:WC P x (QR n (fun f' w'=>w'=w/\Ag S f' f/\ev n f' (.tmp t)=v) Q) n f w)
  (hy:∀ g,EX Q .normal n (upd (ovr S g f) t v) w):WC P x Q n f w:=
 c_cut _ h (fun f' w' ⟨hw,ha,ht⟩=>by
  subst hw
  have e:=hy f'
  rw[<- T4 ha,o7 (K6 ht hv)]at e
  exact e)
section pure
variable {dst:Option Tmp} {gd:Option (Nat×Bool)} {x y z:Operand} {k:IntKind} {a b:Int} {t t':TypeId} {w:World}
theorem x6(h:ev n f x=v):RV P n f w ⟨dst,.move x,ty,pos,af,gd⟩ v w:=by simp[RV,execOp,h]
theorem oz(h:ev n f x=v):RV P n f w ⟨dst,.assign x,ty,pos,af,gd⟩ v w:=by simp[RV,execOp,h]
theorem wmI{a1:_}{b1:_}(h:ev n f x= .int a1 b1)(K:WL P ops Q rest n (upd f d (.int a1 b1)) w):WL P ops Q (⟨some d,.move x,ty,pos,af,none⟩::rest) n f w:=wl (x6 h) K
theorem wmS{a1:_}{b1:_}{c1:_}(h:ev n f x= .slice a1 b1 c1)(K:WL P ops Q rest n (upd f d (.slice a1 b1 c1)) w):WL P ops Q (⟨some d,.move x,ty,pos,af,none⟩::rest) n f w:=wl (x6 h) K
theorem wmT{a1:_}(h:ev n f x= .tuple a1)(K:WL P ops Q rest n (upd f d (.tuple a1)) w):WL P ops Q (⟨some d,.move x,ty,pos,af,none⟩::rest) n f w:=wl (x6 h) K
theorem waI{a1:_}{b1:_}(h:ev n f x= .int a1 b1)(K:WL P ops Q rest n (upd f d (.int a1 b1)) w):WL P ops Q (⟨some d,.assign x,ty,pos,af,none⟩::rest) n f w:=wl (oz h) K
theorem r_pt(hc:ev n f x= .bool true)(h:ev n f y=v):RV P n f w ⟨dst,.pick x y z,ty,pos,af,gd⟩ v w:=by simp[RV,execOp,hc,h,asBool]
theorem r_pf(hc:ev n f x= .bool false)(h:ev n f z=v):RV P n f w ⟨dst,.pick x y z,ty,pos,af,gd⟩ v w:=by simp[RV,execOp,hc,h,asBool]
theorem r_not{p:Bool}(h:ev n f x= .bool p):RV P n f w ⟨dst,.unOp .not t x,ty,pos,af,gd⟩ (.bool (!p)) w:=by simp[RV,execOp,h,Op.unary]
theorem r_notd{dp:Decidable p}(h:ev n f x= .bool (@decide p dp)):RV P n f w ⟨dst,.unOp .not t x,ty,pos,af,gd⟩ (.bool (decide (¬p))) w:=by
 have:(!(decide p))=decide (¬p):=by simp
 simp[RV,execOp,h,Op.unary]
theorem F0{bo:BinOp}{r:Bool}(hx:ev n f x= .int k a)(hy:ev n f y= .int k b)(hr:∀ w,(Op.intCmp bo a b).run P w= .ok (.bool r) w)(hb:bo= .eql\/bo= .neq\/bo= .lss\/bo= .leq\/bo= .gtr\/bo= .geq):
  RV P n f w ⟨dst,.binOp bo t x y t',ty,pos,af,gd⟩ (.bool r) w:=by
 rcases hb with rfl|rfl|rfl|rfl|rfl|rfl<;>simp[RV,execOp,hx,hy,eqGuard,binOp,hr]
theorem r_eql(hx:ev n f x= .int k a)(hy:ev n f y= .int k b):RV P n f w ⟨dst,.binOp .eql t x y t',ty,pos,af,gd⟩ (.bool (decide (a=b))) w:=
 F0 hx hy (fun w=>by simp only[Op.intCmp,Sem.run_pure];congr 2) (by simp)
theorem BV(hx:ev n f x= .int k a)(hy:ev n f y= .int k b):RV P n f w ⟨dst,.binOp .neq t x y t',ty,pos,af,gd⟩ (.bool (decide (a≠b))) w:=
 F0 hx hy (fun w=>by simp only[Op.intCmp,Sem.run_pure,bne,ne_eq,decide_not];congr 3) (by simp)
theorem V4(hx:ev n f x= .int k a)(hy:ev n f y= .int k b):RV P n f w ⟨dst,.binOp .lss t x y t',ty,pos,af,gd⟩ (.bool (decide (a<b))) w:=
 F0 hx hy (fun w=>by simp only[Op.intCmp,Sem.run_pure]) (by simp)
theorem r_leq(hx:ev n f x= .int k a)(hy:ev n f y= .int k b):RV P n f w ⟨dst,.binOp .leq t x y t',ty,pos,af,gd⟩ (.bool (decide (a<=b))) w:=
 F0 hx hy (fun w=>by simp only[Op.intCmp,Sem.run_pure]) (by simp)
theorem r_gtr(hx:ev n f x= .int k a)(hy:ev n f y= .int k b):RV P n f w ⟨dst,.binOp .gtr t x y t',ty,pos,af,gd⟩ (.bool (decide (b<a))) w:=
 F0 hx hy (fun w=>by simp only[Op.intCmp,Sem.run_pure,gt_iff_lt]) (by simp)
theorem r_geq(hx:ev n f x= .int k a)(hy:ev n f y= .int k b):RV P n f w ⟨dst,.binOp .geq t x y t',ty,pos,af,gd⟩ (.bool (decide (b<=a))) w:=
 F0 hx hy (fun w=>by simp only[Op.intCmp,Sem.run_pure,ge_iff_le]) (by simp)
theorem r_eqlB{p q:Bool}(hu:P.underlying t=some .bool)(hx:ev n f x= .bool p)(hy:ev n f y= .bool q):RV P n f w ⟨dst,.binOp .eql t x y t',ty,pos,af,gd⟩ (.bool (p==q)) w:=by
 simp[RV,execOp,hx,hy,eqGuard,run_eql_bool,hu]
theorem WY{p q:Bool}(hu:P.underlying t=some .bool)(hx:ev n f x= .bool p)(hy:ev n f y= .bool q):RV P n f w ⟨dst,.binOp .neq t x y t',ty,pos,af,gd⟩ (.bool (!(p==q))) w:=by
 simp[RV,execOp,hx,hy,eqGuard,run_neq_bool,hu]
theorem MZ(p q:ByteArray):p.toList=q.toList↔p=q:=by
 constructor
 ·intro h
  rw[ByteArray.toList_eq,ByteArray.toList_eq]at h;exact ByteArray.ext (Array.ext' h)
 ·rintro rfl;rfl
theorem r_eqlS{p q:ByteArray}(hx:ev n f x= .string p)(hy:ev n f y= .string q):RV P n f w ⟨dst,.binOp .eql t x y t',ty,pos,af,gd⟩ (.bool (decide (p=q))) w:=by
 have:(p.toList==q.toList)=decide (p=q):=by rw[Bool.eq_iff_iff];simp[MZ]
 simp[RV,execOp,hx,hy,eqGuard,binOp,Op.stringOp,this]
theorem WW{p q:ByteArray}(hx:ev n f x= .string p)(hy:ev n f y= .string q):RV P n f w ⟨dst,.binOp .neq t x y t',ty,pos,af,gd⟩ (.bool (decide (p≠q))) w:=by
 have:(p.toList==q.toList)=decide (p=q):=by rw[Bool.eq_iff_iff];simp[MZ]
 simp[RV,execOp,hx,hy,eqGuard,binOp,Op.stringOp,this]
theorem uW{c:Int}(hx:ev n f x= .int .i64 a)(hy:ev n f y= .int .i64 b)(hc:a+b=c)(hr:-9223372036854775808<=c/\c<=9223372036854775807):
  RV P n f w ⟨dst,.binOp .add t x y t',ty,pos,af,gd⟩ (.int .i64 c) w:=by
 subst hc;simp only[RV,execOp,hx,hy,eqGuard,binOp,Op.intArith];simp[IntWalk.i64_in _ hr]
theorem jJ{c:Int}(hx:ev n f x= .int .i64 a)(hy:ev n f y= .int .i64 b)(hc:a-b=c)(hr:-9223372036854775808<=c/\c<=9223372036854775807):
  RV P n f w ⟨dst,.binOp .sub t x y t',ty,pos,af,gd⟩ (.int .i64 c) w:=by
 subst hc;simp only[RV,execOp,hx,hy,eqGuard,binOp,Op.intArith];simp[IntWalk.i64_in _ hr]
theorem r_mul{c:Int}(hx:ev n f x= .int .i64 a)(hy:ev n f y= .int .i64 b)(hc:a*b=c)(hr:-9223372036854775808<=c/\c<=9223372036854775807):
  RV P n f w ⟨dst,.binOp .mul t x y t',ty,pos,af,gd⟩ (.int .i64 c) w:=by
 subst hc;simp only[RV,execOp,hx,hy,eqGuard,binOp,Op.intArith];simp[IntWalk.i64_in _ hr]
theorem N5{a b:Nat}(hx:ev n f x= .int .u64 a)(hy:ev n f y= .int .u64 b)(ha:a<18446744073709551616)(hb:b<18446744073709551616):
  RV P n f w ⟨dst,.binOp .and t x y t',ty,pos,af,gd⟩ (.int .u64 ((a&&&b:Nat):Int)) w:=by
 have:=u64_and_nat a b ha hb;simp only[RV,execOp,hx,hy,eqGuard,binOp];simp[go_sem,this]
theorem J1{a b:Nat}(hx:ev n f x= .int .u64 a)(hy:ev n f y= .int .u64 b)(ha:a<18446744073709551616)(hb:b<18446744073709551616):
  RV P n f w ⟨dst,.binOp .or t x y t',ty,pos,af,gd⟩ (.int .u64 ((a|||b:Nat):Int)) w:=by
 have:=u64_or_nat a b ha hb;simp only[RV,execOp,hx,hy,eqGuard,binOp];simp[go_sem,this]
theorem r_shr{a b:Nat}{kb:IntKind}(hx:ev n f x= .int .u64 a)(hy:ev n f y= .int kb b)(hb:b<64)(hc:a>>>b=c):
  RV P n f w ⟨dst,.binOp .shr t x y t',ty,pos,af,gd⟩ (.int .u64 (c:Int)) w:=by
 subst hc;have h1:min b 64=b:=by omega
 have h2:(a:Int).fdiv (2^b)=((a>>>b:Nat):Int):=by
  rw[Nat.shiftRight_eq_div_pow,Int.fdiv_eq_ediv_of_nonneg _ (by exact Int.le_of_lt (Int.pow_pos (by decide)))];simp
 have h0:¬((b:Int)<0):=by omega
 simp only[RV,execOp,hx,hy,eqGuard,binOp,Op.shift,IntKind.bits,if_neg h0];simp[h1,h2]
theorem r_shl1{b:Nat}{kb:IntKind}(hx:ev n f x= .int .u64 1)(hy:ev n f y= .int kb b)(hb:b<64)(hc:2^b=c):
  RV P n f w ⟨dst,.binOp .shl t x y t',ty,pos,af,gd⟩ (.int .u64 (c:Int)) w:=by
 subst hc;have h1:min b 64=b:=by omega
 have h3:(2:Nat)^b<2^64:=Nat.pow_lt_pow_right (by decide) hb;have h2:IntKind.u64.wrap (1*2^b)=((2^b:Nat):Int):=by
  rw[IntKind.wrap_u64];have:((1:Int)*2^b)=((2^b:Nat):Int):=by simp
  rw[this]
  generalize (2:Nat)^b=c at h3
  omega
 have h0:¬((b:Int)<0):=by omega
 simp only[RV,execOp,hx,hy,eqGuard,binOp,Op.shift,IntKind.bits,if_neg h0,Int.toNat_natCast,h1,h2];simp
theorem r_negU{a:Nat}(hx:ev n f x= .int .u64 (a:Int))(h0:0<a)(ha:a<18446744073709551616)(hc:18446744073709551616-a=c):
  RV P n f w ⟨dst,.unOp .neg t x,ty,pos,af,gd⟩ (.int .u64 (c:Int)) w:=by
 have h2:IntKind.u64.wrap (0-(a:Int))=(c:Int):=by rw[IntKind.wrap_u64];omega
 simp only[RV,execOp,hx,Op.unary,Op.intArith,h2];rfl
theorem r_mulU{a b:Nat}(hx:ev n f x= .int .u64 (a:Int))(hy:ev n f y= .int .u64 (b:Int))(hc:a*b%18446744073709551616=c):
  RV P n f w ⟨dst,.binOp .mul t x y t',ty,pos,af,gd⟩ (.int .u64 (c:Int)) w:=by
 subst hc;have h2:IntKind.u64.wrap ((a:Int)*(b:Int))=((a*b%18446744073709551616:Nat):Int):=by rw[IntKind.wrap_u64];omega
 simp only[RV,execOp,hx,hy,eqGuard,binOp,Op.intArith,h2];simp
theorem BW{b o m:Nat}{kk:IntKind}(hu:P.underlying t=some (.array m e))(hs:(P.info? e).map (·.size)=some sz)(hx:ev n f x= .pointer (some ⟨b,o,none⟩))(hy:ev n f y= .int kk (i:Int))(hi:i<m)(ho:o+i*sz=o'):
  RV P n f w ⟨dst,.indexAddr t x y,ty,pos,af,gd⟩ (.pointer (some ⟨b,o',none⟩)) w:=by
 subst ho;cases hq:P.info? e with
 | none=>simp[hq]at hs
 | some inf=>
  have hz:inf.size=sz:=by simpa[hq]using hs
  have ha:(⟨b,o,none⟩:Addr).add (i*sz)=⟨b,o+i*sz,none⟩:=Addr.add_mid b o _;simp[RV,execOp,hx,hy,Instr.indexAt,asIntOf,run_underlying hu,hi,sizeOf,typeInfo,hq,hz,ha,Instr.sureAddr]
theorem S5{k':IntKind}{dd:TypeDesc}(hs:P.underlying t=some dd)(hd:P.underlying t'=some (.int .i64))(hx:ev n f x= .int k' a)(ha:-9223372036854775808<=a/\a<=9223372036854775807):
  RV P n f w ⟨dst,.convert t t' x,ty,pos,af,gd⟩ (.int .i64 a) w:=by
 have:=IntWalk.i64_in a ha;simp[RV,execOp,hx,convert,run_underlying hs,run_underlying hd,Conv.intToInt,this]
theorem D4{m:Nat}(hu:P.underlying t=some (.slice e))(hx:ev n f x= .slice A m c):
  RV P n f w ⟨dst,.call { callee:= .builtin .len,args:=#[x],argTypes:=#[t] },ty,pos,af,gd⟩ (.int .i64 (m:Int)) w:=by
 simp[RV,execOp,resolve,invoke,builtin,hx,Builtin.len_,run_underlying hu,goInt]
theorem r_lenS{p:ByteArray}(hu:P.underlying t=some .string)(hx:ev n f x= .string p):
  RV P n f w ⟨dst,.call { callee:= .builtin .len,args:=#[x],argTypes:=#[t] },ty,pos,af,gd⟩ (.int .i64 (p.size:Int)) w:=by
 simp[RV,execOp,resolve,invoke,builtin,hx,Builtin.len_,run_underlying hu,goInt]
theorem Kx{p:ByteArray}(hu:P.underlying t=some .string)(hx:ev n f x= .string p)(hy:ev n f y= .int .i64 i)(hi:i<p.size):
  RV P n f w ⟨dst,.index t x y,ty,pos,af,gd⟩ (.int .u8 ((p[i]'hi).toNat:Int)) w:=by
 simp[RV,execOp,hx,hy,Instr.index,asIntOf,run_underlying hu,hi]
theorem yW{vs:Array Value}(hx:ev n f x= .tuple vs)(hi:vs[i]? =some v):RV P n f w ⟨dst,.extract x i,ty,pos,af,gd⟩ v w:=by
 simp[RV,execOp,hx,Instr.extract,hi]
theorem Tx{parts:Array (Nat×Operand)}{vs:Array (Nat×Value)}(hp:parts.map (fun p=>(p.1,ev n f p.2))=vs)(hk:P.built t vs.toList=some cs):
  RV P n f w ⟨dst,.build t parts,ty,pos,af,gd⟩ (.agg cs) w:=by
 simp only[RV,execOp];have:=run_build w t vs cs hk;rw[<- hp]at this;simp[this]
theorem Z1(r:Value->Array Value)(h0:ev n f x0=v0)(hk:P.built t [(j0,v0)]=some (r v0)):
  RV P n f w ⟨dst,.build t #[(j0,x0)],ty,pos,af,gd⟩ (.agg (r v0)) w:=
 Tx (vs:=#[(j0,v0)]) (by simp[h0]) hk
theorem Q5(r:Value->Value->Array Value)(h0:ev n f x0=v0)(h1:ev n f x1=v1)(hk:P.built t [(j0,v0),(j1,v1)]=some (r v0 v1)):
  RV P n f w ⟨dst,.build t #[(j0,x0),(j1,x1)],ty,pos,af,gd⟩ (.agg (r v0 v1)) w:=
 Tx (vs:=#[(j0,v0),(j1,v1)]) (by simp[h0,h1]) hk
theorem Ix(r:Value->Value->Value->Array Value)(h0:ev n f x0=v0)(h1:ev n f x1=v1)(h2:ev n f x2=v2)(hk:P.built t [(j0,v0),(j1,v1),(j2,v2)]=some (r v0 v1 v2)):
  RV P n f w ⟨dst,.build t #[(j0,x0),(j1,x1),(j2,x2)],ty,pos,af,gd⟩ (.agg (r v0 v1 v2)) w:=
 Tx (vs:=#[(j0,v0),(j1,v1),(j2,v2)]) (by simp[h0,h1,h2]) hk
theorem r_bd4{x3:Operand}{j3:Nat}{v3:Value}(r:Value->Value->Value->Value->Array Value)(h0:ev n f x0=v0)(h1:ev n f x1=v1)(h2:ev n f x2=v2)(h3:ev n f x3=v3)(hk:P.built t [(j0,v0),(j1,v1),(j2,v2),(j3,v3)]=some (r v0 v1 v2 v3)):
  RV P n f w ⟨dst,.build t #[(j0,x0),(j1,x1),(j2,x2),(j3,x3)],ty,pos,af,gd⟩ (.agg (r v0 v1 v2 v3)) w:=
 Tx (vs:=#[(j0,v0),(j1,v1),(j2,v2),(j3,v3)]) (by simp[h0,h1,h2,h3]) hk
theorem F1{x3 x4:Operand}{j3 j4:Nat}{v3 v4:Value}(r:Value->Value->Value->Value->Value->Array Value)(h0:ev n f x0=v0)(h1:ev n f x1=v1)(h2:ev n f x2=v2)(h3:ev n f x3=v3)(h4:ev n f x4=v4)(hk:P.built t [(j0,v0),(j1,v1),(j2,v2),(j3,v3),(j4,v4)]=some (r v0 v1 v2 v3 v4)):
  RV P n f w ⟨dst,.build t #[(j0,x0),(j1,x1),(j2,x2),(j3,x3),(j4,x4)],ty,pos,af,gd⟩ (.agg (r v0 v1 v2 v3 v4)) w:=
 Tx (vs:=#[(j0,v0),(j1,v1),(j2,v2),(j3,v3),(j4,v4)]) (by simp[h0,h1,h2,h3,h4]) hk
theorem jX{b o ft off:Nat}{fs:Array Field}(hu:P.underlying t=some (.struct fs))(hs:(P.info? ft).map (·.size)=some sz)(hs0:sz≠0)(hf:(fs[i]?).map (fun x=>(x.type,x.offset))=some (ft,off))(hx:ev n f x= .pointer (some ⟨b,o,none⟩))(ho:o+off=o'):
  RV P n f w ⟨dst,.fieldAddr t x i,ty,pos,af,gd⟩ (.pointer (some ⟨b,o',none⟩)) w:=by
 subst ho;cases hq:fs[i]? with
 | none=>simp[hq]at hf
 | some fl=>
  simp only[hq,Option.map_some,Option.some.injEq,Prod.mk.injEq]at hf;obtain⟨rfl,rfl⟩:=hf;cases hi:P.info? fl.type with
  | none=>simp[hi]at hs
  | some inf=>
   have hz:inf.size ≠ 0 := by
    have:inf.size=sz := by simpa[hi]using hs
    omega
   have ha:(⟨b,o,none⟩:Addr).add fl.offset=⟨b,o+fl.offset,none⟩:=Addr.add_mid b o _;simp[RV,execOp,hx,Instr.fieldAt,run_underlying hu,hq,Instr.sureAddr,fieldPlace,sizeOf,typeInfo,hi,hz,ha]
theorem x7{b o m:Nat}(hu:P.underlying t=some (.slice e))(hs:(P.info? e).map (·.size)=some sz)(hx:ev n f x= .slice (some ⟨b,o,none⟩) m c)(hy:ev n f y= .int .i64 (i:Int))(hi:i<m)(ho:o+i*sz=o'):
  RV P n f w ⟨dst,.indexAddr t x y,ty,pos,af,gd⟩ (.pointer (some ⟨b,o',none⟩)) w:=by
 subst ho;cases hq:P.info? e with
 | none=>simp[hq]at hs
 | some inf=>
  have hz:inf.size=sz:=by simpa[hq]using hs
  have ha:(⟨b,o,none⟩:Addr).add (i*sz)=⟨b,o+i*sz,none⟩:=Addr.add_mid b o _;simp[RV,execOp,hx,hy,Instr.indexAt,asIntOf,run_underlying hu,hi,sizeOf,typeInfo,hq,hz,ha]
theorem qj{b o:Nat}{dd:TypeDesc}(hu:P.underlying t=some dd)(hd:dd.isRow=false)(hx:ev n f x= .pointer (some ⟨b,o,none⟩))(hc:w.cell? ⟨b,o,none⟩=some v):
  RV P n f w ⟨dst,.load t x,ty,pos,af,gd⟩ v w:=by
 have a1:(isAgg t).run P w= .ok false w:=by
  unfold isAgg;rw[Sem.run_bind,run_underlying hu w];cases dd<;>simp_all
 simp[RV,execOp,hx,Instr.loadAt,Instr.sureAddr,loadVar,a1,hc]
theorem qw{b o:Nat}{dd:TypeDesc}{cs:List Value}(hu:P.underlying t=some dd)(hd:dd.isRow=true)(hx:ev n f x= .pointer (some ⟨b,o,none⟩))(hc:w.rangeAt b o cs)(hi:(P.info? t).map (·.size)=some cs.length):
  RV P n f w ⟨dst,.load t x,ty,pos,af,gd⟩ (.agg cs.toArray) w:=by
 simp[RV,execOp,hx,run_loadAt_mid w b o t cs dd hc hu hd hi]
end pure
structure Same(X:List Nat)(w w':World):Prop where
 os:w'.os=w.os
 tape:w'.tape=w.tape
 output:w'.output=w.output
 size:w.heap.size<=w'.heap.size
 blk:∀ k,k<w.heap.size->k∉X->w'.heap[k]? =w.heap[k]?
abbrev Bel(w w':World):Prop:=Below w.heap.size w w'
theorem Same.refl(X:List Nat)(w:World):Same X w w:=⟨rfl,rfl,rfl,Nat.le_refl _,fun _ _ _=>rfl⟩
theorem Same.drew(w:World)(k:Nat):Same [] w (w.drewN k):=⟨rfl,rfl,rfl,Nat.le_refl _,fun _ _ _=>rfl⟩
theorem Same.trans{X:List Nat}{w0 w w':World}(h:Same X w0 w)(k:Same X w w'):Same X w0 w':=
 ⟨k.os.trans h.os,k.tape.trans h.tape,k.output.trans h.output,Nat.le_trans h.size k.size,fun i hi hx=>(k.blk i (Nat.lt_of_lt_of_le hi h.size) hx).trans (h.blk i hi hx)⟩
theorem Same.t{w w':World}(h:Same X w0 w)(k:Same X w w'):Same X w0 w':=h.trans k
theorem Same.weak{Y:List Nat}{w w':World}(h:Same X w w')(hs:∀ x∈X,x∈Y):Same Y w w':=
 ⟨h.os,h.tape,h.output,h.size,fun k hk hy=>h.blk k hk (fun hx=>hy (hs k hx))⟩
theorem Same.of_bel{w w':World}(h:Bel w w'):Same [] w w':=⟨h.os,h.tape,h.output,h.size,fun k hk _=>h.block k hk⟩
theorem sB{w w':World}(h:Bel w w'):Same [] w w':=Same.of_bel h
theorem Same.bel{w w':World}(h:Same [] w w'):Bel w w':=⟨h.os,h.tape,h.output,h.size,fun k hk=>h.blk k hk (by simp)⟩
theorem Bel.tr{w w':World}(h:Bel w0 w)(hs:Same X w w')(hx:∀ x∈X,w0.heap.size<=x):Bel w0 w':=
 Below.trans h ⟨hs.os,hs.tape,hs.output,hs.size,fun k hk=>hs.blk k (Nat.lt_of_lt_of_le hk h.size) (fun hm=>by have:=hx k hm;omega)⟩
theorem Bel.tr0{w w':World}(h:Bel w0 w)(hs:Same [] w w'):Bel w0 w':=h.tr hs (by simp)
theorem Bel.tr1{w w':World}(h:Bel w0 w)(hs:Same [b] w w')(hb:w0.heap.size<=b):Bel w0 w':=h.tr hs (by simpa using hb)
theorem Bel.size{w0 w:World}(h:Bel w0 w):w0.heap.size<=w.heap.size:=Below.size h
theorem Bel.ob{w:World}(h:Bel w0 w)(hr:w.heap.size<=b):w0.heap.size<=b:=Nat.le_trans h.size hr
def Blk(w:World)(b:Nat)(t:TypeId)(cs:Array Value):Prop:=w.heap[b]? =some (.cells cs t (0,0))
theorem uj{w:World}{ob:Obj}(h:w.heap[b]? =some ob):b<w.heap.size:=(Array.getElem?_eq_some_iff.1 h).1
section blk
variable {w0 w w':World} {b:Nat} {t:TypeId} {cs:Array Value} {X:List Nat}
theorem Blk.lt(h:Blk w b t cs):b<w.heap.size:=uj h
theorem Blk.ob{b2:Nat}(h:Blk w b t cs)(hr:w.heap.size<=b2):b<b2:=Nat.lt_of_lt_of_le h.lt hr
theorem Blk.cell{o:Nat}{v:Value}(h:Blk w b t cs)(hv:cs[o]? =some v):w.cell? ⟨b,o,none⟩=some v:=by rw[cell_of_row w b o cs t (0,0) h];exact hv
theorem Blk.range{o:Nat}(h:Blk w b t cs)(hx:∀ j v,xs[j]? =some v->cs[o+j]? =some v):w.rangeAt b o xs:=fun j v hj=>h.cell (hx j v hj)
theorem Blk.range0(h:Blk w b t xs.toArray):w.rangeAt b 0 xs:=h.range (fun j v hj=>by simpa using hj)
theorem Blk.tr(h:Blk w b t cs)(hs:Same X w w')(hx:b∉X):Blk w' b t cs:=(hs.blk b h.lt hx).trans h
theorem Blk.tr0(h:Blk w b t cs)(hs:Same [] w w'):Blk w' b t cs:=h.tr hs (by simp)
theorem Blk.tr1(h:Blk w b t cs)(hs:Same [c] w w')(hne:b≠c):Blk w' b t cs:=h.tr hs (by simpa using hne)
theorem Blk.frozen(h:Blk w b t cs)(i:Nat):w.frozen? ⟨b,i,none⟩=false:=by unfold Blk at h;simp[World.frozen?,h]
end blk
theorem Bel.cell{w0 w:World}{b o:Nat}{v:Value}(h:Bel w0 w)(hb:b<w0.heap.size)(hc:w0.cell? ⟨b,o,none⟩=some v):w.cell? ⟨b,o,none⟩=some v:=(Below.cell h (p:=⟨b,o,none⟩) hb).trans hc
theorem Bel.range{w:World}{o:Nat}(h:Bel w0 w)(hb:b<w0.heap.size)(hc:w0.rangeAt b o xs):w.rangeAt b o xs:=fun j v hj=>h.cell hb (hc j v hj)
theorem o6(w:World)(ob:Obj):Same [] w (w.alloc ob):=⟨rfl,rfl,rfl,by simp,fun k hk _=>Below.heap_alloc w ob k hk⟩
theorem D3(w:World)(b:Nat)(cs:Array Value):Same [b] w (w.setRow b cs):=⟨rfl,rfl,rfl,by simp,fun k _ hx=>setRow_other w b k cs (by simpa using hx)⟩
theorem Ek(w:World)(b o:Nat)(v:Value):Same [b] w (w.setCell ⟨b,o,none⟩ v):=⟨rfl,rfl,rfl,by simp[World.setCell],fun k _ hx=>Below.heap_setCell w _ v k (by simpa using hx)⟩
theorem Dx{w:World}{o:Nat}{t:TypeId}(h:Blk w b t cs)(v:Value):Blk (w.setCell ⟨b,o,none⟩ v) b t (cs.setIfInBounds o v):=by
 unfold Blk at h ⊢;simp[World.setCell,Array.getElem?_modify,h]
section mem
variable {x y z:Operand} {k:IntKind} {a b:Int} {t t' e:TypeId} {w:World}
theorem qQ(hz:(P.info? t).map (·.zero)=some (some zv))(hcs:zv.cells=cs)
  (K:∀ b w1,Blk w1 b t cs->Same [] w w1->w.heap.size<=b->WL P ops Q rest n (upd f d (.pointer (some ⟨b,0,none⟩))) w1):WL P ops Q (⟨some d,.alloc t,ty,pos,af,none⟩::rest) n f w:=by
 subst hcs;refine wl (v:= .pointer (some ⟨w.heap.size,0,none⟩)) (w':=w.alloc (.cells zv.cells t)) ?_ (K _ _ (heap_alloc_new w _) (o6 w _) (Nat.le_refl _));cases hq:P.info? t with
 | none=>simp[hq]at hz
 | some i=>
  have hz':i.zero=some zv:=by simpa[hq]using hz
  simp[RV,execOp,Instr.alloc,zeroValue,typeInfo,hq,hz',newVar,newRow]
theorem wl_bx{v:Value}(hx:ev n f x=v)(hcs:v.cells=cs)
  (K:∀ b w1,Blk w1 b t cs->Same [] w w1->w.heap.size<=b->WL P ops Q rest n (upd f d (.pointer (some ⟨b,0,none⟩))) w1):WL P ops Q (⟨some d,.box t x,ty,pos,af,none⟩::rest) n f w:=by
 subst hcs;refine wl (v:= .pointer (some ⟨w.heap.size,0,none⟩)) (w':=w.alloc (.cells v.cells t)) ?_ (K _ _ (heap_alloc_new w _) (o6 w _) (Nat.le_refl _));simp[RV,execOp,hx,Instr.box,newVar,newRow]
theorem wl_stW{b:Nat}{old:Array Value}(hb:Blk w b tb old)(hx:ev n f x= .pointer (some ⟨b,0,none⟩))(hy:ev n f y= .agg cells)(hi:(P.info? t).map (·.size)=some cells.size)
  (ho:old.size=cells.size) (h1:cells.toList.all (·.oneCell')=true)
  (K:∀ w1,Blk w1 b tb cells->Same [b] w w1->WL P ops Q rest n f w1):WL P ops Q (⟨none,.store t x y,ty,pos,af,none⟩::rest) n f w:=by
 refine wls (w':=w.setRow b cells) ?_ (K _ (setRow_heap w b old cells tb (0,0) hb) (D3 w b cells));simp[RS,execOp,hx,hy,Instr.storeAt,Instr.sureAddr,run_storeVar_row w b tb t old cells hb hi ho (by rw[<- Array.all_toList];exact h1)]
theorem y8{t' ty':TypeId}{a2:String}{af':Array Edge}(hz:(P.info? t).map (·.zero)=some (some zv))(hcs:zv.cells=cs)(hx:∀ b,ev n (upd f d (.pointer (some ⟨b,0,none⟩))) x= .pointer (some ⟨b,0,none⟩))(hy:∀ b,ev n (upd f d (.pointer (some ⟨b,0,none⟩))) y= .agg cells)(hi:(P.info? t').map (·.size)=some cells.size)
  (ho:cs.size=cells.size) (h1:cells.toList.all (·.oneCell')=true)
  (K:∀ b w1,Blk w1 b t cells->Same [] w w1->w.heap.size<=b->WL P ops Q rest n (upd f d (.pointer (some ⟨b,0,none⟩))) w1):WL P ops Q (⟨some d,.alloc t,ty,pos,af,none⟩::⟨none,.store t' x y,ty',a2,af',none⟩::rest) n f w:=
 qQ hz hcs (fun b w1 hb hs hr=>wl_stW hb (hx b) (hy b) hi ho h1 (fun w2 hq a1=>K b w2 hq ⟨a1.os.trans hs.os,a1.tape.trans hs.tape,a1.output.trans hs.output,Nat.le_trans hs.size a1.size,fun k hk _=>by
  rw[a1.blk k (Nat.lt_of_lt_of_le hk hs.size) (fun hm=>by have:=List.mem_singleton.1 hm;omega)];exact hs.blk k hk (by simp)⟩ hr))
theorem run_store1{b o:Nat}{v:Value}(hb:Blk w b tb cs)(ho:o<cs.size)(h1:v.oneCell'=true)(hi:(P.info? t).map (·.size)=some 1):
  (storeVar t ⟨b,o,none⟩ v).run P w= .ok () (w.setCell ⟨b,o,none⟩ v):=by
 have hc:w.cell? ⟨b,o,none⟩=some cs[o]:=hb.cell (Array.getElem?_eq_getElem ho);have hs:v.cells.size=1:=by cases v<;>simp_all[Value.cells,Value.oneCell']
 have hl:v.cells.toList= [v]:=by cases v<;>simp_all[Value.cells,Value.oneCell']
 cases hq:P.info? t with
 | none=>simp[hq]at hi
 | some i=>
  have hz:i.size=1:=by simpa[hq]using hi
  have ha:(⟨b,o,none⟩:Addr).add 0=⟨b,o,none⟩:=Addr.add_mid b o 0;simp[storeVar,sizeOf,typeInfo,hq,hz,hs,hl,storeCells,ha,run_store P w _ v _ h1,hc,hb.frozen o]
theorem xx{b o:Nat}{v:Value}(hb:Blk w b tb cs)(hx:ev n f x= .pointer (some ⟨b,o,none⟩))(hy:ev n f y=v)(hi:(P.info? t).map (·.size)=some 1)
  (ho:o<cs.size) (h1:v.oneCell'=true) (hcs:cs.setIfInBounds o v=cs')
  (K:∀ w1,Blk w1 b tb cs'->Same [b] w w1->WL P ops Q rest n f w1):WL P ops Q (⟨none,.store t x y,ty,pos,af,none⟩::rest) n f w:=by
 subst hcs;refine wls (w':=w.setCell ⟨b,o,none⟩ v) ?_ (K _ (Dx hb v) (Ek w b o v));simp[RS,execOp,hx,hy,Instr.storeAt,Instr.sureAddr,run_store1 hb ho h1 hi]
def B7(cs:Array Value):Nat->List Value->Array Value
 | _,[]=>cs
 | o,v::r=>B7 (cs.setIfInBounds o v) (o+1) r
theorem Oj{b:Nat}{tb:TypeId}:∀(vs:List Value) (o:Nat) (cs:Array Value) (w:World),Blk w b tb cs->Blk (w.setCells b o vs) b tb (B7 cs o vs)
 | [],_,_,_,h=>h
 | v::r,o,_,_,h=>Oj r (o+1) _ _ (Dx h v)
theorem MQ{b:Nat}:∀(vs:List Value) (o:Nat) (w:World),Same [b] w (w.setCells b o vs)
 | [],_,w=>Same.refl _ w
 | v::r,o,w=>(Ek w b o v).trans (MQ r (o+1) _)
theorem Jj{b o:Nat}(hb:Blk w b tb cs)(hx:ev n f x= .pointer (some ⟨b,o,none⟩))(hy:ev n f y= .agg cells)(hi:(P.info? t).map (·.size)=some cells.size)
  (ho:o+cells.size<=cs.size) (h1:cells.toList.all (·.oneCell')=true) (hcs:B7 cs o cells.toList=cs')
  (K:∀ w1,Blk w1 b tb cs'->Same [b] w w1->WL P ops Q rest n f w1):WL P ops Q (⟨none,.store t x y,ty,pos,af,none⟩::rest) n f w:=by
 subst hcs;refine wls (w':=w.setCells b o cells.toList) ?_ (K _ (Oj _ _ _ _ hb) (MQ _ _ _));have ht:w.there b o cells.size:=fun j hj=>⟨by rw[hb.cell (Array.getElem?_eq_getElem (by omega))];rfl,hb.frozen _⟩
 simp[RS,execOp,hx,hy,run_storeAt_mid w b o t cells ht hi (by rw[<- Array.all_toList];exact h1)]
theorem Lk{m:Nat}{by':Nat}(hu:P.underlying t=some (.slice e))(hi:(P.info? e).map (fun i=>(i.zero,i.size,i.bytes))=some (some zv,sz,by'))
  (hx:ev n f x= .int .i64 (m:Int)) (hy:ev n f y= .int .i64 (m:Int)) (hb:by'*m<=281474976710656) (hm:m<=9223372036854775807)
  (K:∀ b w1,Blk w1 b e (madeCells zv.cells (m*sz))->Same [] w w1->w.heap.size<=b->WL P ops Q rest n (upd f d (.slice (some ⟨b,0,none⟩) m m)) w1):
  WL P ops Q (⟨some d,.makeSlice t x y,ty,pos,af,none⟩::rest) n f w:=by
 obtain⟨i,hq,hzz⟩:=Option.map_eq_some_iff.1 hi;simp only[Prod.mk.injEq]at hzz;obtain⟨hz,hs,hby⟩:=hzz;subst hs;subst hby
 have hb':(i.bytes:Int)*(m:Int)<=281474976710656:=by
  have h:((i.bytes*m:Nat):Int)<=281474976710656:=by omega
  rwa[Int.natCast_mul]at h
 have hr:=run_make (P:=P) w t e i zv hu hq hz .i64 .i64 m m (by omega) (by omega) hb' (by omega);refine wl (v:= .slice (some ⟨w.heap.size,0,none⟩) m m) (w':=w.alloc (.cells (madeCells zv.cells (m*i.size)) e)) ?_ (K _ _ (heap_alloc_new w _) (o6 w _) (Nat.le_refl _));simp only[Int.toNat_natCast]at hr;unfold RV execOp;simp only[hx,hy,Sem.run_bind,hr,Result.andThen_ok,Sem.run_pure]
theorem Tj(z:Value)(m:Nat):madeCells #[z] m=Array.replicate m z:=by
 apply Array.ext
 ·simp[madeCells]
 ·intro i h1 h2
  simp[madeCells,Nat.mod_one]
def row(m:Nat)(g:Nat->Value):Array Value:=Array.ofFn (n:=m) (fun i=>g i.val)
@[simp] theorem row_size (m:Nat) (g:Nat->Value):(row m g).size=m:=by simp[row]
theorem j5{m:Nat}(hi:i<m):(row m g)[0+i*1]? =some (g i):=by
 have:0+i*1=i:=by omega
 rw[this];simp[row,hi]
theorem kv{m:Nat}{v:Value}:(row m g).setIfInBounds (0+i*1) v=row m (fun j=>if j=i then v else g j):=by
 have:0+i*1=i:=by omega
 rw[this]
 apply Array.ext
 ·simp
 ·intro j h1 h2
  grind[row,Array.getElem_ofFn]
theorem xy{m:Nat}{g':Nat->Value}(h:∀ j,j<m->g j=g' j):row m g=row m g':=by
 apply Array.ext
 ·simp
 ·intro j h1 h2
  simp only[row,Array.getElem_ofFn];exact h j (by simpa using h1)
theorem row_made(z:Value)(m:Nat):madeCells #[z] (m*1)=row m (fun _=>z):=by
 rw[Nat.mul_one,Tj]
 apply Array.ext
 ·simp
 ·intro j h1 h2;simp[row]
theorem Y5{m:Nat}{by':Nat}(hu:P.underlying t=some (.slice e))(hi:(P.info? e).map (fun i=>(i.zero,i.size,i.bytes))=some (some zv,1,by'))(hz:zv.cells= #[zv])
  (hx:ev n f x= .int .i64 (m:Int)) (hy:ev n f y= .int .i64 (m:Int)) (hb:by'*m<=281474976710656) (hm:m<=9223372036854775807)
  (K:∀ b w1,Blk w1 b e (row m (fun _=>zv))->Same [] w w1->w.heap.size<=b->WL P ops Q rest n (upd f d (.slice (some ⟨b,0,none⟩) m m)) w1):
  WL P ops Q (⟨some d,.makeSlice t x y,ty,pos,af,none⟩::rest) n f w:=
 Lk hu hi hx hy hb hm (fun b w1 h=>K b w1 (by rw[hz,row_made]at h;exact h))
def flat(vs:List (Nat×Value)):Array Value:=(vs.flatMap (fun p=>p.2.cells.toList)).toArray
theorem qZ{len:Nat}{parts:Array (Nat×Operand)}(vs:List (Nat×Value))(hv:parts.toList.map (fun p=>(p.1,ev n f p.2))=vs)
  (hu:P.underlying t=some (.slice e)) (hs:(P.info? e).map (·.size)=some sz) (hz:(P.info? e).map (·.zero)=some (some zv)) (hl:¬len*sz>2^24) (hl0:len*sz≠0)
  (a1:Instr.fill (fun i=>some (i*sz,sz)) ((Array.range (len*sz)).map (zv.cells[· % zv.cells.size]!)) vs=some (flat vs)) (hcs:flat vs=cs)
  (K:∀ b w1,Blk w1 b e cs->Same [] w w1->w.heap.size<=b->WL P ops Q rest n (upd f d (.slice (some ⟨b,0,none⟩) len len)) w1):
  WL P ops Q (⟨some d,.buildSlice t len parts,ty,pos,af,none⟩::rest) n f w:=by
 subst hcs;refine wl (v:= .slice (some ⟨w.heap.size,0,none⟩) len len) (w':=w.alloc (.cells (flat vs) e)) ?_ (K _ _ (heap_alloc_new w _) (o6 w _) (Nat.le_refl _));have hp:(parts.map (fun p=>(p.1,ev n f p.2))).toList=vs:=by rw[<- hv];simp
 cases hq:P.info? e with
 | none=>simp[hq]at hs
 | some i=>
  have hsz:i.size=sz:=by simpa[hq]using hs
  have hz':i.zero=some zv:=by simpa[hq]using hz
  have hl':¬(2^24<len*sz):=hl;unfold RV execOp Instr.buildSlice;simp only[Sem.run_bind,run_underlying hu,Result.andThen_ok,sizeOf,typeInfo,run_program,hq,Sem.run_pure,hsz,Sem.run_ite,hl,if_false,hl0,zeroValue,hz',hp,a1,newRow,run_newObj];rfl
def zw (P:Program) (F:FuncId):Bool:=match P.funcs[F]? with|some fn=>fn.name != "runtime.NumGoroutine" && fn.body.isSome|none=>false
theorem Xj(h:zw P F=true)(args:Array Value)(w:World):(callFunc F args).run P w= .ok (.enter F args) w:=by
 unfold zw at h;cases hq:P.funcs[F]? with
 | none=>simp[hq]at h
 | some fn=>
  simp only[hq,Bool.and_eq_true,bne_iff_ne,ne_eq]at h;obtain⟨h1,h2⟩:=h;have h3:¬fn.body=none:=by cases hb:fn.body<;>simp_all
  simp[callFunc,hq,h1,h3]
theorem zW{xs:Array Operand}{ats:Array TypeId}{R:Ending->World->Prop}{dst:Option Nat}(hF:zw P F=true)(hc:Calls P F args.toArray w R)(a1:xs.toList.map (ev n f)=args)
  (K:∀ e' w1,R e' w1->∃ v,e'= .returned v/\WL P ops Q rest n (KK f dst v) w1):
  WL P ops Q (⟨dst,.call { callee:= .value (.func F),args:=xs,argTypes:=ats },ty,pos,af,none⟩::rest) n f w:=by
 refine wpList_plain rfl fun K' hK=>?_
 unfold Oper.wp;rw[jZ];have a2:(execOp (ev n f) ⟨dst,.call { callee:= .value (.func F),args:=xs,argTypes:=ats },ty,pos,af,none⟩).run P w= .ok (.enter F args.toArray) w:=by
  subst a1;have hm:(xs.toList.map (ev n f)).toArray=xs.map (ev n f):=by rw[<- Array.toList_map,Array.toArray_toList]
  rw[hm];simp[execOp,resolve,ev,Deferred.ofValue,invoke,Xj hF]
 rw[a2,Oper.upon_enter];refine hc.mono fun e' w1 hR=>?_
 obtain⟨v,rfl,hk⟩:=K e' w1 hR;exact hK _ _ (by rw[EK];exact hk)
end mem
section cuts
variable {x y z:Operand} {t t' e:TypeId} {w:World}
theorem a7{P:Program}{ops:Array Oper}{Q:Exit->Act->World->Prop}{n:Nw}{f:Fr}{w:World}{rest:List Oper}{ty:TypeId}{pos:String}{af:Array Edge}{xs:Array Operand}{ats:Array TypeId}{v:Value}{dst:Option Nat}(hF:zw P F=true)(hc:Calls P F args.toArray w (fun e w'=>e= .returned v/\Bel w w'))(a1:xs.toList.map (ev n f)=args)(K:∀ w1,Same [] w w1->WL P ops Q rest n (KK f dst v) w1):WL P ops Q (⟨dst,.call { callee:= .value (.func F),args:=xs,argTypes:=ats },ty,pos,af,none⟩::rest) n f w:=zW hF hc a1 (fun _ w1 h=>⟨v,h.1,K w1 (sB h.2)⟩)
theorem wl_cvB{s:ByteArray}(hs:P.underlying t=some .string)(hd:P.underlying t'=some (.slice e))(he:P.underlying e=some (.int .u8))(hx:ev n f x= .string s)
  (K:∀ b c w1,(∀ k (h:k<s.size),w1.cell? ⟨b,0+k*1,none⟩=some (.int .u8 ((s[k]'h).toNat:Int)))->Same [] w w1->w.heap.size<=b->WL P ops Q rest n (upd f d (.slice (some ⟨b,0,none⟩) s.size c)) w1):
  WL P ops Q (⟨some d,.convert t t' x,ty,pos,af,none⟩::rest) n f w:=by
 have hr:=run_bytes_of_string (P:=P) w t t' e s hs hd he;refine wl (v:= .slice (some ⟨w.heap.size,0,none⟩) s.size (grownCap w s.size 0 e)) (w':=w.drew.alloc (.cells (bytesRow s (grownCap w s.size 0 e)) e ((bytesRow s (grownCap w s.size 0 e)).size,(bytesRow s (grownCap w s.size 0 e)).size+1))) ?_ (K w.heap.size (grownCap w s.size 0 e) _ ?_ ?_ (Nat.le_refl _))
 ·simp[RV,execOp,hx,hr]
 ·intro k hk
  have hh:=heap_alloc_new w.drew (.cells (bytesRow s (grownCap w s.size 0 e)) e ((bytesRow s (grownCap w s.size 0 e)).size,(bytesRow s (grownCap w s.size 0 e)).size+1));have:=cell_of_row _ w.heap.size (0+k*1) _ _ _ hh;rw[this];have hk':k<s.data.size:=hk;have e1:s.data[k]? =some (s[k]'hk):=Array.getElem?_eq_getElem hk';have e2:(s.data.map (fun b=>Value.int .u8 b.toNat)++Array.replicate (grownCap w s.size 0 e-s.size) (Value.int .u8 0))[k]? =some (.int .u8 ((s[k]'hk).toNat:Int)):=by
   rw[Array.getElem?_append_left (by simpa using hk'),Array.getElem?_map,e1];rfl
  simpa[bytesRow]using e2
 ·exact⟨rfl,rfl,rfl,by simp,fun k hk _=>Below.heap_alloc w.drew _ k hk⟩
theorem FZ(a:Addr):a.add 0=a:=by unfold Addr.add;rw[if_pos rfl]
theorem MX{m h:Nat}(hu:P.underlying t=some (.slice e))(hs:(P.info? e).map (·.size)=some sz)(hx:ev n f x= .slice A m c)(hy:ev n f y= .int .i64 (h:Int))(hh:h<=c):
  RV P n f w ⟨dst,.slice t x none (some y) none,ty,pos,af,gd⟩ (.slice A h c) w:=by
 cases hq:P.info? e with
 | none=>simp[hq]at hs
 | some i=>
  have h1:(Instr.sliceBound (.int .i64 (h:Int)) c .sliceAcap).run P w= .ok h w:=by
   simp[Instr.sliceBound,asIntOf,hh]
  cases A<;>simp[RV,execOp,hx,hy,Instr.sliceAt,run_underlying hu,Instr.slice,Instr.sliceBounds,h1,sizeOf,typeInfo,hq,FZ]
theorem RY{m l:Nat}(hu:P.underlying t=some (.slice e))(hs:(P.info? e).map (·.size)=some sz)(hx:ev n f x= .slice A m c)(hy:ev n f y= .int .i64 (l:Int))(hl:l<=m):
  RV P n f w ⟨dst,.slice t x (some y) none none,ty,pos,af,gd⟩ (.slice (if c=l then A else A.map (·.add (l*sz))) (m-l) (c-l)) w:=by
 cases hq:P.info? e with
 | none=>simp[hq]at hs
 | some i=>
  have hz:i.size=sz:=by simpa[hq]using hs
  have h1:(Instr.sliceBound (.int .i64 (l:Int)) m .sliceB).run P w= .ok l w:=by
   simp[Instr.sliceBound,asIntOf,hl]
  simp[RV,execOp,hx,hy,Instr.sliceAt,run_underlying hu,Instr.slice,Instr.sliceBounds,h1,sizeOf,typeInfo,hq,hz]
end cuts
def MapS(w:World)(b:Nat)(m:List (ByteArray×Value)):Prop:=
 ∃ es clock,w.heap[b]? =some (.map es clock)/\es.toList.map (fun e=>(e.key,e.val))=m.map (fun p=>(Value.string p.1,p.2))
theorem MapS.lt{w:World}(h:MapS w b m):b<w.heap.size:=by obtain⟨_,_,h,_⟩:=h;exact uj h
theorem MapS.tr{w w':World}(h:MapS w b m)(hs:Same X w w')(hx:b∉X):MapS w' b m:=by
 obtain⟨es,c,h,hm⟩:=h;exact⟨es,c,(hs.blk b (uj h) hx).trans h,hm⟩
theorem MapS.tr0{w w':World}(h:MapS w b m)(hs:Same [] w w'):MapS w' b m:=h.tr hs (by simp)
theorem MapS.tr1{w w':World}(h:MapS w b m)(hs:Same [c] w w')(hne:b≠c):MapS w' b m:=h.tr hs (by simpa using hne)
theorem ba_beq(a b:ByteArray):(a==b)=decide (a=b):=by
 obtain⟨a⟩:=a;obtain⟨b⟩:=b;rw[Bool.eq_iff_iff];simp only[decide_eq_true_eq,ByteArray.mk.injEq];show (a==b)=true↔_;simp
def lkB(m:List (ByteArray×Value))(k:ByteArray):Bool:=m.any (fun p=>decide (p.1=k))
def lkV(z:Value):List (ByteArray×Value)->ByteArray->Value
 | [],_=>z
 | p::r,k=>if p.1=k then p.2 else lkV z r k
def Bv:List (ByteArray×Value)->ByteArray->Value->List (ByteArray×Value)
 | [],k,v=>[(k,v)]
 | p::r,k,v=>if p.1=k then (k,v)::r else p::Bv r k v
theorem YK(k:ByteArray)(z:Value):∀(m:List (ByteArray×Value)) (l:List MapEntry) (i:Nat),l.map (fun e=>(e.key,e.val))=m.map (fun p=>(Value.string p.1,p.2))->
  (lkB m k=false/\Instr.findNow .string (.string k) l i=some none)\/
  (lkB m k=true/\∃ j e,l[j]? =some e/\e.key= .string k/\Instr.findNow .string (.string k) l i=some (some (i+j,lkV z m k))/\
   ∀ v:Value,(l.modify j (fun e=>{ e with key:= .string k,val:=v })).map (fun e=>(e.key,e.val))=(Bv m k v).map (fun p=>(Value.string p.1,p.2)))
 | [],l,i,h=>by
  have:l= []:=by cases l<;>simp_all
  subst this
  exact .inl ⟨rfl,rfl⟩
 | p::r,[],i,h=>by simp at h
 | p::r,e::l,i,h=>by
  simp only[List.map_cons,List.cons.injEq,Prod.mk.injEq]at h
  obtain⟨⟨hk,hv⟩,hr⟩:=h
  by_cases a1:p.1=k
  ·refine .inr ⟨by simp[lkB,a1],0,e,rfl,by rw[hk,a1],?_,?_⟩
   ·simp only[Instr.findNow,hk,Instr.sameNow]
    have:(k==p.1)=true:=by rw[ba_beq];simp[a1]
    rw[this]
    simp[lkV,a1,hv]
   ·grind[Bv]
  ·have hne:(k==p.1)=false:=by rw[ba_beq];simpa using fun h=>a1 h.symm
   have hstep:Instr.findNow .string (.string k) (e::l) i=Instr.findNow .string (.string k) l (i+1):=by
    simp only[Instr.findNow,hk,Instr.sameNow,hne]
   have hb:lkB (p::r) k=lkB r k:=by simp[lkB,a1]
   have hvv:lkV z (p::r) k=lkV z r k:=by simp[lkV,a1]
   rcases YK k z r l (i+1) hr with ⟨h1,h2⟩|⟨h1,j,e',h2,h3,h4,h5⟩
   ·grind
   ·refine .inr ⟨hb.trans h1,j+1,e',by simpa using h2,h3,?_,?_⟩
    ·grind
    ·intro v
     have:=h5 v;simp only[List.modify_succ_cons,List.map_cons,Bv,if_neg a1,this];rw[hk,hv]
theorem QW:∀(m:List (ByteArray×Value)) (k:ByteArray) (v:Value),lkB m k=false->Bv m k v=m++[(k,v)]
 | [],_,_,_=>rfl
 | p::r,k,v,h=>by
  simp only[lkB,List.any_cons,Bool.or_eq_false_iff,decide_eq_false_iff_not]at h
  simp[Bv,h.1,QW r k v h.2]
section maps
variable {x y z:Operand} {t kt et:TypeId} {w:World}
theorem wl_mm(K:∀ b w1,MapS w1 b []->Same [] w w1->w.heap.size<=b->WL P ops Q rest n (upd f d (.map (some b))) w1):WL P ops Q (⟨some d,.makeMap t none,ty,pos,af,none⟩::rest) n f w:=by
 refine wl (v:= .map (some w.heap.size)) (w':=w.alloc (.map #[] 0)) ?_ (K _ _ ⟨#[],0,heap_alloc_new w _,rfl⟩ (o6 w _) (Nat.le_refl _));have:=@run_makeMap P;simp[RV,execOp,this]
theorem JW{es:Array MapEntry}(h:w.heap[b]? =some (.map es c)):(getObj b).run P w= .ok (.map es c) w:=by
 simp[getObj,Sem.run,h]
theorem Bw{es es':Array MapEntry}{c':Nat}(h:w.heap[b]? =some (.map es c)):(setObj b (.map es' c')).run P w= .ok () { w with heap:=w.heap.setIfInBounds b (.map es' c') }:=by
 simp only[setObj,Sem.run,h]
theorem Zk{kt:TypeId}(hk:P.underlying kt=some .string)(b:Bool)(s:ByteArray):(Instr.checkKey b 10000 kt (.string s)).run P w= .ok () w:=by
 have h:∀ n,(Instr.checkKey b (n+1) kt (.string s)).run P w= .ok () w:=fun n=>by simp[Instr.checkKey,run_underlying hk]
 exact h 9999
theorem r_lkS{k:ByteArray}(hm:MapS w b m)(hu:P.underlying t=some (.map kt et))(hk:P.underlying kt=some .string)(hz:(P.info? et).map (·.zero)=some (some zv))
  (hx:ev n f x= .map (some b)) (hy:ev n f y= .string k):RV P n f w ⟨dst,.lookup t x y true,ty,pos,af,gd⟩ (.tuple #[lkV zv m k,.bool (lkB m k)]) w:=by
 obtain⟨es,c,hh,hes⟩:=hm;cases hq:P.info? et with
 | none=>simp[hq]at hz
 | some i=>
  have hz':i.zero=some zv:=by simpa[hq]using hz
  rcases YK k zv m es.toList 0 hes with ⟨h1,h2⟩|⟨h1,j,e,_,_,h4,_⟩
  ·have hv:lkV zv m k=zv:=by
    clear h2 hes
    induction m with
    | nil=>rfl
    | cons p r ih=>
     simp only[lkB,List.any_cons,Bool.or_eq_false_iff,decide_eq_false_iff_not]at h1;simp only[lkV,if_neg h1.1];exact ih h1.2
   simp[RV,execOp,hx,hy,Instr.lookup,run_underlying hu,JW hh,Zk hk,Instr.findKey,run_underlying hk,h2,zeroValue,typeInfo,hq,hz',h1,hv]
  ·simp[RV,execOp,hx,hy,Instr.lookup,run_underlying hu,JW hh,Zk hk,Instr.findKey,run_underlying hk,h4,h1]
theorem wl_muS{k:ByteArray}{v:Value}(hm:MapS w b m)(hu:P.underlying t=some (.map kt et))(hk:P.underlying kt=some .string)
  (hx:ev n f x= .map (some b)) (hy:ev n f y= .string k) (hv:ev n f z=v)
  (K:∀ w1,MapS w1 b (Bv m k v)->Same [b] w w1->WL P ops Q rest n f w1):WL P ops Q (⟨none,.mapUpdate t x y z,ty,pos,af,none⟩::rest) n f w:=by
 obtain⟨es,c,hh,hes⟩:=hm;have a1:∀ a2 c',Same [b] w { w with heap:=w.heap.setIfInBounds b (.map a2 c') }:=fun a2 c'=>
  ⟨rfl,rfl,rfl,by simp,fun i _ hx=>by
   simp only[List.mem_singleton]at hx
   simp[Array.getElem?_setIfInBounds_ne (Ne.symm hx)]⟩
 have a3:∀ a2 c',({ w with heap:=w.heap.setIfInBounds b (.map a2 c') }:World).heap[b]? =some (.map a2 c'):=fun a2 c'=>by
  have:=uj hh;simp[this]
 rcases YK k (.bool false) m es.toList 0 hes with ⟨h1,h2⟩|⟨h1,j,e,h2,h3,h4,h5⟩
 ·refine wls (w':={ w with heap:=w.heap.setIfInBounds b (.map (es.push { key:= .string k,val:=v,born:=c }) (c+1)) }) ?_ (K _ ⟨_,_,a3 _ _,?_⟩ (a1 _ _))
  ·simp[RS,execOp,hx,hy,hv,Instr.mapUpdate,run_underlying hu,JW hh,Zk hk,Instr.findKey,run_underlying hk,h2,Bw hh]
  ·rw[QW _ _ _ h1];simp[hes]
 ·have hj:es[j]? =some e:=by simpa using h2
  refine wls (w':={ w with heap:=w.heap.setIfInBounds b (.map (es.modify j fun e=>{ e with key:= .string k,val:=v }) c) }) ?_ (K _ ⟨_,_,a3 _ _,?_⟩ (a1 _ _))
  ·have hb:Instr.sameBits 10000 (.string k) (.string k)=true:=by simp[Instr.sameBits,ba_beq]
   simp[RS,execOp,hx,hy,hv,Instr.mapUpdate,run_underlying hu,JW hh,Zk hk,Instr.findKey,run_underlying hk,h4,hj,h3,Instr.keyThatStays,hb,Bw hh]
  ·have:=h5 v
   simpa using this
end maps
def RR(P:Program)(n:Nw)(f:Fr)(w:World):ResultVar->Value->Prop
 | .tmp t,v=>ev n f (.tmp t)=v
 | .cell a t,v=>∃ p,ev n f (.tmp a)= .pointer (some p)/\(loadVar t p).run P w= .ok v w
theorem R8(n:Nw)(f:Fr)(t:Nat):(AF n f).tmps.getD t undef=ev n f (.tmp t):=by
 have:=congrFun (jZ n f) (.tmp t);exact this
def rdv(tmps:Array Value):ResultVar->Sem Value
 | .tmp t=>pure (tmps.getD t undef)
 | .cell a t=>do loadVar t (<- asAddr (tmps.getD a undef))
theorem Iq(fn:Func)(a1:Array Value):results fn a1=(do
 let vs <- fn.results.mapM (rdv a1)
 pure (if h:vs.size=1 then vs[0]else .tuple vs)):=rfl
theorem P6{rv:ResultVar}(h:RR P n f w rv v):(rdv (AF n f).tmps rv).run P w= .ok v w:=by
 cases rv with
 | tmp t=>simp only[RR]at h;simp only[rdv,R8,h];rfl
 | cell a t=>
  obtain⟨p,h1,h2⟩:=h;simp only[rdv,R8,h1];simp[asAddr,h2]
theorem zX{a t o:Nat}{dd:TypeDesc}{cs:List Value}(hu:P.underlying t=some dd)(hd:dd.isRow=true)(hx:ev n f (.tmp a)= .pointer (some ⟨b,o,none⟩))(hc:w.rangeAt b o cs)(hi:(P.info? t).map (·.size)=some cs.length):
 RR P n f w (.cell a t) (.agg cs.toArray):=⟨_,hx,run_loadVar_mid w b o t cs dd hc hu hd hi⟩
theorem xK{fn:Func}{R:Ending->World->Prop}{r0:ResultVar}{e:Exit}(he:e= .ret\/e= .normal)(hf:fn.results= #[r0])(h0:RR P (nw0 k) f w r0 v0)(hR:R (.returned v0) w):EX (bodyPost P fn R) e (nw0 k) f w:=by
 have h:(results fn (AF (nw0 k) f).tmps).run P w= .ok v0 w:=by
  have a0:=P6 h0;rw[Iq,hf];simp[a0]
 rcases he with rfl|rfl<;>exact⟨rfl,v0,h,hR⟩
theorem fin0{fn:Func}{R:Ending->World->Prop}{e:Exit}(he:e= .ret\/e= .normal)(hf:fn.results= #[])(hR:R (.returned (.tuple #[])) w):EX (bodyPost P fn R) e (nw0 k) f w:=by
 have h:(results fn (AF (nw0 k) f).tmps).run P w= .ok (.tuple #[]) w:=by simp[results,hf]
 rcases he with rfl|rfl<;>exact⟨rfl,_,h,hR⟩
theorem uK{fn:Func}{R:Ending->World->Prop}{r0 r1:ResultVar}{e:Exit}(he:e= .ret\/e= .normal)(hf:fn.results= #[r0,r1])(h0:RR P (nw0 k) f w r0 v0)(h1:RR P (nw0 k) f w r1 v1)(hR:R (.returned (.tuple #[v0,v1])) w):EX (bodyPost P fn R) e (nw0 k) f w:=by
 have h:(results fn (AF (nw0 k) f).tmps).run P w= .ok (.tuple #[v0,v1]) w:=by
  have a0:=P6 h0;have a1:=P6 h1;rw[Iq,hf];simp[a0,a1]
 rcases he with rfl|rfl<;>exact⟨rfl,_,h,hR⟩
theorem fin3{fn:Func}{R:Ending->World->Prop}{r0 r1 r2:ResultVar}{e:Exit}(he:e= .ret\/e= .normal)(hf:fn.results= #[r0,r1,r2])(h0:RR P (nw0 k) f w r0 v0)(h1:RR P (nw0 k) f w r1 v1)(h2:RR P (nw0 k) f w r2 v2)(hR:R (.returned (.tuple #[v0,v1,v2])) w):EX (bodyPost P fn R) e (nw0 k) f w:=by
 have h:(results fn (AF (nw0 k) f).tmps).run P w= .ok (.tuple #[v0,v1,v2]) w:=by
  have a0:=P6 h0;have a1:=P6 h1;have a2:=P6 h2;rw[Iq,hf];simp[a0,a1,a2]
 rcases he with rfl|rfl<;>exact⟨rfl,_,h,hR⟩
def fArgs(l:List Value):Fr:=fun t=>(l[t]?).getD undef
theorem enter{fn:Func}{c:Code}{args:Array Value}{R:Ending->World->Prop}{w:World}(hf:P.funcs[F]? =some fn)(hn:fn.ntmps=k)(hb:fn.body=some c)(hsz:args.size<=k)
  (h:WC P c (bodyPost P fn R) (nw0 k) (fArgs args.toList) w):Calls P F args w R:=by
 refine calls_of_wp hf hb ?_;have:({ tmps:=args++Array.replicate (fn.ntmps-args.size) undef,defers:=[] }:Act)=AF (nw0 k) (fArgs args.toList):=by
  simp only[AF,Act.mk.injEq,and_true]
  apply Array.ext
  ·simp;omega
  ·intro i h1 h2
   rw[Array.getElem_ofFn];simp only[fArgs];by_cases hi:i<args.size
   ·rw[Array.getElem_append_left hi];simp[hi]
   ·rw[Array.getElem_append_right (by omega)];simp[hi]
 rw[this];exact h
theorem zQ{c:Code}(t:Nat)(v:Value)(h:ev n f (.tmp t)=v)(hv:v≠undef)(K:WC P c Q n (upd f t v) w):WC P c Q n f w:=by
 rwa[o7 (K6 h hv)]at K
theorem ag_sub{S2:List Nat}{g f':Fr}(hs:S2.all (mem S)=true)(h:Ag S f' f):Ag S (ovr S2 g f') f:=by
 intro t ht;simp only[ovr];cases hb:mem S2 t
 ·exact h t ht
 ·exfalso
  have:∀ l:List Nat,l.all (mem S)=true->mem l t=true->mem S t=true:=by
   intro l
   induction l with
   | nil=>intro _ h;simp[mem]at h
   | cons s r ih=>
    intro ha hm;simp only[List.all_cons,Bool.and_eq_true]at ha
    grind[mem,Nat.beq,Nat.eq_of_beq_eq_true]
  grind
def QLS(n:Nw)(S:List Nat)(f0:Fr)(I:Nat->Fr->World->Prop)(m:Nat)(Q:Exit->Act->World->Prop):Exit->Act->World->Prop:=
 QL n (fun m f w=>Ag S f f0/\I m f w) m Q
theorem qz{c:Code}(S:List Nat)(I:Nat->Fr->World->Prop)(m:Nat)(h0:I m f w)(h:∀ m g w',I m g w'->WC P c (QLS n S f I m Q) n (ovr S g f) w'):WC P (.loop c) Q n f w:=by
 refine c_loop (fun m f' w=>Ag S f' f/\I m f' w) m ⟨Ok,h0⟩ ?_;intro m f' w' ⟨ha,hi⟩;have:=h m f' w' hi;rw[<- T4 ha]at this;exact this
theorem L5{g:Fr}:Ag S (ovr S g f) f:=fun t ht=>by simp[ovr,ht]
theorem x9{f0:Fr}{I:Nat->Fr->World->Prop}{m:Nat}(m':Nat)(hm:m'<m)(ha:Ag S f f0)(h:I m' f w):EX (QLS n S f0 I m Q) .normal n f w:=⟨f,m',hm,rfl,ha,h⟩
theorem e_LSx{f0:Fr}{I:Nat->Fr->World->Prop}{m:Nat}(h:EX Q (.exit i) n f w):EX (QLS n S f0 I m Q) (.exit i) n f w:=h
theorem e_LSr{f0:Fr}{I:Nat->Fr->World->Prop}{m:Nat}(h:EX Q .ret n f w):EX (QLS n S f0 I m Q) .ret n f w:=h
def QRS(n:Nw)(S:List Nat)(f0:Fr)(R:Fr->World->Prop)(Q:Exit->Act->World->Prop):Exit->Act->World->Prop:=QR n (fun f w=>Ag S f f0/\R f w) Q
theorem xv(S:List Nat)(R:Fr->World->Prop)(h:WC P x (QRS n S f R Q) n f w)(hy:∀ g w',R g w'->EX Q .normal n (ovr S g f) w'):WC P x Q n f w:=
 c_cut _ h (fun f' w' ⟨ha,hr⟩=>by
  have:=hy f' w' hr
  rwa[<- T4 ha]at this)
theorem e_RSr{f0:Fr}{R:Fr->World->Prop}(h:EX Q .ret n f w):EX (QRS n S f0 R Q) .ret n f w:=h
theorem vZ{e:Exit}(t:Nat)(v:Value)(h:ev n f (.tmp t)=v)(hv:v≠undef)(K:EX Q e n (upd f t v) w):EX Q e n f w:=by
 rwa[o7 (K6 h hv)]at K
def WS(P:Program)(ops:Array Oper)(w:World)(K:Act->Prop)(l:List Oper)(n:Nw)(f:Fr):Prop:=wpStill P ops w K l (AF n f)
theorem ws{K:Act->Prop}(h:RV P n f w ⟨some d,op,ty,pos,af,none⟩ v w)(hk:WS P ops w K rest n (upd f d v)):WS P ops w K (⟨some d,op,ty,pos,af,none⟩::rest) n f:=by
 unfold WS wpStill;rw[if_pos (by simp[Region.wanted])];unfold Oper.still;rw[jZ];unfold RV at h;rw[h,Oper.stillUpon_value,K0];exact hk
theorem wsgn{K:Act->Prop}(t:Nat){b b':Bool}(hj:(ops[j]?).bind (·.dst)=some t)(hv:ev n f (.tmp t)= .bool b')(hne:(b'==b)=false)(hk:WS P ops w K rest n (upd f d undef)):
  WS P ops w K (⟨some d,op,ty,pos,af,some (j,b)⟩::rest) n f:=by
 have hy:=Y3 ops n f j t b' hj hv;have hw:Region.wanted ⟨some d,op,ty,pos,af,some (j,b)⟩ (yielded ops (AF n f).tmps)=false:=by
  simp only[Region.wanted,hy];exact hne
 unfold WS wpStill;rw[if_neg (by rw[hw];simp),K0];exact hk
theorem yQ{K:Act->Prop}(t:Nat){b:Bool}(hj:(ops[j]?).bind (·.dst)=some t)(hv:ev n f (.tmp t)= .bool b)(h:RV P n f w ⟨some d,op,ty,pos,af,some (j,b)⟩ v w)(hk:WS P ops w K rest n (upd f d v)):
  WS P ops w K (⟨some d,op,ty,pos,af,some (j,b)⟩::rest) n f:=by
 have hy:=Y3 ops n f j t b hj hv;have hw:Region.wanted ⟨some d,op,ty,pos,af,some (j,b)⟩ (yielded ops (AF n f).tmps)=true:=by
  simp[Region.wanted,hy]
 unfold WS wpStill;rw[if_pos hw];unfold Oper.still;rw[jZ];unfold RV at h;rw[h,Oper.stillUpon_value,K0];exact hk
theorem kX{K:Act->Prop}(t:Nat){dp:Decidable p}(hv:ev n f (.tmp t)= .bool (@decide p dp))(h1:p->WS P ops w K l n (upd f t (.bool true)))(h2:¬p->WS P ops w K l n (upd f t (.bool false))):WS P ops w K l n f:=by
 have hf:=K6 hv (by simp[undef]);by_cases hp:p
 ·have:=h1 hp
  grind[o7]
 ·grind[o7]
theorem ws_cl{K:Act->Prop}{xs:Array Operand}{ats:Array TypeId}(hF:zw P F=true)(hc:Calls P F args.toArray w (fun e' w1=>e'= .returned v/\w=w1))(a1:xs.toList.map (ev n f)=args)
  (hk:WS P ops w K rest n (upd f d v)):WS P ops w K (⟨some d,.call { callee:= .value (.func F),args:=xs,argTypes:=ats },ty,pos,af,none⟩::rest) n f:=by
 unfold WS wpStill;rw[if_pos (by simp[Region.wanted])];unfold Oper.still;rw[jZ];have a2:(execOp (ev n f) ⟨some d,.call { callee:= .value (.func F),args:=xs,argTypes:=ats },ty,pos,af,none⟩).run P w= .ok (.enter F args.toArray) w:=by
  subst a1;have hm:(xs.toList.map (ev n f)).toArray=xs.map (ev n f):=by rw[<- Array.toList_map,Array.toArray_toList]
  rw[hm];simp[execOp,resolve,ev,Deferred.ofValue,invoke,Xj hF]
 rw[a2];exact⟨rfl,v,hc.mono (fun _ _ h=>⟨h.1,h.2.symm⟩),by rw[K0];exact hk⟩
theorem uz{Q':Exit->Act->World->Prop}(h:EX Q' .normal n f w):WS P ops w (fun a=>Q' .normal a w) [] n f:=h
theorem Q4(h:WL P ops Q l n f w):WS P ops w (fun a'=>wpList P ops Q l a' w) [] n f:=h
theorem oJ(hm:P.follows .mixedOrders=true)(hB:Region.lexB .any l.toArray=true)
  (h:∀ w1,Same [] w w1->WS P l.toArray w1 (fun a=>Q .normal a w1) l n f):WC P (.region id l.toArray true) Q n f w:=
 wp_region_still_lit hm hB (h _ (Same.drew w 1))
theorem Qz(k:Nat)(hm:P.follows .mixedOrders=true)(hB:Region.lexTailB .any l.toArray k=true)
  (h:∀ w1,Same [] w w1->WS P l.toArray w1 (fun a'=>wpList P l.toArray Q (l.drop k) a' w1) (l.take k) n f):WC P (.region id l.toArray true) Q n f w:=
 wp_region_still_tail k hm hB (h _ (Same.drew w 1))
def OS(P:Program)(n:Nw)(f:Fr)(w:World)(o:Oper)(Post:Value->World->Prop):Prop:=
 ∀(K:Act->World->Prop) (Q:Exit->Act->World->Prop),(∀ v w',Post v w'->K ((AF n f).put o.dst v) w')->o.wp P (AF n f) w K Q
theorem qk{Post:Value->World->Prop}(h:RV P n f w ⟨dst,op,ty,pos,af,gd⟩ v w')(hp:Post v w'):OS P n f w ⟨dst,op,ty,pos,af,gd⟩ Post:=by
 intro K Q hK;unfold Oper.wp;rw[jZ];unfold RV at h;rw[h,Oper.upon_value];exact hK _ _ hp
theorem vw{Post:Value->World->Prop}{xs:Array Operand}{ats:Array TypeId}{R:Ending->World->Prop}(hF:zw P F=true)(hc:Calls P F args.toArray w R)(a1:xs.toList.map (ev n f)=args)
  (K:∀ e' w1,R e' w1->∃ v,e'= .returned v/\Post v w1):OS P n f w ⟨dst,.call { callee:= .value (.func F),args:=xs,argTypes:=ats },ty,pos,af,gd⟩ Post:=by
 intro K' Q hK;unfold Oper.wp;rw[jZ];have a2:(execOp (ev n f) ⟨dst,.call { callee:= .value (.func F),args:=xs,argTypes:=ats },ty,pos,af,gd⟩).run P w= .ok (.enter F args.toArray) w:=by
  subst a1;have hm:(xs.toList.map (ev n f)).toArray=xs.map (ev n f):=by rw[<- Array.toList_map,Array.toArray_toList]
  rw[hm];simp[execOp,resolve,ev,Deferred.ofValue,invoke,Xj hF]
 rw[a2,Oper.upon_enter];refine hc.mono fun e' w1 hR=>?_
 obtain⟨v,rfl,hk⟩:=K e' w1 hR;exact hK _ _ hk
theorem MK{o:Oper}{a:Act}{w:World}{K K':Act->World->Prop}{Q Q':Exit->Act->World->Prop}(hk:∀ a w,K a w->K' a w)(hp:∀ c a w,Q (.panic c) a w->Q' (.panic c) a w)(ho:¬LetsOut Q)
  (hh:o.wp P a w K Q):o.wp P a w K' Q':=by
 unfold Oper.wp at *
 generalize (execOp a.eval o).run P w=r at *
 cases r with
 | ok n w'=>
  cases n<;>simp only[Oper.upon]at hh ⊢ <;>
   first
    | exact hk _ _ hh
    | exact Calls.mono hh (fun e w'' he=>by cases e<;>first|exact hk _ _ he|exact hp _ _ _ he|exact absurd he ho)
    | exact Rows.mono hh (fun _ _ he=>hk _ _ he)
 | halt x w'=>cases x<;>simp only[Oper.upon]at hh ⊢ <;> first|exact hp _ _ _ hh|exact hh
def F3(K:Act->World->Prop)(Q:Exit->Act->World->Prop):Exit->Act->World->Prop
 | .normal,a,w=>K a w
 | .outgrown,_,_=>False
 | e,a,w=>Q e a w
theorem jq{Post:Value->World->Prop}(h:∀(ops:Array Oper) (Q:Exit->Act->World->Prop),(∀ v w',Post v w'->WL P ops Q [] n (upd f d v) w')->WL P ops Q [⟨some d,op,ty,pos,af,none⟩] n f w):OS P n f w ⟨some d,op,ty,pos,af,none⟩ Post:=by
 intro K Q hK
 have h1:=h #[] (F3 K Q) (fun v w' hp=>by
  refine wpList_nil ?_;have:=hK v w' hp;rw[K0]at this
  exact this)
 unfold WL wpList at h1;rw[if_pos (by simp[Region.wanted])]at h1;have ho:¬LetsOut (F3 K Q):=fun⟨_,_,h⟩=>h
 rcases h1 with h1|⟨_,h1⟩
 ·exact MK (Q:=F3 K Q) (fun a w h=>h) (fun c a w h=>h) ho h1
 ·exact absurd h1 ho
theorem QJ{p q:Nat->Bool}(h:∀ x,q x=true->p x=true):∀(l:List Nat) (i:Nat),i∈l->p i=true->q i=false->l.countP q<l.countP p
 | [],_,hi,_,_=>by cases hi
 | x::r,i,hi,hp,hq=>by
  have hle:r.countP q<=r.countP p:=List.countP_mono_left (fun x _ hx=>h x hx)
  rcases List.mem_cons.1 hi with rfl|hi
  ·grind
  ·have:=QJ h r i hi hp hq
   grind
def kw(o:Oper):List Nat:=(o.after.toList.filter (fun e=>Region.binds .any e)).map (·.on)
theorem deps_mem{o:Oper}{listed:Array Bool}(h:o.after.all (fun e=>!Region.binds .any e||listed.getD e.on false)=true):∀ j∈kw o,listed.getD j false=true:=by
 grind[kw,Array.all_eq_true_iff_forall_mem]
theorem all_of_deps{o:Oper}{listed:Array Bool}(h:∀ j∈kw o,listed.getD j false=true):o.after.all (fun e=>!Region.binds .any e||listed.getD e.on false)=true:=by
 grind[Array.all_eq_true_iff_forall_mem,kw]
def ky:Value->Option Nat
 | .slice (some a) _ _=>some a.block
 | .pointer (some a)=>some a.block
 | .map (some r)=>some r
 | _=>none
def Frsh(b:Bool)(w' w'':World)(v:Value):Prop:=b=true->∀ g,ky v=some g->w'.heap.size<=g/\g<w''.heap.size
theorem y6{w' w'':World}{v:Value}:Frsh false w' w'' v:=fun h=>by cases h
theorem fRq{fr:Bool}{w' w'':World}{v:Value}(h1:w'.heap.size<=b)(h2:b<w''.heap.size)(e:ky v=some b:=by rfl):Frsh fr w' w'' v:=fun _ g hg=>by rw[e]at hg;cases hg;exact⟨h1,h2⟩
theorem oVq{A:Value->World->Prop}(h:RV P n f w ⟨dst,op,ty,pos,af,gd⟩ v w)(hp:A v w):OS P n f w ⟨dst,op,ty,pos,af,gd⟩ (fun v w''=>Same [] w w''/\A v w''/\Frsh false w w'' v):=qk h ⟨Same.refl _ _,hp,y6⟩
theorem zj{o:Oper}(h:(kw o).contains j=true):j∈kw o:=by simpa using h
theorem zq{o:Oper}{Post:Value->World->Prop}(t:Nat)(v:Value)(h:ev n f (.tmp t)=v)(hv:v≠undef)(K:OS P n (upd f t v) w o Post):OS P n f w o Post:=by
 rwa[o7 (K6 h hv)]at K
theorem a6{o:Oper}(h:(kw o).contains j=true:=by kernel_rfl):j∈kw o:=zj h
theorem aZ{o:Oper}{Post:Value->World->Prop}(t:Nat){v:Value}(h:ev n f (.tmp t)=v)(K:OS P n (upd f t v) w o Post)(hv:v≠undef:=by simp[undef]):OS P n f w o Post:=zq t v h hv K
theorem x8(t:Nat)(v:Value)(h:ev n f (.tmp t)=v)(hv:v≠undef)(K:WL P ops Q l n (upd f t v) w):WL P ops Q l n f w:=by
 rwa[o7 (K6 h hv)]at K
theorem jz{w:World}{t t':TypeId}(h:Blk w b t cs)(h':Blk w b t' cs'):t=t':=by
 grind[Blk]
end
attribute [irreducible] WL WC EX WS OS RV
theorem gk{ops:Array Oper}{Q:Exit->Act->World->Prop}{n:Nw}{f f0:Fr}{t:Nat}{b:Bool}(h:Value.bool a= .bool b)(he:ev n f (.tmp t)= .bool a:=by rfl)(ha:Ag S f f0:=by repeat (first|exact Ok|exact L5|refine L4 rfl ?_|refine ag_sub rfl ?_|refine ag_kn (by assumption) ?_)):WL P ops (QR n (fun f' w'=>w'=w/\Ag S f' f0/\ev n f' (.tmp t)= .bool b) Q) [] n f w:=qY (e_R ⟨rfl,ha,he.trans h⟩)
theorem xq{ops:Array Oper}{Q:Exit->Act->World->Prop}{n:Nw}{f f0:Fr}{t:Nat}{b:Bool}(he:ev n f (.tmp t)= .bool a:=by rfl)(h:Value.bool a= .bool b:=by first|exact congrArg Value.bool (decide_eq_true (by omega)).symm|exact congrArg Value.bool (decide_eq_false (by omega)).symm|exact congrArg Value.bool (decide_eq_decide.2 (by omega))|exact congrArg Value.bool ((decide_not).symm.trans (decide_eq_decide.2 (by omega))))(ha:Ag S f f0:=by repeat (first|exact Ok|exact L5|refine L4 rfl ?_|refine ag_sub rfl ?_|refine ag_kn (by assumption) ?_)):WL P ops (QR n (fun f' w'=>w'=w/\Ag S f' f0/\ev n f' (.tmp t)= .bool b) Q) [] n f w:=gk h he ha
theorem vy{ops:Array Oper}{Q:Exit->Act->World->Prop}{n:Nw}{f:Fr}{t:TypeId}{pos:String}{af:Array Edge}{k0 k1:IntKind}{a b:Int}(K:WL P ops Q rest n (upd f d (.agg #[.int k0 a,.int k1 b])) w)(h0:ev n f x0= .int k0 a:=by rfl)(h1:ev n f x1= .int k1 b:=by rfl)(hk:P.built t [(j0,.int k0 a),(j1,.int k1 b)]=some #[.int k0 a,.int k1 b]:=by kernel_rfl):WL P ops Q (⟨some d,.build t #[(j0,x0),(j1,x1)],ty,pos,af,none⟩::rest) n f w:=wl (Q5 (fun v0 v1=>#[v0,v1]) h0 h1 hk) K
theorem qv{ops:Array Oper}{Q:Exit->Act->World->Prop}{n:Nw}{f:Fr}{t:TypeId}{pos:String}{af:Array Edge}{x:Operand}(hx:ev n f x= .agg cs)(K:∀ b w1,Blk w1 b t cs->Same [] w w1->w.heap.size<=b->WL P ops Q rest n (upd f d (.pointer (some ⟨b,0,none⟩))) w1):WL P ops Q (⟨some d,.box t x,ty,pos,af,none⟩::rest) n f w:=wl_bx (v:= .agg cs) (cs:=cs) hx rfl K
theorem jW{ops:Array Oper}{Q:Exit->Act->World->Prop}{n:Nw}{f:Fr}{t:TypeId}{pos:String}{af:Array Edge}(K:WL P ops Q rest n (upd f d (.agg cs)) w)(hk:P.built t []=some cs:=by kernel_rfl):WL P ops Q (⟨some d,.build t #[],ty,pos,af,none⟩::rest) n f w:=wl (Tx (vs:=#[]) (cs:=cs) (by simp) hk) K
theorem enT{n:Nat}{fn:Func}{c:Code}{args:Array Value}{R:Ending->World->Prop}(hf:P.funcs[F]? =some fn)(hn:fn.ntmps=n)(hb:fn.body=some c)(hz:Nat.ble args.size n=true)
 (h:Bel w w->WC P c (bodyPost P fn R) (nw0 n) (fArgs args.toList) w):Calls P F args w R:=enter hf hn hb (Nat.le_of_ble_eq_true hz) (h (Below.refl _ _))
end Go.Proofs.YtndbjnkilegebaaGreatDoor
