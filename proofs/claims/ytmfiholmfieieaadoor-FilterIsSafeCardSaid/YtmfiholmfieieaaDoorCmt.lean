/- Plain laws, and steps of programs, at every world. -/
import Derived.Test.YtmfiholmfieieaaDoorTxt
import Derived.Laws.RangeAny
import Derived.Scope
import Derived.Lib.RuneCount
import Derived.Lib.DecodeNEq
import Derived.Test.YtmfiholmfieieaaDoorComp
namespace Go.Proofs.YtmfiholmfieieaaDoor
open Go.RowKit
variable {A:Option Addr}{a b c i k nx p:Nat}{dst:Option Tmp}{f:Int}{fs:List Ft}{g:List Nd}{gd:Option (Nat×Bool)}{l:List Ty}{s:ByteArray}{w w':World}
section
def ItIn(w:World)(b:Nat)(s:ByteArray)(p:Nat):Prop:=w.heap[b]? =some (.stringIter s p)
section it
variable {w w':World} {b p:Nat} {s:ByteArray} {X:List Nat}
theorem ItIn.lt(h:ItIn w b s p):b<w.heap.size:=jV h
theorem ItIn.tr(h:ItIn w b s p)(hs:Same X w w')(hx:b∉X):ItIn w' b s p:=(hs.blk b h.lt hx).trans h
theorem ItIn.tr0(h:ItIn w b s p)(hs:Same [] w w'):ItIn w' b s p:=h.tr hs (by simp)
theorem ItIn.tr1(h:ItIn w b s p)(hs:Same [c] w w')(hne:b≠c):ItIn w' b s p:=h.tr hs (by simpa using hne)
end it
section rules
variable {P:Program} {Q:Exit->Act->World->Prop} {n:Nw} {f:Fr} {w w':World} {ops:Array Oper} {rest:List Oper} {d:Nat} {ty:TypeId} {pos:String} {af:Array Edge} {x y z:Operand} {t t' e:TypeId}
theorem wl_rg(hu:P.underlying t=some .string)(hx:ev n f x= .string s)
  (K:∀ b w1,ItIn w1 b s 0->Same [] w w1->w.heap.size<=b->WL P ops Q rest n (upd f d (.pointer (some ⟨b,0,none⟩))) w1):WL P ops Q (⟨some d,.range t x,ty,pos,af,none⟩::rest) n f w:=by
 refine wl (v:= .pointer (some ⟨w.heap.size,0,none⟩)) (w':=w.iter s 0) ?_ (K _ _ (World.iter_heap w s 0) (oJ w _) (ae _));simp only[RV,execOp,hx,run_range_string w t s hu,Sem.run_bind,Result.andThen_ok];simp
theorem run_nx(h:ItIn w b s p)(hp:p<s.size):
  (Instr.next (.pointer (some ⟨b,0,none⟩)) true ty).run P w= .ok (.tuple #[.bool true,.int .i64 p,.int .i32 ((Utf8.decode s p).1:Nat)]) { w with heap:=w.heap.setIfInBounds b (.stringIter s (p+(Utf8.decode s p).2)) }:=by
 have h':w.heap[b]? =some (.stringIter s p):=h;simp only[Instr.next,getObj,setObj,Sem.run_bind,Sem.run,h',Result.andThen,hp,if_true];simp[goInt]
theorem same_setO(w:World)(b:Nat)(o:Obj):Same [b] w { w with heap:=w.heap.setIfInBounds b o }:=
 ⟨rfl,rfl,rfl,by simp,fun k _ hx=>by
  have:k≠b:=fun e=>hx (aj.2 e)
  simp[Ne.symm this]⟩
theorem wl_nx(h:ItIn w b s p)(hx:ev n f x= .pointer (some ⟨b,0,none⟩))(hp:p<s.size)
  (K:∀ w1,ItIn w1 b s (p+(Utf8.decode s p).2)->Same [b] w w1->WL P ops Q rest n (upd f d (.tuple #[.bool true,.int .i64 ((p:Nat):Int),.int .i32 (((Utf8.decode s p).1:Nat):Int)])) w1):WL P ops Q (⟨some d,.next x true,ty,pos,af,none⟩::rest) n f w:=by
 refine wl (v:= .tuple #[.bool true,.int .i64 p,.int .i32 ((Utf8.decode s p).1:Nat)]) (w':={ w with heap:=w.heap.setIfInBounds b (.stringIter s (p+(Utf8.decode s p).2)) }) ?_ (K _ ?_ (same_setO w b _))
 ·simp only[RV,execOp,hx,run_nx h hp,Sem.run_bind,Result.andThen_ok]
  simp
 ·show (w.heap.setIfInBounds b _)[b]? =_
  have:=h.lt;simp[this]
theorem r_ne(h:ItIn w b s p)(hx:ev n f x= .pointer (some ⟨b,0,none⟩))(hp:¬p<s.size):RV P n f w ⟨dst,.next x true,ty,pos,af,gd⟩ (.tuple #[.bool false]) w:=by
 have h':w.heap[b]? =some (.stringIter s p):=h;have h2:(Instr.next (.pointer (some ⟨b,0,none⟩)) true ty).run P w= .ok (.tuple #[.bool false]) w:=by
  simp[Instr.next,getObj,Sem.run,h',hp]
 simp only[RV,execOp,hx,h2,Sem.run_bind,Result.andThen_ok];simp
theorem Mw{k k':IntKind}{a:Int}{dd:TypeDesc}(hs:P.underlying t=some dd)(hd:P.underlying t'=some (.int k'))(hx:ev n f x= .int k a)(ha:k'.wrap a=a):
  RV P n f w ⟨dst,.convert t t' x,ty,pos,af,gd⟩ (.int k' a) w:=by
 simp[RV,execOp,hx,convert,run_underlying hs,run_underlying hd,Conv.intToInt,ha]
theorem Iz{kb:IntKind}(hx:ev n f x= .int .u64 (a:Int))(hy:ev n f y= .int kb (b:Int))(hb:b<64)(ha:a*2^b<18446744073709551616)(hc:a*2^b=c):
  RV P n f w ⟨dst,.binOp .shl t x y t',ty,pos,af,gd⟩ (.int .u64 (c:Int)) w:=by
 subst hc;have h1:min b 64=b:=by omega
 have h2:IntKind.u64.wrap ((a:Int)*2^b)=((a*2^b:Nat):Int):=by
  rw[IntKind.wrap_u64];have:((a:Int)*2^b)=((a*2^b:Nat):Int):=by simp
  rw[this]
  generalize a*2^b=c at ha
  omega
 have h0:¬((b:Int)<0):=by omega
 simp only[RV,execOp,hx,hy,eqGuard,binOp,Op.shift,IntKind.bits,if_neg h0,Int.toNat_natCast,h1,h2];rfl
theorem r_shr8{kb:IntKind}(hx:ev n f x= .int .u8 (a:Int))(hy:ev n f y= .int kb (b:Int))(hb:b<8)(hc:a/2^b=c):
  RV P n f w ⟨dst,.binOp .shr t x y t',ty,pos,af,gd⟩ (.int .u8 (c:Int)) w:=by
 subst hc;have h1:min b 8=b:=by omega
 have h2:(a:Int).fdiv (2^b)=((a/2^b:Nat):Int):=by
  rw[Int.fdiv_eq_ediv_of_nonneg _ (by exact Int.le_of_lt (Int.pow_pos dE))];simp
 have h0:¬((b:Int)<0):=by omega
 simp only[RV,execOp,hx,hy,eqGuard,binOp,Op.shift,IntKind.bits,if_neg h0];simp[h1,h2]
theorem u8_and7:∀ a:Nat,a<256->bits .and .u8 (a:Int) 7=((a%8:Nat):Int):=by decide +kernel
theorem r_and7(hx:ev n f x= .int .u8 (a:Int))(hy:ev n f y= .int .u8 7)(ha:a<256):
  RV P n f w ⟨dst,.binOp .and t x y t',ty,pos,af,gd⟩ (.int .u8 ((a%8:Nat):Int)) w:=by
 have:=u8_and7 a ha;simp only[RV,execOp,hx,hy,eqGuard,binOp];simp[go_sem,this]
theorem r_rstr{r:Int}(hs:P.underlying t=some (.int .i32))(hd:P.underlying t'=some .string)(hx:ev n f x= .int .i32 r):
  RV P n f w ⟨dst,.convert t t' x,ty,pos,af,gd⟩ (.string (Utf8.encode r)) w:=by
 simp[RV,execOp,hx,convert,run_underlying hs,run_underlying hd,Conv.intToString]
def QN(Q:Exit->Act->World->Prop):Exit->Act->World->Prop:=Exit.noGoto Q
theorem c_scope{c:Code}(h:WC P c (QN Q) n f w):WC P (.scope c) Q n f w:=by
 unfold WC at h ⊢;exact wp_scope_straight h
theorem e_Nr(h:EX Q .ret n f w):EX (QN Q) .ret n f w:=by unfold EX at h ⊢;exact h
end rules
end
def gb(s:ByteArray)(k:Nat):Nat:=(s.get! k).toNat
theorem Z9(s:ByteArray)(k:Nat):gb s k<256:=(s.get! k).toNat_lt
theorem gb_at(h:k<s.size):(s[k]'h).toNat=gb s k:=by
 unfold gb;rw[show s.get! k=s[k]'h from get_at s k h]
theorem gb_bl(s:ByteArray)(k:Nat):gb s k=((bl s).getD k 0).toNat:=by
 unfold gb bl
 congr 1
 simp only[ByteArray.get!,List.getD];rw[Array.getElem?_toList];cases h:s.data[k]? with
 | none=>rw[getElem!_def,h];rfl
 | some c=>rw[getElem!_def,h];rfl
theorem Dy(p:Nat)(s:ByteArray)(k:Nat):gb (sdr p s) k=gb s (p+k):=by
 rw[gb_bl,gb_bl,K8];simp[List.getD]
def wdt(s:ByteArray)(p:Nat):Nat:=(Utf8.decode s p).2
def C9(s:ByteArray)(p:Nat):Bool:=decide (gb s p<128)||decide (2<=wdt s p)
theorem TK(s:ByteArray)(p:Nat):Utf8.decode s p=Lib.decodeN (s.size-p) (gb s p) (gb s (p+1)) (gb s (p+2)) (gb s (p+3)):=Lib.decode_at s p
theorem Oy(h:gb s p<128):wdt s p=1/\(Utf8.decode s p).1=gb s p:=by
 unfold wdt;rw[TK];unfold Lib.decodeN;rw[if_pos h];exact⟨rfl,rfl⟩
theorem Kq(h:p<s.size):1<=wdt s p:=Lib.decode_width_pos s p h
theorem dec_high(h:p<s.size)(hb:128<=gb s p):128<=(Utf8.decode s p).1:=(decode_high s p h (by rw[gb_at h];exact hb)).1
theorem Rw{j:Nat}(h1:0<j)(h2:j<wdt s p):128<=gb s (p+j)/\p+j<s.size:=by
 unfold wdt at h2;rw[TK]at h2;unfold Lib.decodeN at h2
 split at h2
 ·simp at h2;omega
 ·split at h2
  ·rename_i _ q
   split at h2
   ·obtain rfl:j=1:=by simp at h2;omega
    omega
   ·simp at h2;omega
  ·split at h2
   ·rename_i _ _ q
    split at h2
    ·have:j=1\/j=2:=by simp at h2;omega
     rcases this with rfl|rfl<;>omega
    ·simp at h2;omega
   ·split at h2
    ·rename_i _ _ _ q
     split at h2
     ·have:j=1\/j=2\/j=3:=by simp at h2;omega
      rcases this with rfl|rfl|rfl<;>omega
     ·simp at h2;omega
    ·simp at h2;omega
theorem wdt_le(h:p<s.size):p+wdt s p<=s.size:=by
 by_cases e:wdt s p<=1
 ·omega
 ·have:=(Rw (s:=s) (p:=p) (j:=wdt s p-1) oG oG).2
  omega
def chF(s:ByteArray):Nat->Nat->List Nat
 | 0,_=>[]
 | f+1,p=>if p<s.size then p::chF s f (p+wdt s p)else []
theorem Vk{f:Nat}(h:¬p<s.size):chF s f p= []:=by cases f<;>simp[chF,h]
theorem H7{s:ByteArray}:∀ {f g p:Nat},s.size-p<=f->s.size-p<=g->chF s f p=chF s g p
 | 0,g,p,hf,_=>by rw[Vk oG,Vk oG]
 | f+1,0,p,_,hg=>by rw[Vk oG,Vk oG]
 | f+1,g+1,p,hf,hg=>by
  by_cases h:p<s.size
  ·have:=Kq h
   simp only[chF,if_pos h]
   rw[H7 (f:=f) (g:=g) oG oG]
  ·rw[Vk h,Vk h]
def ch(s:ByteArray)(p:Nat):List Nat:=chF s (s.size-p) p
theorem ch_end(h:¬p<s.size):ch s p= []:=Vk h
theorem OY(h:p<s.size):ch s p=p::ch s (p+wdt s p):=by
 have hw:=Kq h;unfold ch;obtain⟨k,hk⟩:∃ k,s.size-p=k+1:=⟨s.size-p-1,by omega⟩
 rw[hk];simp only[chF,if_pos h];rw[H7 (g:=s.size-(p+wdt s p)) oG (Nat.le_refl _)]
def vq(s:ByteArray)(p:Nat):Bool:=(ch s p).all (C9 s)
theorem vq_end(h:¬p<s.size):vq s p=true:=by unfold vq;rw[ch_end h];rfl
theorem vq_go(h:p<s.size)(ho:C9 s p=true):vq s p=vq s (p+wdt s p):=by
 unfold vq;rw[OY h,List.all_cons,ho,Bool.true_and]
theorem vq_no(h:p<s.size)(ho:C9 s p=false):vq s p=false:=by
 unfold vq;rw[OY h,List.all_cons,ho,Bool.false_and]
theorem vq_low(h:p<s.size)(hb:gb s p<128):vq s p=vq s (p+1):=by
 rw[vq_go h (by unfold C9;rw[decide_eq_true hb];rfl),(Oy hb).1]
theorem OZ{s:ByteArray}:∀ {k p:Nat},p+k<=s.size->(∀ j,j<k->gb s (p+j)<128)->vq s p=vq s (p+k)
 | 0,_,_,_=>rfl
 | k+1,p,h,hb=>by
  rw[vq_low (p:=p) oG (hb 0 oG),OZ (k:=k) (p:=p+1) oG (fun j hj=>by have:=hb (j+1) oG;rwa[show p+(j+1)=p+1+j by omega]at this)]
  congr 1;omega
def spc(c:Nat):Bool:=decide (c=32)||decide (c=9)||decide (c=10)||decide (c=40)||decide (c=41)||decide (c=91)||decide (c=93)||decide (c=44)||decide (c=59)
theorem SV(h:spc c=true):c<128:=by
 unfold spc at h;simp only[Bool.or_eq_true,decide_eq_true_eq]at h;omega
def brd(s:ByteArray)(p:Nat):Bool:=(ch s p).any (fun q=>spc (Utf8.decode s q).1)
theorem TV(h:¬p<s.size):brd s p=false:=by unfold brd;rw[ch_end h];rfl
theorem N9(h:p<s.size):brd s p=(spc (Utf8.decode s p).1||brd s (p+wdt s p)):=by
 unfold brd;rw[OY h,List.any_cons]
theorem brd_byte:∀ {m p k:Nat},s.size-p<=m->p<=k->k<s.size->spc (gb s k)=true->brd s p=true:=by
 intro m
 induction m with
 | zero=>intro p k h1 h2 h3;omega
 | succ m ih=>
  intro p k h1 h2 h3 h4;have hp:p<s.size:=by omega
  have hw:=Kq hp;rw[N9 hp];by_cases e:p=k
  ·subst e
   have hl:=SV h4;rw[(Oy hl).2,h4];rfl
  ·by_cases e2:p+wdt s p<=k
   ·rw[ih (p:=p+wdt s p) (k:=k) oG e2 h3 h4,Bool.or_true]
   ·have:=(Rw (s:=s) (p:=p) (j:=k-p) oG oG).1
    rw[show p+(k-p)=k by omega]at this;have:=SV h4;omega
theorem byte_brd:∀ {m p:Nat},s.size-p<=m->brd s p=true->∃ k,p<=k/\k<s.size/\spc (gb s k)=true:=by
 intro m
 induction m with
 | zero=>intro p h1 h;rw[TV oG]at h;cases h
 | succ m ih=>
  intro p h1 h;by_cases hp:p<s.size
  ·have hw:=Kq hp
   rw[N9 hp,Bool.or_eq_true]at h;rcases h with h|h
   ·refine⟨p,ae _,hp,?_⟩
    by_cases hl:gb s p<128
    ·rwa[(Oy hl).2]at h
    ·have:=dec_high hp oG
     have:=SV h;omega
   ·obtain⟨k,h2,h3,h4⟩:=ih oG h
    exact⟨k,by omega,h3,h4⟩
  ·rw[TV hp]at h;cases h
def oW(s:ByteArray):Bool:=decide (1<=(ch s 0).length)&&decide ((ch s 0).length<=30)&&vq s 0 && !brd s 0
theorem ok_bad(hb:128<=gb s p)(h:Lib.firstT (gb s p)%8≠2)(h3:Lib.firstT (gb s p)%8≠3)(h4:Lib.firstT (gb s p)%8≠4):C9 s p=false:=by
 have hc:Lib.firstT (gb s p)=241\/Lib.firstT (gb s p)<240:=by
  generalize gb s p=b at hb
  unfold Lib.firstT;rw[if_neg oG]
  repeat' split
  all_goals omega
 have ht:Lib.firstT (gb s p)=241:=by
  rcases hc with ht|hl
  ·exact ht
  ·exfalso
   rcases Lib.firstT_low hl with q|q|q|q|q|q|q
   ·rw[Lib.firstT_C2 q]at h;exact h rfl
   ·rw[Lib.firstT_E0 q]at h3;exact h3 rfl
   ·rw[Lib.firstT_E1 q]at h3;exact h3 rfl
   ·rw[Lib.firstT_ED q]at h3;exact h3 rfl
   ·rw[Lib.firstT_F0 q]at h4;exact h4 rfl
   ·rw[Lib.firstT_F1 q]at h4;exact h4 rfl
   ·rw[Lib.firstT_F4 q]at h4;exact h4 rfl
 have:wdt s p=1:=by
  unfold wdt;rw[TK,Lib.bad_eq _ _ _ _ _ (Z9 s p) ht]
 unfold C9;rw[this,decide_eq_false oG];rfl
theorem first_256(b:Nat):Lib.firstT b<256:=by
 unfold Lib.firstT
 repeat' split
 all_goals omega
theorem first_lt(h:Lib.firstT (gb s p)%8=2\/Lib.firstT (gb s p)%8=3\/Lib.firstT (gb s p)%8=4):Lib.firstT (gb s p)<240:=by
 have hc:Lib.firstT (gb s p)=240\/Lib.firstT (gb s p)=241\/Lib.firstT (gb s p)<240:=by
  generalize gb s p=b
  unfold Lib.firstT
  repeat' split
  all_goals omega
 omega
def vj(s:ByteArray)(p n:Nat):Prop:=s.size-p<n\/gb s (p+1)<Lib.accLo (Lib.firstT (gb s p)/16)\/Lib.accHi (Lib.firstT (gb s p)/16)<gb s (p+1)\/(3<=n/\(gb s (p+2)<128\/191<gb s (p+2)))\/(4<=n/\(gb s (p+3)<128\/191<gb s (p+3)))
instance(s:ByteArray)(p n:Nat):Decidable (vj s p n):=by unfold vj;infer_instance
theorem ok_n{n:Nat}(hp:p<s.size)(hn:n=2\/n=3\/n=4)(h:Lib.firstT (gb s p)%8=n):(vj s p n->C9 s p=false)/\(¬vj s p n->C9 s p=true/\wdt s p=n):=by
 have hx:=first_lt (s:=s) (p:=p) oG;have hb:128<=gb s p:=by
  by_cases e:gb s p<128
  ·unfold Lib.firstT at hx;rw[if_pos e]at hx;omega
  ·omega
 have he:=Lib.slow_eq (s.size-p) (gb s p) (gb s (p+1)) (gb s (p+2)) (gb s (p+3)) oG (Z9 _ _) (Z9 _ _) (Z9 _ _) hx;rw[h]at he;have hw:wdt s p=(Lib.slowN (s.size-p) (gb s p) (gb s (p+1)) (gb s (p+2)) (gb s (p+3)) n (Lib.accLo (Lib.firstT (gb s p)/16)) (Lib.accHi (Lib.firstT (gb s p)/16))).2:=by
  unfold wdt;rw[TK,he]
 have hok:C9 s p=decide (2<=wdt s p):=by unfold C9;rw[decide_eq_false oG,Bool.false_or]
 constructor
 ·intro hbad
  have:wdt s p=1:=by
   rw[hw];unfold Lib.slowN;unfold vj at hbad
   repeat' split
   all_goals first|rfl|(exfalso;omega)
  rw[hok,this];rfl
 ·intro hbad
  have:wdt s p=n:=by
   rw[hw];unfold Lib.slowN;unfold vj at hbad
   repeat' split
   all_goals first|(exfalso;omega)|(simp only;omega)
  rw[hok,this];exact⟨ah oG,rfl⟩
theorem kQ{P:Program}{n:Nw}{f:Fr}{ty:TypeId}{pos:String}{af:Array Edge}{x y:Operand}{t:TypeId}(hu:P.underlying t=some .string)(hx:ev n f x= .string s)(hy:ev n f y= .int .i64 i)(hi:i<s.size):
  RV P n f w ⟨dst,.index t x y,ty,pos,af,gd⟩ (.int .u8 ((gb s i:Nat):Int)) w:=by
 rw[<- gb_at hi];exact r_ixS hu hx hy hi
theorem EK(h:a<18446744073709551616):IntKind.u64.wrap (a:Int)=a:=by rw[IntKind.wrap_u64];omega
def hiB:Nat:=9259542123273814144
def wo:Nat->ByteArray->Nat
 | 0,s=>gb s 0
 | k+1,s=>wo k s|||(gb s (k+1)*2^(8*(k+1)))
theorem kZ(s:ByteArray):∀ {k:Nat},k<8->wo k s<18446744073709551616
 | 0,_=>by have:=Z9 s 0;unfold wo;omega
 | k+1,h=>by
  have h1:=kZ s (k:=k) oG
  have h2:=Z9 s (k+1)
  have h3:gb s (k+1)*2^(8*(k+1))<2^64:=by
   have:(2:Nat)^64=2^(64-8*(k+1))*2^(8*(k+1)):=by rw[<- Nat.pow_add];congr 1;omega
   rw[this];refine Nat.mul_lt_mul_of_pos_right ?_ (Nat.pow_pos dE);have:(2:Nat)^8<=2^(64-8*(k+1)):=Nat.pow_le_pow_right dE oG;omega
  exact aT (n:=64) h1 h3
theorem DW(h:(a|||b)&&&c=0):a&&&c=0/\b&&&c=0:=by
 constructor<;>refine Nat.eq_of_testBit_eq (fun i=>?_)<;>(have:=congrArg (fun z=>z.testBit i) h;simp at this ⊢;grind)
theorem wo_z(s:ByteArray):∀ {k:Nat},k<8->wo k s&&&hiB=0->∀ j,j<=k->gb s j<128
 | 0,_,h,j,hj=>by
  obtain rfl:j=0:=by omega
  have h1:=Z9 s 0
  have h2:=congrArg (fun z=>z.testBit 7) h
  simp only[wo,Nat.testBit_and,Nat.zero_testBit]at h2
  have h3:hiB.testBit 7=true:=by decide
  rw[h3,Bool.and_true,Nat.testBit_eq_decide_div_mod_eq]at h2
  simp at h2
  omega
 | k+1,hk,h,j,hj=>by
  obtain⟨h1,h2⟩:=DW h
  by_cases e:j=k+1
  ·subst e
   have h3:=Z9 s (k+1)
   have h4:=congrArg (fun z=>z.testBit (8*(k+1)+7)) h2
   have h5:hiB.testBit (8*(k+1)+7)=true:=by
    have:∀ k,k<8->hiB.testBit (8*k+7)=true:=by decide
    exact this (k+1) hk
   simp only[Nat.testBit_and,Nat.zero_testBit,h5,Bool.and_true,Nat.testBit_mul_two_pow]at h4;rw[Nat.add_sub_cancel_left,Nat.testBit_eq_decide_div_mod_eq]at h4;simp at h4;omega
  ·exact wo_z s oG h1 j oG
theorem Z4(a p:Nat)(s:ByteArray):sdr a (sdr p s)=sdr (p+a) s:=bl_ext (by rw[K8,K8,K8,List.drop_drop])
theorem asc8(h:wo 7 (sdr p s)&&&hiB=0):∀ j,j<8->gb s (p+j)<128:=fun j hj=>by
 rw[<- Dy];exact wo_z _ dE h j oG
theorem asc16(h:(wo 7 (sdr p s)|||wo 7 (sdr 8 (sdr p s)))&&&hiB=0):∀ j,j<16->gb s (p+j)<128:=fun j hj=>by
 obtain⟨h1,h2⟩:=DW h
 rw[Z4]at h2
 by_cases e:j<8
 ·exact asc8 h1 j e
 ·have:=asc8 h2 (j-8) oG
  rwa[show p+8+(j-8)=p+j by omega]at this
theorem asc32(h:((wo 7 (sdr p s)|||wo 7 (sdr 8 (sdr p s)))|||(wo 7 (sdr 16 (sdr p s))|||wo 7 (sdr 24 (sdr p s))))&&&hiB=0):∀ j,j<32->gb s (p+j)<128:=fun j hj=>by
 obtain⟨h1,h2⟩:=DW h
 by_cases e:j<16
 ·exact asc16 h1 j e
 ·have h3:(wo 7 (sdr (p+16) s)|||wo 7 (sdr 8 (sdr (p+16) s)))&&&hiB=0:=by
   rw[Z4,Z4]at h2;rw[Z4];exact h2
  have:=asc16 h3 (j-16) oG
  rwa[show p+16+(j-16)=p+j by omega]at this
def U8In(w:World):Prop:=(1<w.heap.size/\∀ k,k<256->w.cell? ⟨1,0+k*1,none⟩=some (.int .u8 ((Lib.firstT k:Nat):Int)))/\2<w.heap.size/\∀ k,k<16->w.rangeAt 2 (0+k*2) [.int .u8 ((Lib.accLo k:Nat):Int),.int .u8 ((Lib.accHi k:Nat):Int)]
theorem U8In.mono(h:U8In w)(hb:Bel w w'):U8In w':=⟨⟨nLL h.1.1 hb.size,fun k hk=>hb.cell h.1.1 (h.1.2 k hk)⟩,nLL h.2.1 hb.size,fun k hk=>hb.range h.2.1 (h.2.2 k hk)⟩
def CH:ByteArray:=⟨#[32,9,10,40,41,91,93,44,59]⟩
theorem ch_lt:∀ i,i<9->gb CH i<128:=by decide +kernel
theorem ch_ix:∀ c,c<256->decide (0<=Lib.indexByte (bl CH) c.toUInt8)=spc c:=by decide +kernel
def chs(k x:Nat):Bool:=(List.range k).any (fun j=>decide (gb CH j=x))
theorem chs_all:∀ x,x<256->chs 9 x=spc x:=by decide +kernel
theorem chs_step(k x:Nat):chs (k+1) x=if x=gb CH k then true else chs k x:=by
 unfold chs;rw[List.range_succ,List.any_append];by_cases h:x=gb CH k
 ·simp[h]
 ·simp[h,Ne.symm h]
theorem run_ixb{P:Program}{F:FuncId}{fn:Func}{c:Int}(hf:P.funcs[F]? =some fn)(a1:(fn.name == "runtime.NumGoroutine")=false)(hb:fn.body.isNone=true)(hn:Extern.findNext fn=none)(he:Extern.find fn=some Extern.BytealgIndexByte.indexByte):
  (callFunc F #[.string s,.int .u8 c]).run P w= .ok (.value (.int .i64 (Lib.indexByte (bl s) c.toNat.toUInt8))) w:=by
 rw[run_callFunc_extern hf a1 hb hn he,Lib.run_indexByteString];rfl
theorem ixb_none{l:List UInt8}{c:UInt8}(h:¬c∈l):Lib.indexByte l c<0:=by
 by_cases e:Lib.indexByte l c<0
 ·exact e
 ·obtain⟨m,hm⟩:∃ m:Nat,Lib.indexByte l c=m:=⟨(Lib.indexByte l c).toNat,by omega⟩
  obtain⟨_,_,h3⟩:=ixb_pos hm;exact absurd (by rw[h3];simp) h
theorem enc_hi{r:Nat}(h:128<=r):2<=(Utf8.encode (r:Int)).size/\(Utf8.encode (r:Int)).size<=4/\∀ i,i<(Utf8.encode (r:Int)).size->128<=gb (Utf8.encode (r:Int)) i:=by
 have key:∀ c:Nat,128<=c->c<=1114111->∀ e:ByteArray,e=(if c<0x80 then ⟨#[UInt8.ofNat c]⟩else if c<0x800 then ⟨#[UInt8.ofNat (0xC0+c/64),UInt8.ofNat (0x80+c%64)]⟩else if c<0x10000 then ⟨#[UInt8.ofNat (0xE0+c/4096),UInt8.ofNat (0x80+c/64%64),UInt8.ofNat (0x80+c%64)]⟩else ⟨#[UInt8.ofNat (0xF0+c/262144),UInt8.ofNat (0x80+c/4096%64),UInt8.ofNat (0x80+c/64%64),UInt8.ofNat (0x80+c%64)]⟩)->2<=e.size/\e.size<=4/\∀ i,i<e.size->128<=gb e i:=by
  intro c h1 h2 e he;have u8:∀ n:Nat,128<=n->n<256->128<=(UInt8.ofNat n).toNat:=fun n a b=>by rw[UInt8.toNat_ofNat_of_lt' (by exact b)];exact a
  rw[if_neg oG]at he
  split at he
  ·subst he
   refine⟨ae _,by show 2<=4;decide,fun i hi=>?_⟩
   match i,hi with
   | 0,_=>exact u8 _ oG oG
   | 1,_=>exact u8 _ oG oG
  ·split at he
   ·subst he
    refine⟨by show 2<=3;decide,by show 3<=4;decide,fun i hi=>?_⟩
    match i,hi with
    | 0,_=>exact u8 _ oG oG
    | 1,_=>exact u8 _ oG oG
    | 2,_=>exact u8 _ oG oG
   ·subst he
    refine⟨by show 2<=4;decide,ae _,fun i hi=>?_⟩
    match i,hi with
    | 0,_=>exact u8 _ oG oG
    | 1,_=>exact u8 _ oG oG
    | 2,_=>exact u8 _ oG oG
    | 3,_=>exact u8 _ oG oG
 refine key (if Utf8.valid (r:Int)then (r:Int).toNat else Utf8.runeError) ?_ ?_ _ rfl
 ·split
  ·exact h
  ·decide
 ·split
  ·rename_i hv
   unfold Utf8.valid at hv;simp at hv;omega
  ·decide
section
abbrev cG:Array Value:=#[.string ⟨#[]⟩,.slice none 0 0,.int .i64 0,.int .i64 0,.string ⟨#[]⟩,.int .i64 0,.string ⟨#[]⟩,.slice none 0 0,.slice none 0 0]
abbrev cF:Array Value:=#[.string ⟨#[]⟩,.slice none 0 0,.int .i64 0,.int .i64 0,.int .i64 0,.string ⟨#[]⟩,.int .i64 0,.string ⟨#[]⟩,.slice none 0 0,.slice none 0 0]
structure Rl where
 name:ByteArray
 gr:List Nd
 kids:Int
 wt:Int
 mean:Tm
structure Lx where
 word:ByteArray
 gr:List Nd
 wt:Int
 mean:Tm
def RlIn(w:World)(b o:Nat)(r:Rl):Prop:=∃ G cg S cs B m,w.rangeAt b o [.string r.name,.slice G r.gr.length cg,.int .i64 r.kids,.int .i64 r.wt,.int .i64 r.mean.kind,.string r.mean.name,.int .i64 r.mean.index,.string r.mean.type.base,.slice S r.mean.type.args.length cs,.slice B r.mean.args.length m]/\NodesIn w G r.gr/\SimsIn w S r.mean.type.args/\TmsIn w B r.mean.args
def RulesIn(w:World)(A:Option Addr)(l:List Rl):Prop:=
 l.length<=vJ/\(l≠[]->∃ b o,A=some ⟨b,o,none⟩/\b<w.heap.size/\∀ k (h:k<l.length),RlIn w b (o+k*10) l[k])
def LxIn(w:World)(b o:Nat)(r:Lx):Prop:=r.word.size<9223372036854775807/\∃ G cg S cs B m,w.rangeAt b o [.string r.word,.slice G r.gr.length cg,.int .i64 r.wt,.int .i64 r.mean.kind,.string r.mean.name,.int .i64 r.mean.index,.string r.mean.type.base,.slice S r.mean.type.args.length cs,.slice B r.mean.args.length m]/\NodesIn w G r.gr/\SimsIn w S r.mean.type.args/\TmsIn w B r.mean.args
def LexesIn(w:World)(A:Option Addr)(l:List Lx):Prop:=
 l.length<=vJ/\(l≠[]->∃ b o,A=some ⟨b,o,none⟩/\b<w.heap.size/\∀ k (h:k<l.length),LxIn w b (o+k*9) l[k])
theorem RlIn.mono{w w':World}{b o:Nat}{r:Rl}(h:RlIn w b o r)(hb:Bel w w')(hl:b<w.heap.size):RlIn w' b o r:=by
 obtain⟨G,cg,S,cs,B,m,h1,h2,h3,h4⟩:=h;exact⟨G,cg,S,cs,B,m,hb.range hl h1,h2.mono hb,h3.mono hb,h4.mono hb⟩
theorem LxIn.mono{w w':World}{b o:Nat}{r:Lx}(h:LxIn w b o r)(hb:Bel w w')(hl:b<w.heap.size):LxIn w' b o r:=by
 obtain⟨h0,G,cg,S,cs,B,m,h1,h2,h3,h4⟩:=h;exact⟨h0,G,cg,S,cs,B,m,hb.range hl h1,h2.mono hb,h3.mono hb,h4.mono hb⟩
theorem RulesIn.mono{w w':World}{A:Option Addr}{l:List Rl}(h:RulesIn w A l)(hb:Bel w w'):RulesIn w' A l:=
 ⟨h.1,fun hn=>by
  obtain⟨b,o,e,hl,hc⟩:=h.2 hn
  exact⟨b,o,e,nLL hl hb.size,fun k hk=>(hc k hk).mono hb hl⟩⟩
theorem LexesIn.mono{w w':World}{A:Option Addr}{l:List Lx}(h:LexesIn w A l)(hb:Bel w w'):LexesIn w' A l:=
 ⟨h.1,fun hn=>by
  obtain⟨b,o,e,hl,hc⟩:=h.2 hn
  exact⟨b,o,e,nLL hl hb.size,fun k hk=>(hc k hk).mono hb hl⟩⟩
theorem RulesIn.at_{l:List Rl}(h:RulesIn w A l)(hb:Bel w w')(hk:k<l.length):
  ∃ b o G cg S cs B m,A=some ⟨b,o,none⟩/\b<w.heap.size/\w'.rangeAt b (o+k*10) [Value.string (l[k]).name,.slice G (l[k]).gr.length cg,.int .i64 (l[k]).kids,.int .i64 (l[k]).wt,.int .i64 (l[k]).mean.kind,.string (l[k]).mean.name,.int .i64 (l[k]).mean.index,.string (l[k]).mean.type.base,.slice S (l[k]).mean.type.args.length cs,.slice B (l[k]).mean.args.length m]/\NodesIn w G (l[k]).gr/\SimsIn w S (l[k]).mean.type.args/\TmsIn w B (l[k]).mean.args:=by
 obtain⟨b,o,e,hl,hc⟩:=h.2 (by rintro rfl;simp at hk);obtain⟨G,cg,S,cs,B,m,h1,h2,h3,h4⟩:=hc k hk;exact⟨b,o,G,cg,S,cs,B,m,e,hl,hb.range hl h1,h2,h3,h4⟩
theorem LexesIn.at_{l:List Lx}(h:LexesIn w A l)(hb:Bel w w')(hk:k<l.length):
  ∃ b o G cg S cs B m,A=some ⟨b,o,none⟩/\b<w.heap.size/\(l[k]).word.size<9223372036854775807/\w'.rangeAt b (o+k*9) [Value.string (l[k]).word,.slice G (l[k]).gr.length cg,.int .i64 (l[k]).wt,.int .i64 (l[k]).mean.kind,.string (l[k]).mean.name,.int .i64 (l[k]).mean.index,.string (l[k]).mean.type.base,.slice S (l[k]).mean.type.args.length cs,.slice B (l[k]).mean.args.length m]/\NodesIn w G (l[k]).gr/\SimsIn w S (l[k]).mean.type.args/\TmsIn w B (l[k]).mean.args:=by
 obtain⟨b,o,e,hl,hc⟩:=h.2 (by rintro rfl;simp at hk);obtain⟨h0,G,cg,S,cs,B,m,h1,h2,h3,h4⟩:=hc k hk;exact⟨b,o,G,cg,S,cs,B,m,e,hl,h0,hb.range hl h1,h2,h3,h4⟩
def plN(g:List Nd)(k:Int)(f:Nat):Bool:=decide ((0:Int)<=tgt (E8 g 0).ln (f:Int))==decide ((f:Int)<=k)
def uK(g:List Nd)(k:Int):Bool:=(List.range 4).all (plN g k)
theorem nd_zero(h:0<g.length):E8 g 0=g[0]:=by simp[E8,List.getD,h]
theorem pl_yes{k:Int}(h:∀ f,f<4->plN g k f=true):uK g k=true:=aB.2 fun f hf=>h f (av.1 hf)
theorem pl_no{k:Int}{f:Nat}(hf:f<4)(h:plN g k f=false):uK g k=false:=by
 grind[uK]
theorem plN_of{k:Int}{f:Nat}(h:0<g.length):plN g k f=(decide ((0:Int)<=tgt (g[0]).ln (f:Int))==decide ((f:Int)<=k)):=by unfold plN;rw[nd_zero h]
def Vv(r:Rl):Prop:=r.kids<1\/3<r.kids\/r.wt<0\/1000000<r.wt
instance(r:Rl):Decidable (Vv r):=by unfold Vv;infer_instance
noncomputable def JZ(l:List Ty)(fs:List Ft)(r:Rl):Int:=if Vv r then 3 else if (xy l fs r.gr).1≠0 then (xy l fs r.gr).1 else if uK r.gr r.kids=true then (tmF r.mean).1 else 5
theorem LW{r:Rl}(h:Vv r):JZ l fs r=3:=if_pos h
theorem rl_gr{r:Rl}(h:¬Vv r)(h2:¬(xy l fs r.gr).1=0):JZ l fs r=(xy l fs r.gr).1:=by unfold JZ;rw[if_neg h,if_pos h2]
theorem rl_pl{r:Rl}(h:¬Vv r)(h2:(xy l fs r.gr).1=0)(h3:uK r.gr r.kids=false):JZ l fs r=5:=by unfold JZ;rw[if_neg h,if_neg (fun e=>e h2),h3];rfl
theorem rl_ok{r:Rl}(h:¬Vv r)(h2:(xy l fs r.gr).1=0)(h3:uK r.gr r.kids=true):JZ l fs r=(tmF r.mean).1:=by unfold JZ;rw[if_neg h,if_neg (fun e=>e h2),if_pos h3]
def O2(r:Lx):Prop:=r.wt<0\/1000000<r.wt
instance(r:Lx):Decidable (O2 r):=by unfold O2;infer_instance
noncomputable def D9(l:List Ty)(fs:List Ft)(r:Lx):Int:=if oW r.word=false then 10 else if O2 r then 3 else if (xy l fs r.gr).1≠0 then (xy l fs r.gr).1 else (tmF r.mean).1
theorem lx_word{r:Lx}(h:oW r.word=false):D9 l fs r=10:=if_pos h
theorem lx_bad{r:Lx}(h0:oW r.word=true)(h:O2 r):D9 l fs r=3:=by unfold D9;rw[h0,if_neg dE,if_pos h]
theorem lx_gr{r:Lx}(h0:oW r.word=true)(h:¬O2 r)(h2:¬(xy l fs r.gr).1=0):D9 l fs r=(xy l fs r.gr).1:=by unfold D9;rw[h0,if_neg dE,if_neg h,if_pos h2]
theorem lx_ok{r:Lx}(h0:oW r.word=true)(h:¬O2 r)(h2:(xy l fs r.gr).1=0):D9 l fs r=(tmF r.mean).1:=by unfold D9;rw[h0,if_neg dE,if_neg h,if_neg (fun e=>e h2)]
theorem HQ(h:(xy l fs g).1=0):(vV l.length fs.length g).1=0:=by
 grind[h1,vV,P8]
noncomputable def u6(l:List Ty)(fs:List Ft)(rs:List Rl)(i:Nat):Int:=match rs[i]? with
 | none=>0
 | some r=>if yQ r.name=false then 10 else if oX ((rs.take i).map (·.name)) r.name=true then 7 else JZ l fs r
noncomputable def Ex(l:List Ty)(fs:List Ft)(xs:List Lx)(i:Nat):Int:=match xs[i]? with
 | none=>0
 | some r=>D9 l fs r
theorem rn10{rs:List Rl}(hi:i<rs.length)(h:yQ (rs[i]).name=false):u6 l fs rs i=10:=by
 simp only[u6,List.getElem?_eq_getElem hi,if_pos h]
theorem rn7{rs:List Rl}(hi:i<rs.length)(h:yQ (rs[i]).name=true)(h2:oX ((rs.take i).map (·.name)) (rs[i]).name=true):u6 l fs rs i=7:=by
 simp only[u6,List.getElem?_eq_getElem hi];rw[h,if_neg dE,if_pos h2]
theorem rnF{rs:List Rl}(hi:i<rs.length)(h:yQ (rs[i]).name=true)(h2:oX ((rs.take i).map (·.name)) (rs[i]).name=false):u6 l fs rs i=JZ l fs rs[i]:=by
 simp only[u6,List.getElem?_eq_getElem hi];rw[h,if_neg dE,h2,if_neg dE]
theorem lnF{xs:List Lx}(hi:i<xs.length):Ex l fs xs i=D9 l fs xs[i]:=by
 simp only[Ex,List.getElem?_eq_getElem hi]
noncomputable def x5(l:List Ty)(fs:List Ft)(rs:List Rl)(xs:List Lx)(st:List Nd):Fl:=
 if (qz l fs).1≠0 then qz l fs else if fs.length<=3 then (9,-1)else if 40<rs.length\/100<xs.length then (2,-1)
 else if (qJ (u6 l fs rs) 0 rs.length).1≠0 then qJ (u6 l fs rs) 0 rs.length else if (qJ (Ex l fs xs) 0 xs.length).1≠0 then qJ (Ex l fs xs) 0 xs.length
 else if (xy l fs st).1≠0 then ((xy l fs st).1,-1)else (0,0)
variable {l:List Ty} {fs:List Ft} {rs:List Rl} {xs:List Lx} {st:List Nd}
theorem N2(h:¬(qz l fs).1=0):x5 l fs rs xs st=((qz l fs).1,(qz l fs).2):=if_pos h
theorem Dw(h:(qz l fs).1=0)(h2:fs.length<=3):x5 l fs rs xs st=(9,-1):=by unfold x5;rw[if_neg (fun e=>e h),if_pos h2]
theorem N1(h:(qz l fs).1=0)(h2:¬fs.length<=3)(h3:40<rs.length\/100<xs.length):x5 l fs rs xs st=(2,-1):=by unfold x5;rw[if_neg (fun e=>e h),if_neg h2,if_pos h3]
theorem KW{c i:Int}(h:(qz l fs).1=0)(h2:¬fs.length<=3)(h3:¬(40<rs.length\/100<xs.length))(h4:qJ (u6 l fs rs) 0 rs.length=(c,i))(hc:c≠0):x5 l fs rs xs st=(c,i):=by
 unfold x5;rw[if_neg (fun e=>e h),if_neg h2,if_neg h3,h4,if_pos hc]
theorem gr_lex{c i:Int}(h:(qz l fs).1=0)(h2:¬fs.length<=3)(h3:¬(40<rs.length\/100<xs.length))(h4:qJ (u6 l fs rs) 0 rs.length=(0,0))(h5:qJ (Ex l fs xs) 0 xs.length=(c,i))(hc:c≠0):x5 l fs rs xs st=(c,i):=by
 unfold x5;rw[if_neg (fun e=>e h),if_neg h2,if_neg h3,h4,if_neg dE,h5,if_pos hc]
theorem gr_start(h:(qz l fs).1=0)(h2:¬fs.length<=3)(h3:¬(40<rs.length\/100<xs.length))(h4:qJ (u6 l fs rs) 0 rs.length=(0,0))(h5:qJ (Ex l fs xs) 0 xs.length=(0,0))(h6:¬(xy l fs st).1=0):x5 l fs rs xs st=((xy l fs st).1,-1):=by
 unfold x5;rw[if_neg (fun e=>e h),if_neg h2,if_neg h3,h4,if_neg dE,h5,if_neg dE,if_pos h6]
theorem gr_ok(h:(qz l fs).1=0)(h2:¬fs.length<=3)(h3:¬(40<rs.length\/100<xs.length))(h4:qJ (u6 l fs rs) 0 rs.length=(0,0))(h5:qJ (Ex l fs xs) 0 xs.length=(0,0))(h6:(xy l fs st).1=0):x5 l fs rs xs st=(0,0):=by
 unfold x5;rw[if_neg (fun e=>e h),if_neg h2,if_neg h3,h4,if_neg dE,h5,if_neg dE,if_neg (fun e=>e h6)]
theorem feats_few(h:(qz l fs).1=0):fs.length<=40:=by
 grind[qz]
end
section
section stp
variable {l:List Ty} {fs:List Ft} {ga gb X Y:List Nd} {j:Nat}
def yZ(ga gb:List Nd):List Nd:=ga++gb.map (shN ga.length)
theorem gK(ga gb:List Nd):(yZ ga gb).length=ga.length+gb.length:=by simp[yZ]
theorem Yy(h:i<ga.length):nd (yZ ga gb) i=nd ga i:=oZ h
theorem J1(h:i<ga.length+gb.length)(hn:¬i<ga.length):nd (yZ ga gb) i=shN ga.length (nd gb (i-ga.length))/\i-ga.length<gb.length:=by
 have hl:i-ga.length<gb.length:=by omega
 have h2:=Z6 (U:=ga) hl;rw[show ga.length+(i-ga.length)=i by omega]at h2;exact⟨h2,hl⟩
theorem Z1(a2:GX l ga)(a4:GX l gb)(hj:j<ga.length){P rep ρ:Nat->Nat}{T:Nat->Int}{L:Nat->List (Int×Int)}{o:List Nat}(a1:US l (yZ ga gb) [(j,ga.length)] P rep ρ T L [])(hd:DL (y9 (yZ ga gb).length rep T L) [rep 0] [] o):
  TrR (y9 (yZ ga gb).length rep T L) (rep 0) o/\GX l (xJ (y9 (yZ ga gb).length rep T L) o)/\Maps l ga (xJ (y9 (yZ ga gb).length rep T L) o)/\Adm l (yZ ga gb) (xJ (y9 (yZ ga gb).length rep T L) o) (fun i=>o.idxOf (rep i))/\o.idxOf (rep 0)=0/\o.idxOf (rep j)=o.idxOf (rep ga.length):=by
 have a3:=gK ga gb;have hp:=a2.pos;have hpb:=a4.pos;have h0:0<(yZ ga gb).length:=by omega
 have hgy:=a1.gy a2.vt h0;have hr:=a1.uf.rl 0 h0;have hrr:=a1.uf.two h0;have t:=hgy.trr (r:=rep 0) (by rw[vz];exact hr) hd;have hjr:rep j=rep ga.length:=a1.jcov (j,ga.length) (by simp) rep ⟨fun i hi=>(a1.uf.two hi).symm,fun w hw=>by cases hw⟩;have z0:∀ x:Nd,shN 0 x=x:=fun x=>V7 rfl (by simp[shN])
 obtain⟨φ,h1,h2,h3,h4,h5⟩:=a1.into a2.vt hr hrr t (g:=ga) (s:=0) a2 (fun i hi=>by
  rw[Nat.zero_add,z0]
  exact⟨by omega,oZ hi⟩) t.has
 obtain⟨ψ,k1,k2,k3,k4,k5⟩:=a1.into a2.vt hr hrr t (g:=gb) (s:=ga.length) a4 (fun i hi=>⟨by omega,Z6 hi⟩) (by rw[<- hjr];have:=(h2 j hj).1;rwa[Nat.zero_add]at this);have e1:∀ i,i<ga.length->o.idxOf (rep i)=φ i:=fun i hi=>by have:=(h2 i hi).2;rw[Nat.zero_add]at this;exact this.symm
 have e2:∀ i,i<gb.length->o.idxOf (rep (ga.length+i))=ψ i:=fun i hi=>((k2 i hi).2).symm
 refine⟨t,t.gx hgy,⟨φ,by rw[h1];exact t.zero,h3,h4,h5⟩,⟨fun i hi=>?_,fun i hi=>?_,fun i hi x hx=>?_⟩,t.zero,by rw[hjr]⟩<;>rw[a3]at hi<;>by_cases e:i<ga.length
 ·rw[e1 i e];exact h3 i e
 ·obtain⟨_,hl⟩:=J1 hi e
  have:=e2 _ hl;rw[show ga.length+(i-ga.length)=i by omega]at this;rw[this];exact k3 _ hl
 ·simp only[e1 i e];rw[Yy e];exact h4 i e
 ·obtain⟨hn,hl⟩:=J1 hi e
  have:=e2 _ hl;rw[show ga.length+(i-ga.length)=i by omega]at this;simp only[this];rw[hn];exact k4 _ hl
 ·simp only[e1 i e]
  rw[Yy e]at hx;have hxr:=a2.lr i e x hx;rw[h5 i e x hx,e1 _ hxr.2]
 ·obtain⟨hn,hl⟩:=J1 hi e
  have he:=e2 _ hl;rw[show ga.length+(i-ga.length)=i by omega]at he;simp only[he];rw[hn]at hx;obtain⟨y,hy,rfl⟩:=ar.1 hx;have hyr:=a4.lr _ hl y hy;rw[k5 _ hl y hy];have e3:(y.2+(ga.length:Int)).toNat=ga.length+y.2.toNat:=by omega
  simp only[e3];rw[e2 _ hyr.2]
theorem Py(hga:GX l ga)(hgb:GX l gb)(hj:j<ga.length)(h:Xx l (yZ ga gb) [(j,ga.length)] X):GX l X/\Maps l ga X:=by
 obtain⟨P,rep,ρ,T,L,o,hus,hd,rfl⟩:=h;obtain⟨_,a,b,_⟩:=Z1 hga hgb hj hus hd;exact⟨a,b⟩
theorem NJ(hga:GX l ga)(hgb:GX l gb)(hj:j<ga.length)(h:Xx l (yZ ga gb) [(j,ga.length)] X):K9 l (yZ ga gb) [(j,ga.length)]:=by
 obtain⟨P,rep,ρ,T,L,o,hus,hd,rfl⟩:=h;obtain⟨_,a,_,b,_,c⟩:=Z1 hga hgb hj hus hd;exact⟨_,_,a.tr,b,fun p hp=>by rw[List.mem_singleton.1 hp];exact c⟩
theorem stp_le(a5:GX l ga)(hgb:GX l gb)(hj:j<ga.length)(h:Xx l (yZ ga gb) [(j,ga.length)] X)(k:Xx l (yZ ga gb) [(j,ga.length)] Y):Maps l X Y:=by
 obtain⟨P,rep,ρ,T,L,o,a2,hd,rfl⟩:=h;obtain⟨P',a1,ρ',T',L',o',a3,hd',rfl⟩:=k;obtain⟨t,_⟩:=Z1 a5 hgb hj a2 hd;obtain⟨_,a,_,b,c,d⟩:=Z1 a5 hgb hj a3 hd';have h0:0<(yZ ga gb).length:=by have:=gK ga gb;have:=a5.pos;omega
 have hJ:∀ p∈[(j,ga.length)],(fun i=>o'.idxOf (a1 i)) p.1=(fun i=>o'.idxOf (a1 i)) p.2:=fun p hp=>by rw[List.mem_singleton.1 hp];exact d
 have a4:=(a2.only _ _ a.tr b hJ).1.1 0 h0;exact a2.least (a2.uf.rl 0 h0) (a2.uf.two h0) t a.tr b hJ (a4.symm.trans c)
theorem Pw(a2:GX l ga)(a1:GX l gb)(hj:j<ga.length)(h:Xx l (yZ ga gb) [(j,ga.length)] X)(k:Xx l (yZ ga gb) [(j,ga.length)] Y):X=Y:=by
 have m1:=stp_le a2 a1 hj h k;have m2:=stp_le a2 a1 hj k h;have gx:=(Py a2 a1 hj h).1;have gy:=(Py a2 a1 hj k).1;have cX:∃ o,DL X [0] [] o/\xJ X o=X:=by
  obtain⟨P,rep,ρ,T,L,o,a3,hd,rfl⟩:=h;obtain⟨t,_⟩:=Z1 a2 a1 hj a3 hd;exact⟨_,by have:=t.dl2 t.has t.dl;rw[t.zero]at this;exact this,t.can2 t.has t.dl⟩
 have cY:∃ o,DL Y [0] [] o/\xJ Y o=Y:=by
  obtain⟨P,rep,ρ,T,L,o,a3,hd,rfl⟩:=k;obtain⟨t,_⟩:=Z1 a2 a1 hj a3 hd;exact⟨_,by have:=t.dl2 t.has t.dl;rw[t.zero]at this;exact this,t.can2 t.has t.dl⟩
 obtain⟨o,ho,e⟩:=cX;obtain⟨p,hp,e2⟩:=cY;have:=can_eq gx gy m1 m2 ho hp;rw[e,e2]at this;exact this.symm
theorem stp_valid(ha:GV l fs ga)(hb:GV l fs gb)(hj:j<ga.length)(h:Xx l (yZ ga gb) [(j,ga.length)] X)(h60:X.length<=60):kY l fs X=(0,0):=by
 have hl:=(Py ha.gx hb.gx hj h).1;obtain⟨P,rep,ρ,T,L,o,a2,hd,rfl⟩:=h;have a3:=gK ga gb;have h0:0<(yZ ga gb).length:=by have:=ha.gok.pos;omega
 obtain⟨t,_⟩:=Z1 ha.gx hb.gx hj a2 hd
 have a1:=a2.fit (fs:=fs) ha.s.vt (a2.uf.rl 0 h0) (a2.uf.two h0) t (fun i hi x hx=>by
  rw[a3]at hi;by_cases e:i<ga.length
  ·rw[Yy e]at hx ⊢
   have h1:=ha.lt e hx;have h2:=(ha.gx.lr i e x hx).2;rw[Yy h2];exact⟨⟨h1.1,h1.2.1⟩,h1.2.2⟩
  ·obtain⟨h3,a4⟩:=J1 hi e
   rw[h3]at hx ⊢;obtain⟨y,hy,rfl⟩:=ar.1 hx;have h1:=hb.lt a4 hy;have h2:=(hb.gx.lr _ a4 y hy).2;have h4:=(hb.gx.lr _ a4 y hy).1;have e1:(y.2+(ga.length:Int)).toNat=ga.length+y.2.toNat:=by omega
   simp only[e1];rw[show nd (yZ ga gb) (ga.length+y.2.toNat)=_ from Z6 h2]
   exact⟨⟨h1.1,h1.2.1⟩,h1.2.2⟩)
 exact gf_mk ha.h hl h60 a1.1 a1.2
def plc(g:List Nd)(f:Int):Int:=tgt (nd g 0).ln f
theorem stp_plc(hga:GX l ga)(hgb:GX l gb)(hj:j<ga.length)(h:Xx l (yZ ga gb) [(j,ga.length)] X)(hf:0<=plc ga f):0<=plc X f:=by
 obtain⟨φ,hφ⟩:=(Py hga hgb hj h).2;unfold plc at hf ⊢;rcases tgt_mem (xs:=(nd ga 0).ln) (f:=f)with e|⟨y,hy,e1,_⟩
 ·omega
 ·have:=hφ.ln 0 hga.pos y hy
  rw[hφ.zero,e1]at this;omega
structure Jok(l:List Ty)(fs:List Ft)(m:Int)(g:List Nd):Prop where
 v:GV l fs g
 z:kY l fs g=(0,0)
 p:∀ f:Int,0<=f->f<=m->0<=plc g f
theorem Jok.lt{m:Int}(h:Jok l fs m g)(h0:0<=f)(hm:f<=m):(plc g f).toNat<g.length:=by
 have hp:=h.p f h0 hm;rcases tgt_mem (xs:=(nd g 0).ln) (f:=f)with e|⟨y,hy,e1,e2⟩
 ·unfold plc at hp;omega
 ·have:=(h.v.gx.lr 0 h.v.gx.pos y hy).2
  unfold plc;rw[e2];exact this
theorem Jok.step{m:Int}{k:List Nd}(h:Jok l fs m ga)(hk:GV l fs k)(h0:0<=f)(hm:f<=m)(hX:Xx l (yZ ga k) [((plc ga f).toNat,ga.length)] X)(h60:X.length<=60):Jok l fs m X:=by
 have z:=stp_valid h.v hk (h.lt h0 hm) hX h60;exact⟨O5 (by rw[z]),z,fun q q0 qm=>stp_plc h.v.gx hk.gx (h.lt h0 hm) hX (h.p q q0 qm)⟩
def BadU(l:List Ty)(U:List Nd)(J:List (Nat×Nat)):Prop:=¬K9 l U J\/∃ X,Xx l U J X/\60<X.length
theorem bad_no(hga:GX l ga)(hgb:GX l gb)(hj:j<ga.length)(h:BadU l (yZ ga gb) [(j,ga.length)])(hX:Xx l (yZ ga gb) [(j,ga.length)] X)(h60:X.length<=60):False:=by
 rcases h with h|⟨Z,hZ,hz⟩
 ·exact h (NJ hga hgb hj hX)
 ·rw[Pw hga hgb hj hX hZ]at h60;omega
def Yv(l:List Ty):List Nd->Nat->List (List Nd)->Bool->List Nd->Prop
 | x,_,[],ok,Y=>ok=true/\∃ o,DL x [(plc x 0).toNat] [] o/\Y=xJ x o
 | x,i,k::ks,ok,Y=>(∃ X,Xx l (yZ x k) [((plc x ((i:Int)+1)).toNat,x.length)] X/\X.length<=60/\Yv l X (i+1) ks ok Y)\/(BadU l (yZ x k) [((plc x ((i:Int)+1)).toNat,x.length)]/\ok=false/\Y= [])
theorem join_no{x k:List Nd}{ks:List (List Nd)}(h:BadU l (yZ x k) [((plc x ((i:Int)+1)).toNat,x.length)]):Yv l x i (k::ks) false []:= .inr ⟨h,rfl,rfl⟩
theorem Wv{m:Int}:∀(ks:List (List Nd)) (x:List Nd) (i:Nat) (ok a1:Bool) (Y Y':List Nd),Jok l fs m x->(∀ k∈ks,GV l fs k)->(i:Int)+ks.length<=m->Yv l x i ks ok Y->Yv l x i ks a1 Y'->ok=a1/\Y=Y'
 | [],x,i,ok,a1,Y,Y',hx,_,_,h,h'=>by
  obtain⟨rfl,o,ho,rfl⟩:=h
  obtain⟨rfl,o',ho',rfl⟩:=h'
  exact⟨rfl,by rw[DL.det ho ho']⟩
 | k::ks,x,i,ok,a1,Y,Y',hx,hk,hm,h,h'=>by
  rw[List.length_cons]at hm
  have a2:=hk k (au ..)
  have a3:=hx.lt (f:=(i:Int)+1) oG oG
  rcases h with ⟨X,h1,h2,h3⟩|⟨h1,rfl,rfl⟩
  ·rcases h' with ⟨X',k1,k2,k3⟩|⟨k1,_⟩
   ·obtain rfl:=Pw hx.v.gx a2.gx a3 h1 k1
    exact Wv ks X (i+1) ok a1 Y Y' (hx.step a2 oG oG h1 h2) (fun q hq=>hk q (am _ hq)) oG h3 k3
   ·exact(bad_no hx.v.gx a2.gx a3 k1 h1 h2).elim
  ·rcases h' with ⟨X',k1,k2,_⟩|⟨_,rfl,rfl⟩
   ·exact(bad_no hx.v.gx a2.gx a3 h1 k1 k2).elim
   ·exact⟨rfl,rfl⟩
theorem Ew(h:(qz l fs).1=0)(h2:(xy l fs g).1=0):GV l fs g/\kY l fs g=(0,0):=by
 have e:(kY l fs g).1=0:=by rw[WV h];exact h2
 have hv:=O5 e;exact⟨hv,by rw[WV h,IZ hv.lo hv.t hv.u]⟩
theorem jok_rule{r:Rl}(h:(qz l fs).1=0)(h2:(xy l fs r.gr).1=0)(h3:uK r.gr r.kids=true)(h4:r.kids<=3):Jok l fs r.kids r.gr:=by
 obtain⟨hv,hz⟩:=Ew h h2;refine⟨hv,hz,fun f f0 fm=>?_⟩;obtain⟨n,hn⟩:=aO f0;subst hn;have:=aB.1 h3 n (av.2 oG);unfold plN at this;have e:decide ((n:Int)<=r.kids)=true:=ah fm;rw[e]at this;have h5:(0:Int)<=tgt (E8 r.gr 0).ln (n:Int):=by simpa using this
 exact h5
end stp
end
section
section mon
variable {l:List Ty} {fs:List Ft} {x z k k2 X Z:List Nd} {j:Nat} {φ χ:Nat->Nat}
theorem adm_comp(hx:GX l x)(hk:GX l k)(hφ:Hom l x z φ)(hχ:Hom l k k2 χ){c:List Nd}{θ:Nat->Nat}(h:Adm l (yZ z k2) c θ):Adm l (yZ x k) c (fun i=>if i<x.length then θ (φ i)else θ (z.length+χ (i-x.length))):=by
 have a2:=gK x k;have hlen2:=gK z k2;have hl:=hx.vt;refine⟨fun i hi=>?_,fun i hi=>?_,fun i hi y hy=>?_⟩<;>rw[a2]at hi<;>by_cases e:i<x.length
 ·simp only[if_pos e];have:=hφ.lt i e;exact h.lt _ oG
 ·simp only[if_neg e]
  obtain⟨_,a1⟩:=J1 hi e;have:=hχ.lt _ a1;exact h.lt _ oG
 ·simp only[if_pos e]
  have hz:=hφ.lt i e;have h1:=h.ty (φ i) oG;rw[Yy hz]at h1;rw[Yy e];exact Qz hl h1 (hφ.ty i e)
 ·simp only[if_neg e]
  obtain⟨hn,a1⟩:=J1 hi e;have hz:=hχ.lt _ a1;have h1:=h.ty (z.length+χ (i-x.length)) oG;rw[show nd (yZ z k2) (z.length+χ (i-x.length))=_ from Z6 hz]at h1;rw[hn];exact Qz hl h1 (hχ.ty _ a1)
 ·simp only[if_pos e]
  rw[Yy e]at hy;have hyr:=hx.lr i e y hy;rw[if_pos hyr.2];have hz:=hφ.lt i e;have h1:=hφ.ln i e y hy;have hm:=XZ (xs:=(nd z (φ i)).ln) (f:=y.1) oG;rw[h1]at hm;have h2:=h.ln (φ i) oG _ (by rw[Yy hz];exact hm);rw[Int.toNat_natCast]at h2;exact h2
 ·simp only[if_neg e]
  obtain⟨hn,a1⟩:=J1 hi e;rw[hn]at hy;obtain⟨u,hu,rfl⟩:=ar.1 hy;have hur:=hk.lr _ a1 u hu;have hz:=hχ.lt _ a1;have h1:=hχ.ln _ a1 u hu;have hm:=XZ (xs:=(nd k2 (χ (i-x.length))).ln) (f:=u.1) oG;rw[h1]at hm
  have h2:=h.ln (z.length+χ (i-x.length)) oG (u.1,((χ u.2.toNat:Nat):Int)+(z.length:Int)) (by
   rw[show nd (yZ z k2) (z.length+χ (i-x.length))=_ from Z6 hz]
   exact ar.2 ⟨_,hm,rfl⟩)
  have e1:(u.2+(x.length:Int)).toNat=u.2.toNat+x.length:=by omega
  have e2:(((χ u.2.toNat:Nat):Int)+(z.length:Int)).toNat=z.length+χ u.2.toNat:=by omega
  simp only[e2]at h2;simp only[e1];rw[if_neg oG,show u.2.toNat+x.length-x.length=u.2.toNat by omega];exact h2
theorem step_mono(hx:GX l x)(hz:GX l z)(hk:GX l k)(hk2:GX l k2)(hj:j<x.length)(hφ:Hom l x z φ)(hχ:Hom l k k2 χ)(hZ:Xx l (yZ z k2) [(φ j,z.length)] Z):K9 l (yZ x k) [(j,x.length)]/\∀ X,Xx l (yZ x k) [(j,x.length)] X->Maps l X Z:=by
 obtain⟨P',a1,ρ',T',L',o',a3,hd',rfl⟩:=hZ;obtain⟨_,a,_,b0,c0,d0⟩:=Z1 hz hk2 (hφ.lt j hj) a3 hd';have b:=adm_comp hx hk hφ hχ b0;have hJ:∀ p∈[(j,x.length)],(fun i=>if i<x.length then o'.idxOf (a1 (φ i))else o'.idxOf (a1 (z.length+χ (i-x.length)))) p.1=(fun i=>if i<x.length then o'.idxOf (a1 (φ i))else o'.idxOf (a1 (z.length+χ (i-x.length)))) p.2:=fun p hp=>by
  rw[List.mem_singleton.1 hp];simp[hj,hχ.zero,d0]
 refine⟨⟨_,_,a.tr,b,hJ⟩,fun X hX=>?_⟩;obtain⟨P,rep,ρ,T,L,o,a2,hd,rfl⟩:=hX;obtain⟨t,_⟩:=Z1 hx hk hj a2 hd;have hp:=hx.pos;have h0:0<(yZ x k).length:=by have:=gK x k;omega
 have a4:=(a2.only _ _ a.tr b hJ).1.1 0 h0;refine a2.least (a2.uf.rl 0 h0) (a2.uf.two h0) t a.tr b hJ (a4.symm.trans ?_);simp only[if_pos hp,hφ.zero];exact c0
theorem plc_hom(hx:GX l x)(hφ:Hom l x z φ)(hf:0<=plc x f):(plc z f).toNat=φ (plc x f).toNat:=by
 have hm:=XZ (xs:=(nd x 0).ln) (f:=f) hf;have h:=hφ.ln 0 hx.pos _ hm;rw[hφ.zero]at h;show (tgt (nd z 0).ln f).toNat=_;rw[h];rfl
theorem Dx{m:Int}:∀(ks:List (List Nd)) (x:List Nd) (i:Nat) (Y:List Nd),Jok l fs m x->(∀ k∈ks,GV l fs k)->(i:Int)+ks.length<=m->0<=m->Yv l x i ks true Y->(kY l fs Y).1=0
 | [],x,i,Y,hx,_,_,h0,h=>by
  obtain⟨_,o,ho,rfl⟩:=h
  exact(hx.v.gx.toGY.trr (hx.lt (aH _) h0) ho).valid hx.v
 | k::ks,x,i,Y,hx,hv,hi,h0,h=>by
  rw[List.length_cons]at hi
  rcases h with ⟨X',h1,h2,h3⟩|⟨_,h',_⟩
  ·exact Dx ks X' (i+1) Y (hx.step (hv k (au ..)) oG oG h1 h2) (fun q hq=>hv q (am _ hq)) oG h0 h3
  ·cases h'
end mon
end
section
inductive Dt where
 | mk (rule lex:Int) (kids:List Dt)
def Dt.rule:Dt->Int | .mk r _ _=>r
def Dt.lex:Dt->Int | .mk _ x _=>x
def Dt.kids:Dt->List Dt | .mk _ _ k=>k
theorem Dt.eta(t:Dt):t= .mk t.rule t.lex t.kids:=by cases t;rfl
mutual
inductive TreAt(w:World):Nat->Nat->Dt->Prop
 | mk {b o:Nat} {r l:Int} {ks:List Dt} {A:Option Addr} {c:Nat} (hb:b<w.heap.size) (h:w.rangeAt b o [.int .i64 r,.int .i64 l,.slice A (List.length ks) c]) (hs:TresIn w A ks):TreAt w b o (.mk r l ks)
inductive TresIn(w:World):Option Addr->List Dt->Prop
 | nil {A:Option Addr}:TresIn w A []
 | more {b o:Nat} {ks:List Dt} (hl:ks.length<=vJ) (hb:b<w.heap.size) (h:∀ k (hk:k<ks.length),TreAt w b (o+k*3) ks[k]):TresIn w (some ⟨b,o,none⟩) ks
end
theorem TreAt.both(hw:Bel w w'):(∀ {b o:Nat} {s:Dt},TreAt w b o s->TreAt w' b o s)/\∀ {A:Option Addr} {l:List Dt},TresIn w A l->TresIn w' A l:=by
 have h1:∀ {b o:Nat} {s:Dt} (h:TreAt w b o s),TreAt w' b o s:=fun h=>
  TreAt.rec (motive_1:=fun b o s _=>TreAt w' b o s) (motive_2:=fun A l _=>TresIn w' A l)
   (fun hb h _ ih=> .mk (nLL hb hw.size) (hw.range hb h) ih) .nil (fun hl hb _ ih=> .more hl (nLL hb hw.size) ih) h
 have h2:∀ {A:Option Addr} {l:List Dt} (h:TresIn w A l),TresIn w' A l:=fun h=>
  TresIn.rec (motive_1:=fun b o s _=>TreAt w' b o s) (motive_2:=fun A l _=>TresIn w' A l)
   (fun hb h _ ih=> .mk (nLL hb hw.size) (hw.range hb h) ih) .nil (fun hl hb _ ih=> .more hl (nLL hb hw.size) ih) h
 exact⟨h1,h2⟩
theorem TresIn.mono{l:List Dt}(h:TresIn w A l)(hw:Bel w w'):TresIn w' A l:=(TreAt.both hw).2 h
theorem TresIn.le{l:List Dt}(h:TresIn w A l):l.length<=vJ:=by
 cases h with
 | nil=>exact ad _
 | more hl=>exact hl
theorem TresIn.at_{l:List Dt}(h:TresIn w A l)(hk:k<l.length):∃ b o A' c,A=some ⟨b,o,none⟩/\b<w.heap.size/\w.rangeAt b (o+k*3) [Value.int .i64 (l[k]).rule,.int .i64 (l[k]).lex,.slice A' (l[k]).kids.length c]/\TresIn w A' (l[k]).kids:=by
 cases h with
 | nil=>simp at hk
 | @more b o _ _ hb h=>
  have hx:=h k hk
  generalize l[k]=s at hx
  cases hx with
  | mk _ hr hs=>exact⟨b,o,_,_,rfl,hb,hr,hs⟩
def kdN(rs:List Rl)(t:Dt):Int:=if 0<=t.rule then ((rs[t.rule.toNat]?).map (·.kids)).getD 0 else 0
def trC(rs:List Rl)(nx:Nat)(t:Dt):Int:=
 if t.rule < -1\/(rs.length:Int)<=t.rule\/(t.rule= -1/\(t.lex<0\/(nx:Int)<=t.lex))then 3 else if 0<=t.rule/\¬t.lex=0 then 5 else if ¬(t.kids.length:Int)=kdN rs t then 9 else 0
def chN(rs:List Rl)(t:Dt)(c:Nat):Nat:=if kdN rs t=1 then c+1 else 0
def lfN(t:Dt)(l:Nat):Nat:=if t.rule<0 then l+1 else l
mutual
def tw(rs:List Rl)(nx:Nat):Dt->Nat->Nat->Nat->Nat->Nat×Nat×Fl
 | .mk r x ks,d,c,n,l=>if 200<n+1\/48<d then (n+1,l,(1,(n:Int)))else if trC rs nx (.mk r x ks)=0 then (if 3<chN rs (.mk r x ks) c then (n+1,l,(14,(n:Int)))else tws rs nx ks (d+1) (chN rs (.mk r x ks) c) (n+1) (lfN (.mk r x ks) l))else (n+1,l,(trC rs nx (.mk r x ks),(n:Int)))
def tws(rs:List Rl)(nx:Nat):List Dt->Nat->Nat->Nat->Nat->Nat×Nat×Fl
 | [],_,_,n,l=>(n,l,(0,0))
 | x::r,d,c,n,l=>if (tw rs nx x d c n l).2.2.1=0 then tws rs nx r d c (tw rs nx x d c n l).1 (tw rs nx x d c n l).2.1 else tw rs nx x d c n l
end
section
variable {rs:List Rl} {nx:Nat} {t:Dt} {d c n l:Nat}
theorem tw_eq(t:Dt)(d c n l:Nat):tw rs nx t d c n l=if 200<n+1\/48<d then (n+1,l,(1,(n:Int)))else if trC rs nx t=0 then (if 3<chN rs t c then (n+1,l,(14,(n:Int)))else tws rs nx t.kids (d+1) (chN rs t c) (n+1) (lfN t l))else (n+1,l,(trC rs nx t,(n:Int))):=by
 cases t;rw[tw];rfl
theorem L4(h:200<n+1\/48<d):tw rs nx t d c n l=(n+1,l,(1,(n:Int))):=by rw[tw_eq,if_pos h]
theorem Pq{k:Int}(h:¬(200<n+1\/48<d))(hc:trC rs nx t=k)(h0:k≠0):tw rs nx t d c n l=(n+1,l,(k,(n:Int))):=by rw[tw_eq,if_neg h,if_neg (by rw[hc];exact h0),hc]
theorem OQ(h:¬(200<n+1\/48<d))(hc:trC rs nx t=0)(h3:3<chN rs t c):tw rs nx t d c n l=(n+1,l,(14,(n:Int))):=by rw[tw_eq,if_neg h,if_pos hc,if_pos h3]
theorem tw_go(h:¬(200<n+1\/48<d))(hc:trC rs nx t=0)(h3:¬3<chN rs t c):tw rs nx t d c n l=tws rs nx t.kids (d+1) (chN rs t c) (n+1) (lfN t l):=by rw[tw_eq,if_neg h,if_pos hc,if_neg h3]
theorem trC_3(h:t.rule < -1\/(rs.length:Int)<=t.rule\/(t.rule= -1/\(t.lex<0\/(nx:Int)<=t.lex))):trC rs nx t=3:=if_pos h
theorem trC_5(h:¬(t.rule < -1\/(rs.length:Int)<=t.rule\/(t.rule= -1/\(t.lex<0\/(nx:Int)<=t.lex))))(h2:0<=t.rule/\¬t.lex=0):trC rs nx t=5:=by unfold trC;rw[if_neg h,if_pos h2]
theorem trC_9(h:¬(t.rule < -1\/(rs.length:Int)<=t.rule\/(t.rule= -1/\(t.lex<0\/(nx:Int)<=t.lex))))(h2:¬(0<=t.rule/\¬t.lex=0))(h3:¬(t.kids.length:Int)=kdN rs t):trC rs nx t=9:=by unfold trC;rw[if_neg h,if_neg h2,if_pos h3]
theorem trC_0(h:¬(t.rule < -1\/(rs.length:Int)<=t.rule\/(t.rule= -1/\(t.lex<0\/(nx:Int)<=t.lex))))(h2:¬(0<=t.rule/\¬t.lex=0))(h3:¬¬(t.kids.length:Int)=kdN rs t):trC rs nx t=0:=by unfold trC;rw[if_neg h,if_neg h2,if_neg h3]
theorem Dq(hi:i<rs.length)(h:t.rule=(i:Int)):kdN rs t=(rs[i]).kids:=by
 unfold kdN;rw[if_pos oG,h];simp[hi]
theorem kdN_lf(h:t.rule<0):kdN rs t=0:=by unfold kdN;rw[if_neg oG]
theorem lfN_lf(h:t.rule<0):lfN t l=l+1:=if_pos h
theorem lfN_rl(h:¬t.rule<0):lfN t l=l:=if_neg h
theorem tw_ts:∀(k:Nat) (t:Dt),SizeOf.sizeOf t<k->∀ d c n l,l<=n->(tw rs nx t d c n l).2.2.1=0->(tw rs nx t d c n l).2.2=(0,0)/\(tw rs nx t d c n l).1<=200/\(tw rs nx t d c n l).2.1<=(tw rs nx t d c n l).1:=by
 intro k
 induction k with
 | zero=>intro t h;omega
 | succ k ih=>
  intro t ht d c n l hl h0;by_cases h1:200<n+1\/48<d
  ·rw[L4 h1]at h0;cases h0
  by_cases h2:trC rs nx t=0
  ·by_cases h3:3<chN rs t c
   ·rw[OQ h1 h2 h3]at h0;cases h0
   ·rw[tw_go h1 h2 h3]at h0 ⊢
    have key:∀(ks:List Dt),(∀ x∈ks,SizeOf.sizeOf x<k)->∀ d c n l,l<=n->n<=200->(tws rs nx ks d c n l).2.2.1=0->(tws rs nx ks d c n l).2.2=(0,0)/\(tws rs nx ks d c n l).1<=200/\(tws rs nx ks d c n l).2.1<=(tws rs nx ks d c n l).1:=by
     intro ks
     induction ks with
     | nil=>intro _ d c n l h1 h2 _;rw[tws];exact⟨rfl,h2,h1⟩
     | cons x r ihr=>
      intro hx d c n l h1 h2 h3;rw[tws]at h3 ⊢;by_cases h4:(tw rs nx x d c n l).2.2.1=0
      ·rw[if_pos h4]at h3 ⊢
       obtain⟨_,e2,e3⟩:=ih x (hx x (au ..)) d c n l h1 h4;exact ihr (fun y hy=>hx y (am _ hy)) d c _ _ e3 e2 h3
      ·rw[if_neg h4]at h3;exact absurd h3 h4
    have hlf:lfN t l<=n+1:=by unfold lfN;split<;>omega
    refine key t.kids (fun x hx=>?_) _ _ _ _ hlf oG h0;have:=aN hx;cases t with
    | mk r x ks=>simp only[Dt.mk.sizeOf_spec,Dt.kids]at ht this;omega
  ·rw[Pq h1 rfl h2]at h0;exact absurd h0 h2
theorem tw_z(hl:l<=n)(h:(tw rs nx t d c n l).2.2.1=0):(tw rs nx t d c n l).2.2=(0,0)/\(tw rs nx t d c n l).1<=200/\(tw rs nx t d c n l).2.1<=(tw rs nx t d c n l).1:=tw_ts (SizeOf.sizeOf t+1) t (ax _) d c n l hl h
end
def jw(rs:List Rl)(nx:Nat)(t:Dt):Fl:=if (tw rs nx t 1 0 0 0).2.2.1=0 then (if 12<(tw rs nx t 1 0 0 0).2.1 then (2,-2)else (0,0))else (tw rs nx t 1 0 0 0).2.2
theorem L7{rs:List Rl}{t:Dt}(h:¬(tw rs nx t 1 0 0 0).2.2.1=0):jw rs nx t=(tw rs nx t 1 0 0 0).2.2:=if_neg h
theorem Sy{rs:List Rl}{t:Dt}(h:(tw rs nx t 1 0 0 0).2.2.1=0)(h2:12<(tw rs nx t 1 0 0 0).2.1):jw rs nx t=(2,-2):=by unfold jw;rw[if_pos h,if_pos h2]
theorem tf_ok{rs:List Rl}{t:Dt}(h:(tw rs nx t 1 0 0 0).2.2.1=0)(h2:¬12<(tw rs nx t 1 0 0 0).2.1):jw rs nx t=(0,0):=by unfold jw;rw[if_pos h,if_neg h2]
end
section
mutual
def ndT:Dt->Nat
 | .mk _ _ ks=>Yq ks+1
def Yq:List Dt->Nat
 | []=>0
 | x::r=>ndT x+Yq r
end
theorem T8(t:Dt):ndT t=Yq t.kids+1:=by cases t;rw[ndT];rfl
inductive OkT(rs:List Rl)(nx:Nat):Dt->Prop
 | mk {t:Dt} (h:trC rs nx t=0) (hk:∀ x∈t.kids,OkT rs nx x):OkT rs nx t
section
variable {rs:List Rl} {xs:List Lx} {nx:Nat}
theorem OkT.at_{t:Dt}(h:OkT rs nx t):trC rs nx t=0/\∀ x∈t.kids,OkT rs nx x:=by cases h with|mk h hk=>exact⟨h,hk⟩
theorem tw_okT:∀(k:Nat) (t:Dt),SizeOf.sizeOf t<k->∀ d c n l,(tw rs nx t d c n l).2.2.1=0->OkT rs nx t/\(tw rs nx t d c n l).1=n+ndT t:=by
 intro k
 induction k with
 | zero=>intro t h;omega
 | succ k ih=>
  intro t ht d c n l h0;by_cases h1:200<n+1\/48<d
  ·rw[L4 h1]at h0;cases h0
  by_cases h2:trC rs nx t=0
  ·by_cases h3:3<chN rs t c
   ·rw[OQ h1 h2 h3]at h0;cases h0
   ·rw[tw_go h1 h2 h3]at h0 ⊢
    have key:∀(ks:List Dt),(∀ x∈ks,SizeOf.sizeOf x<k)->∀ d c n l,(tws rs nx ks d c n l).2.2.1=0->(∀ x∈ks,OkT rs nx x)/\(tws rs nx ks d c n l).1=n+Yq ks:=by
     intro ks
     induction ks with
     | nil=>intro _ d c n l _;rw[tws,Yq];exact⟨(fun x hx=>nomatch hx),rfl⟩
     | cons x r ihr=>
      intro hx d c n l h3;rw[tws]at h3 ⊢;by_cases h4:(tw rs nx x d c n l).2.2.1=0
      ·rw[if_pos h4]at h3 ⊢
       obtain⟨e1,e2⟩:=ih x (hx x (au ..)) d c n l h4;obtain⟨e3,e4⟩:=ihr (fun y hy=>hx y (am _ hy)) d c _ _ h3;refine⟨fun y hy=>?_,?_⟩
       ·rcases aq.1 hy with rfl|hy
        ·exact e1
        ·exact e3 y hy
       ·rw[e4,e2,Yq];omega
      ·rw[if_neg h4]at h3;exact absurd h3 h4
    obtain⟨e1,e2⟩:=key t.kids (fun x hx=>by
     have:=aN hx;cases t with
     | mk r x ks=>simp only[Dt.mk.sizeOf_spec,Dt.kids]at ht this;omega) _ _ _ _ h0
    exact⟨.mk h2 e1,by rw[e2,T8];omega⟩
  ·rw[Pq h1 rfl h2]at h0;exact absurd h0 h2
theorem Pj{t:Dt}(h:(jw rs nx t).1=0):OkT rs nx t/\ndT t<=200/\(tw rs nx t 1 0 0 0).2.1<=12:=by
 by_cases h0:(tw rs nx t 1 0 0 0).2.2.1=0
 ·by_cases h1:12<(tw rs nx t 1 0 0 0).2.1
  ·rw[Sy h0 h1]at h;cases h
  ·obtain⟨e1,e2⟩:=tw_okT (SizeOf.sizeOf t+1) t (ax _) 1 0 0 0 h0
   obtain⟨_,e3,_⟩:=tw_z (ae _) h0;exact⟨e1,by omega,by omega⟩
 ·rw[L7 h0]at h;exact absurd h h0
theorem Xv{t:Dt}(h:trC rs nx t=0)(hr:t.rule<0):t.rule= -1/\0<=t.lex/\t.lex<nx/\t.kids= []:=by
 unfold trC at h
 split at h
 ·cases h
 ·rename_i h1
  split at h
  ·cases h
  ·split at h
   ·cases h
   ·rename_i h3
    have h4:=ak.1 h3;rw[kdN_lf hr]at h4;have h5:t.kids= []:=aI.1 oG;have h6:t.rule= -1:=by omega
    refine⟨h6,?_,?_,h5⟩<;>(refine az (fun e=>h1 (.inr (.inr ⟨h6,?_⟩))))<;>omega
theorem KX{t:Dt}(h:trC rs nx t=0)(hr:¬t.rule<0):t.rule<rs.length/\t.lex=0/\(t.kids.length:Int)=kdN rs t:=by
 unfold trC at h
 split at h
 ·cases h
 ·rename_i h1
  split at h
  ·cases h
  ·rename_i h2
   split at h
   ·cases h
   ·rename_i h3
    refine⟨?_,?_,ak.1 h3⟩
    ·omega
    ·exact az (fun e=>h2 ⟨by omega,e⟩)
end
section wt
variable {rs:List Rl} {xs:List Lx}
theorem ndT_kid{t x:Dt}(h:x∈t.kids):ndT x<ndT t:=by
 have key:∀(ks:List Dt),x∈ks->ndT x<=Yq ks:=by
  intro ks
  induction ks with
  | nil=>intro h;cases h
  | cons y r ih=>
   intro h;rw[Yq];rcases aq.1 h with rfl|h
   ·omega
   ·have:=ih h;omega
 have:=key _ h;rw[T8 t];omega
end wt
section
variable {rs:List Rl} {xs:List Lx} {nx:Nat}
end
end
end Go.Proofs.YtmfiholmfieieaaDoor
