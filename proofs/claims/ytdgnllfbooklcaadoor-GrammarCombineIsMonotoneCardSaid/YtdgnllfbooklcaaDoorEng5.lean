/- Rules: a range over a string; scopes; numbers of a few bits. No program in sight. Words: the places of a string's runes, which of them are right, which bytes are barred. No program in sight. Rules, words and grammars as plain values, how a world holds them, and what is wrong with them. No program in sight. A graph is unified into a node of another one; a rule's graph takes graphs for its daughters one after the other. No program in sight. The engine: a region that draws its order, in which some operations store into blocks of a list X; every operation leaves what the others have told. -/
import Derived.Test.YtdgnllfbooklcaaDoorTxt
import Derived.Laws.RangeAny
import Derived.Scope
import Derived.Lib.RuneCount
import Derived.Lib.DecodeNEq
import Derived.Test.YtdgnllfbooklcaaDoorTurn
import Derived.Test.YtdgnllfbooklcaaDoorEng2
namespace Go.Proofs.YtdgnllfbooklcaaDoor
open Go.RowKit
def ItIn (w:World) (b:Nat) (s:ByteArray) (p:Nat):Prop:=w.heap[b]? =some (.stringIter s p)
section it
variable {w w':World} {b p:Nat} {s:ByteArray} {X:List Nat}
theorem ItIn.lt (h:ItIn w b s p):b < w.heap.size:=kz h
theorem ItIn.tr (h:ItIn w b s p) (hs:Same X w w') (hx:b ∉ X):ItIn w' b s p:=(hs.blk b h.lt hx).trans h
theorem ItIn.tr0 (h:ItIn w b s p) (hs:Same [] w w'):ItIn w' b s p:=h.tr hs (by simp)
theorem ItIn.tr1 {c:Nat} (h:ItIn w b s p) (hs:Same [c] w w') (hne:b≠c):ItIn w' b s p:=h.tr hs (by simpa using hne)
end it
section rules
variable {P:Program} {Q:Exit→Act→World→Prop} {n:Nat} {f:Fr} {w w':World} {ops:Array Oper} {rest:List Oper} {d:Nat} {ty:TypeId} {pos:String} {af:Array Edge} {x y z:Operand} {t t' e:TypeId}
theorem wl_rg {s:ByteArray} (hu:P.underlying t=some .string) (hx:ev n f x= .string s)
    (K:∀ b w1,ItIn w1 b s 0→Same [] w w1→w.heap.size≤b→WL P ops Q rest n (upd f d (.pointer (some ⟨b,0,none⟩))) w1):WL P ops Q (⟨some d,.range t x,ty,pos,af,none⟩ :: rest) n f w:=by
  refine wl (v:= .pointer (some ⟨w.heap.size,0,none⟩)) (w':=w.iter s 0) ?_ (K _ _ (World.iter_heap w s 0) (gX w _) (Nat.le_refl _));simp only [RV,execOp,hx,run_range_string w t s hu,Sem.run_bind,Result.andThen_ok];simp
theorem run_nx {b p:Nat} {s:ByteArray} (h:ItIn w b s p) (hp:p < s.size):
    (Instr.next (.pointer (some ⟨b,0,none⟩)) true ty).run P w= .ok (.tuple #[.bool true,.int .i64 p,.int .i32 ((Utf8.decode s p).1:Nat)]) { w with heap:=w.heap.setIfInBounds b (.stringIter s (p + (Utf8.decode s p).2)) }:=by
  have h':w.heap[b]? =some (.stringIter s p):=h;simp only [Instr.next,getObj,setObj,Sem.run_bind,Sem.run,h',Result.andThen,hp,if_true];simp [goInt]
theorem same_setO (w:World) (b:Nat) (o:Obj):Same [b] w { w with heap:=w.heap.setIfInBounds b o }:=
  ⟨rfl,rfl,rfl,by simp,fun k _ hx=>by
    have:k≠b:=fun e=>hx (List.mem_singleton.2 e)
    simp [Ne.symm this]⟩
theorem wl_nx {b p:Nat} {s:ByteArray} (h:ItIn w b s p) (hx:ev n f x= .pointer (some ⟨b,0,none⟩)) (hp:p < s.size)
    (K:∀ w1,ItIn w1 b s (p + (Utf8.decode s p).2)→Same [b] w w1→WL P ops Q rest n (upd f d (.tuple #[.bool true,.int .i64 ((p:Nat):Int),.int .i32 (((Utf8.decode s p).1:Nat):Int)])) w1):WL P ops Q (⟨some d,.next x true,ty,pos,af,none⟩ :: rest) n f w:=by
  refine wl (v:= .tuple #[.bool true,.int .i64 p,.int .i32 ((Utf8.decode s p).1:Nat)]) (w':={ w with heap:=w.heap.setIfInBounds b (.stringIter s (p + (Utf8.decode s p).2)) }) ?_ (K _ ?_ (same_setO w b _))
  · simp only [RV,execOp,hx,run_nx h hp,Sem.run_bind,Result.andThen_ok]
    simp
  · show (w.heap.setIfInBounds b _)[b]? =_
    have:=h.lt;simp [this]
theorem r_ne {b p:Nat} {s:ByteArray} {dst:Option Tmp} {gd:Option (Nat×Bool)} (h:ItIn w b s p) (hx:ev n f x= .pointer (some ⟨b,0,none⟩)) (hp:¬p < s.size):RV P n f w ⟨dst,.next x true,ty,pos,af,gd⟩ (.tuple #[.bool false]) w:=by
  have h':w.heap[b]? =some (.stringIter s p):=h;have h2:(Instr.next (.pointer (some ⟨b,0,none⟩)) true ty).run P w= .ok (.tuple #[.bool false]) w:=by
    simp [Instr.next,getObj,Sem.run,h',hp]
  simp only [RV,execOp,hx,h2,Sem.run_bind,Result.andThen_ok];simp
theorem IQ {k k':IntKind} {a:Int} {dd:TypeDesc} {dst:Option Tmp} {gd:Option (Nat×Bool)} (hs:P.underlying t=some dd) (hd:P.underlying t'=some (.int k')) (hx:ev n f x= .int k a) (ha:k'.wrap a=a):
    RV P n f w ⟨dst,.convert t t' x,ty,pos,af,gd⟩ (.int k' a) w:=by
  simp [RV,execOp,hx,convert,run_underlying hs,run_underlying hd,Conv.intToInt,ha]
theorem Kw {a b c:Nat} {kb:IntKind} {dst:Option Tmp} {gd:Option (Nat×Bool)} (hx:ev n f x= .int .u64 (a:Int)) (hy:ev n f y= .int kb (b:Int)) (hb:b < 64) (ha:a * 2 ^ b < 18446744073709551616) (hc:a * 2 ^ b=c):
    RV P n f w ⟨dst,.binOp .shl t x y t',ty,pos,af,gd⟩ (.int .u64 (c:Int)) w:=by
  subst hc;have h1:min b 64=b:=by omega
  have h2:IntKind.u64.wrap ((a:Int) * 2 ^ b)=((a * 2 ^ b:Nat):Int):=by
    rw [IntKind.wrap_u64];have:((a:Int) * 2 ^ b)=((a * 2 ^ b:Nat):Int):=by simp
    rw [this]
    generalize a * 2 ^ b=c at ha
    omega
  have h0:¬((b:Int) < 0):=by omega
  simp only [RV,execOp,hx,hy,eqGuard,binOp,Op.shift,IntKind.bits,if_neg h0,Int.toNat_natCast,h1,h2];rfl
theorem r_shr8 {a b c:Nat} {kb:IntKind} {dst:Option Tmp} {gd:Option (Nat×Bool)} (hx:ev n f x= .int .u8 (a:Int)) (hy:ev n f y= .int kb (b:Int)) (hb:b < 8) (hc:a / 2 ^ b=c):
    RV P n f w ⟨dst,.binOp .shr t x y t',ty,pos,af,gd⟩ (.int .u8 (c:Int)) w:=by
  subst hc;have h1:min b 8=b:=by omega
  have h2:(a:Int).fdiv (2 ^ b)=((a / 2 ^ b:Nat):Int):=by
    rw [Int.fdiv_eq_ediv_of_nonneg _ (by exact Int.le_of_lt (Int.pow_pos dE))];simp
  have h0:¬((b:Int) < 0):=by omega
  simp only [RV,execOp,hx,hy,eqGuard,binOp,Op.shift,IntKind.bits,if_neg h0];simp [h1,h2]
theorem u8_and7:∀ a:Nat,a < 256→bits .and .u8 (a:Int) 7=((a % 8:Nat):Int):=by decide +kernel
theorem r_and7 {a:Nat} {dst:Option Tmp} {gd:Option (Nat×Bool)} (hx:ev n f x= .int .u8 (a:Int)) (hy:ev n f y= .int .u8 7) (ha:a < 256):
    RV P n f w ⟨dst,.binOp .and t x y t',ty,pos,af,gd⟩ (.int .u8 ((a % 8:Nat):Int)) w:=by
  have:=u8_and7 a ha;simp only [RV,execOp,hx,hy,eqGuard,binOp];simp [go_sem,this]
theorem r_rstr {r:Int} {dst:Option Tmp} {gd:Option (Nat×Bool)} (hs:P.underlying t=some (.int .i32)) (hd:P.underlying t'=some .string) (hx:ev n f x= .int .i32 r):
    RV P n f w ⟨dst,.convert t t' x,ty,pos,af,gd⟩ (.string (Utf8.encode r)) w:=by
  simp [RV,execOp,hx,convert,run_underlying hs,run_underlying hd,Conv.intToString]
def QN (Q:Exit→Act→World→Prop):Exit→Act→World→Prop:=Exit.noGoto Q
theorem LY {c:Code} (h:WC P c (QN Q) n f w):WC P (.scope c) Q n f w:=by
  unfold WC at h ⊢;exact wp_scope_straight h
theorem e_Nr (h:EX Q .ret n f w):EX (QN Q) .ret n f w:=by unfold EX at h ⊢;exact h
end rules
end Go.Proofs.YtdgnllfbooklcaaDoor
namespace Go.Proofs.YtdgnllfbooklcaaDoor
open Go.RowKit
def gb (s:ByteArray) (k:Nat):Nat:=(s.get! k).toNat
theorem Zk (s:ByteArray) (k:Nat):gb s k < 256:=(s.get! k).toNat_lt
theorem gb_at {s:ByteArray} {k:Nat} (h:k < s.size):(s[k]'h).toNat=gb s k:=by
  unfold gb;rw [show s.get! k=s[k]'h from get_at s k h]
theorem gb_bl (s:ByteArray) (k:Nat):gb s k=((bl s).getD k 0).toNat:=by
  unfold gb bl
  congr 1
  simp only [ByteArray.get!,List.getD];rw [Array.getElem?_toList];cases h:s.data[k]? with
  | none=>rw [getElem!_def,h];rfl
  | some c=>rw [getElem!_def,h];rfl
theorem OQ (p:Nat) (s:ByteArray) (k:Nat):gb (sdr p s) k=gb s (p + k):=by
  rw [gb_bl,gb_bl,Jk];simp [List.getD]
def wdt (s:ByteArray) (p:Nat):Nat:=(Utf8.decode s p).2
def P6 (s:ByteArray) (p:Nat):Bool:=decide (gb s p < 128) || decide (2≤wdt s p)
theorem B7 (s:ByteArray) (p:Nat):Utf8.decode s p=Lib.decodeN (s.size - p) (gb s p) (gb s (p + 1)) (gb s (p + 2)) (gb s (p + 3)):=Lib.decode_at s p
theorem E9 {s:ByteArray} {p:Nat} (h:gb s p < 128):wdt s p=1∧(Utf8.decode s p).1=gb s p:=by
  unfold wdt;rw [B7];unfold Lib.decodeN;rw [if_pos h];exact⟨rfl,rfl⟩
theorem JX {s:ByteArray} {p:Nat} (h:p < s.size):1≤wdt s p:=Lib.decode_width_pos s p h
theorem dec_high {s:ByteArray} {p:Nat} (h:p < s.size) (hb:128≤gb s p):128≤(Utf8.decode s p).1:=(decode_high s p h (by rw [gb_at h];exact hb)).1
theorem By {s:ByteArray} {p j:Nat} (h1:0 < j) (h2:j < wdt s p):128≤gb s (p + j)∧p + j < s.size:=by
  unfold wdt at h2;rw [B7] at h2;unfold Lib.decodeN at h2
  split at h2
  · simp at h2;omega
  · split at h2
    · rename_i _ q
      split at h2
      · obtain rfl:j=1:=by simp at h2;omega
        omega
      · simp at h2;omega
    · split at h2
      · rename_i _ _ q
        split at h2
        · have:j=1∨j=2:=by simp at h2;omega
          rcases this with rfl | rfl <;> omega
        · simp at h2;omega
      · split at h2
        · rename_i _ _ _ q
          split at h2
          · have:j=1∨j=2∨j=3:=by simp at h2;omega
            rcases this with rfl | rfl | rfl <;> omega
          · simp at h2;omega
        · simp at h2;omega
theorem wdt_le {s:ByteArray} {p:Nat} (h:p < s.size):p + wdt s p≤s.size:=by
  by_cases e:wdt s p≤1
  · omega
  · have:=(By (s:=s) (p:=p) (j:=wdt s p - 1) om om).2
    omega
def chF (s:ByteArray):Nat→Nat→List Nat
  | 0,_=>[]
  | f + 1,p=>if p < s.size then p :: chF s f (p + wdt s p) else []
theorem V0 {s:ByteArray} {f p:Nat} (h:¬p < s.size):chF s f p= []:=by cases f <;> simp [chF,h]
theorem R6 {s:ByteArray}:∀ {f g p:Nat},s.size - p≤f→s.size - p≤g→chF s f p=chF s g p
  | 0,g,p,hf,_=>by rw [V0 om,V0 om]
  | f + 1,0,p,_,hg=>by rw [V0 om,V0 om]
  | f + 1,g + 1,p,hf,hg=>by
    by_cases h:p < s.size
    · have:=JX h
      simp only [chF,if_pos h]
      rw [R6 (f:=f) (g:=g) om om]
    · rw [V0 h,V0 h]
def ch (s:ByteArray) (p:Nat):List Nat:=chF s (s.size - p) p
theorem WV {s:ByteArray} {p:Nat} (h:¬p < s.size):ch s p= []:=V0 h
theorem EQ {s:ByteArray} {p:Nat} (h:p < s.size):ch s p=p :: ch s (p + wdt s p):=by
  have hw:=JX h;unfold ch;obtain⟨k,hk⟩:∃ k,s.size - p=k + 1:=⟨s.size - p - 1,by omega⟩
  rw [hk];simp only [chF,if_pos h];rw [R6 (g:=s.size - (p + wdt s p)) om (Nat.le_refl _)]
def vq (s:ByteArray) (p:Nat):Bool:=(ch s p).all (P6 s)
theorem vq_end {s:ByteArray} {p:Nat} (h:¬p < s.size):vq s p=true:=by unfold vq;rw [WV h];rfl
theorem H5 {s:ByteArray} {p:Nat} (h:p < s.size) (ho:P6 s p=true):vq s p=vq s (p + wdt s p):=by
  unfold vq;rw [EQ h,List.all_cons,ho,Bool.true_and]
theorem H4 {s:ByteArray} {p:Nat} (h:p < s.size) (ho:P6 s p=false):vq s p=false:=by
  unfold vq;rw [EQ h,List.all_cons,ho,Bool.false_and]
theorem vq_low {s:ByteArray} {p:Nat} (h:p < s.size) (hb:gb s p < 128):vq s p=vq s (p + 1):=by
  rw [H5 h (by unfold P6;rw [decide_eq_true hb];rfl),(E9 hb).1]
theorem Ez {s:ByteArray}:∀ {k p:Nat},p + k≤s.size→(∀ j,j < k→gb s (p + j) < 128)→vq s p=vq s (p + k)
  | 0,_,_,_=>rfl
  | k + 1,p,h,hb=>by
    rw [vq_low (p:=p) om (hb 0 om),Ez (k:=k) (p:=p + 1) om (fun j hj=>by have:=hb (j + 1) om;rwa [show p + (j + 1)=p + 1 + j by omega] at this)]
    congr 1;omega
def spc (c:Nat):Bool:=decide (c=32) || decide (c=9) || decide (c=10) || decide (c=40) || decide (c=41) || decide (c=91) || decide (c=93) || decide (c=44) || decide (c=59)
theorem Cx {c:Nat} (h:spc c=true):c < 128:=by
  unfold spc at h;simp only [Bool.or_eq_true,decide_eq_true_eq] at h;omega
def brd (s:ByteArray) (p:Nat):Bool:=(ch s p).any (fun q=>spc (Utf8.decode s q).1)
theorem B8 {s:ByteArray} {p:Nat} (h:¬p < s.size):brd s p=false:=by unfold brd;rw [WV h];rfl
theorem Mx {s:ByteArray} {p:Nat} (h:p < s.size):brd s p=(spc (Utf8.decode s p).1 || brd s (p + wdt s p)):=by
  unfold brd;rw [EQ h,List.any_cons]
theorem brd_byte {s:ByteArray}:∀ {m p k:Nat},s.size - p≤m→p≤k→k < s.size→spc (gb s k)=true→brd s p=true:=by
  intro m
  induction m with
  | zero=>intro p k h1 h2 h3;omega
  | succ m ih=>
    intro p k h1 h2 h3 h4;have hp:p < s.size:=by omega
    have hw:=JX hp;rw [Mx hp];by_cases e:p=k
    · subst e
      have hl:=Cx h4;rw [(E9 hl).2,h4];rfl
    · by_cases e2:p + wdt s p≤k
      · rw [ih (p:=p + wdt s p) (k:=k) om e2 h3 h4,Bool.or_true]
      · have:=(By (s:=s) (p:=p) (j:=k - p) om om).1
        rw [show p + (k - p)=k by omega] at this;have:=Cx h4;omega
theorem byte_brd {s:ByteArray}:∀ {m p:Nat},s.size - p≤m→brd s p=true→∃ k,p≤k∧k < s.size∧spc (gb s k)=true:=by
  intro m
  induction m with
  | zero=>intro p h1 h;rw [B8 om] at h;cases h
  | succ m ih=>
    intro p h1 h;by_cases hp:p < s.size
    · have hw:=JX hp
      rw [Mx hp,Bool.or_eq_true] at h;rcases h with h | h
      · refine⟨p,Nat.le_refl _,hp,?_⟩
        by_cases hl:gb s p < 128
        · rwa [(E9 hl).2] at h
        · have:=dec_high hp om
          have:=Cx h;omega
      · obtain⟨k,h2,h3,h4⟩:=ih om h
        exact⟨k,by omega,h3,h4⟩
    · rw [B8 hp] at h;cases h
def gV (s:ByteArray):Bool:=decide (1≤(ch s 0).length) && decide ((ch s 0).length≤30) && vq s 0 && !brd s 0
theorem ok_bad {s:ByteArray} {p:Nat} (hb:128≤gb s p) (h:Lib.firstT (gb s p) % 8≠2) (h3:Lib.firstT (gb s p) % 8≠3) (h4:Lib.firstT (gb s p) % 8≠4):P6 s p=false:=by
  have hc:Lib.firstT (gb s p)=241∨Lib.firstT (gb s p) < 240:=by
    generalize gb s p=b at hb
    unfold Lib.firstT;rw [if_neg om]
    repeat' split
    all_goals omega
  have ht:Lib.firstT (gb s p)=241:=by
    rcases hc with ht | hl
    · exact ht
    · exfalso
      rcases Lib.firstT_low hl with q | q | q | q | q | q | q
      · rw [Lib.firstT_C2 q] at h;exact h rfl
      · rw [Lib.firstT_E0 q] at h3;exact h3 rfl
      · rw [Lib.firstT_E1 q] at h3;exact h3 rfl
      · rw [Lib.firstT_ED q] at h3;exact h3 rfl
      · rw [Lib.firstT_F0 q] at h4;exact h4 rfl
      · rw [Lib.firstT_F1 q] at h4;exact h4 rfl
      · rw [Lib.firstT_F4 q] at h4;exact h4 rfl
  have:wdt s p=1:=by
    unfold wdt;rw [B7,Lib.bad_eq _ _ _ _ _ (Zk s p) ht]
  unfold P6;rw [this,decide_eq_false om];rfl
theorem first_256 (b:Nat):Lib.firstT b < 256:=by
  unfold Lib.firstT
  repeat' split
  all_goals omega
theorem first_lt {s:ByteArray} {p:Nat} (h:Lib.firstT (gb s p) % 8=2∨Lib.firstT (gb s p) % 8=3∨Lib.firstT (gb s p) % 8=4):Lib.firstT (gb s p) < 240:=by
  have hc:Lib.firstT (gb s p)=240∨Lib.firstT (gb s p)=241∨Lib.firstT (gb s p) < 240:=by
    generalize gb s p=b
    unfold Lib.firstT
    repeat' split
    all_goals omega
  omega
def vy (s:ByteArray) (p n:Nat):Prop:=s.size - p < n∨gb s (p + 1) < Lib.accLo (Lib.firstT (gb s p) / 16)∨Lib.accHi (Lib.firstT (gb s p) / 16) < gb s (p + 1)∨(3≤n∧(gb s (p + 2) < 128∨191 < gb s (p + 2)))∨(4≤n∧(gb s (p + 3) < 128∨191 < gb s (p + 3)))
instance (s:ByteArray) (p n:Nat):Decidable (vy s p n):=by unfold vy;infer_instance
theorem ok_n {s:ByteArray} {p n:Nat} (hp:p < s.size) (hn:n=2∨n=3∨n=4) (h:Lib.firstT (gb s p) % 8=n):(vy s p n→P6 s p=false)∧(¬vy s p n→P6 s p=true∧wdt s p=n):=by
  have hx:=first_lt (s:=s) (p:=p) om;have hb:128≤gb s p:=by
    by_cases e:gb s p < 128
    · unfold Lib.firstT at hx;rw [if_pos e] at hx;omega
    · omega
  have he:=Lib.slow_eq (s.size - p) (gb s p) (gb s (p + 1)) (gb s (p + 2)) (gb s (p + 3)) om (Zk _ _) (Zk _ _) (Zk _ _) hx;rw [h] at he;have hw:wdt s p=(Lib.slowN (s.size - p) (gb s p) (gb s (p + 1)) (gb s (p + 2)) (gb s (p + 3)) n (Lib.accLo (Lib.firstT (gb s p) / 16)) (Lib.accHi (Lib.firstT (gb s p) / 16))).2:=by
    unfold wdt;rw [B7,he]
  have hok:P6 s p=decide (2≤wdt s p):=by unfold P6;rw [decide_eq_false om,Bool.false_or]
  constructor
  · intro hbad
    have:wdt s p=1:=by
      rw [hw];unfold Lib.slowN;unfold vy at hbad
      repeat' split
      all_goals first | rfl | (exfalso;omega)
    rw [hok,this];rfl
  · intro hbad
    have:wdt s p=n:=by
      rw [hw];unfold Lib.slowN;unfold vy at hbad
      repeat' split
      all_goals first | (exfalso;omega) | (simp only;omega)
    rw [hok,this];exact⟨decide_eq_true om,rfl⟩
theorem kY {P:Program} {n:Nat} {f:Fr} {w:World} {dst:Option Tmp} {gd:Option (Nat×Bool)} {ty:TypeId} {pos:String} {af:Array Edge} {x y:Operand} {t:TypeId} {s:ByteArray} {i:Nat} (hu:P.underlying t=some .string) (hx:ev n f x= .string s) (hy:ev n f y= .int .i64 i) (hi:i < s.size):
    RV P n f w ⟨dst,.index t x y,ty,pos,af,gd⟩ (.int .u8 ((gb s i:Nat):Int)) w:=by
  rw [← gb_at hi];exact HW hu hx hy hi
theorem Nx {a:Nat} (h:a < 18446744073709551616):IntKind.u64.wrap (a:Int)=a:=by rw [IntKind.wrap_u64];omega
def hiB:Nat:=9259542123273814144
def wo:Nat→ByteArray→Nat
  | 0,s=>gb s 0
  | k + 1,s=>wo k s ||| (gb s (k + 1) * 2 ^ (8 * (k + 1)))
theorem kW (s:ByteArray):∀ {k:Nat},k < 8→wo k s < 18446744073709551616
  | 0,_=>by have:=Zk s 0;unfold wo;omega
  | k + 1,h=>by
    have h1:=kW s (k:=k) om
    have h2:=Zk s (k + 1)
    have h3:gb s (k + 1) * 2 ^ (8 * (k + 1)) < 2 ^ 64:=by
      have:(2:Nat) ^ 64=2 ^ (64 - 8 * (k + 1)) * 2 ^ (8 * (k + 1)):=by rw [← Nat.pow_add];congr 1;omega
      rw [this];refine Nat.mul_lt_mul_of_pos_right ?_ (Nat.pow_pos dE);have:(2:Nat) ^ 8≤2 ^ (64 - 8 * (k + 1)):=Nat.pow_le_pow_right dE om;omega
    exact Nat.or_lt_two_pow (n:=64) h1 h3
theorem OW {a b c:Nat} (h:(a ||| b) &&& c=0):a &&& c=0∧b &&& c=0:=by
  constructor <;> refine Nat.eq_of_testBit_eq (fun i=>?_) <;> (have:=congrArg (fun z=>z.testBit i) h;simp at this ⊢;grind)
theorem wo_z (s:ByteArray):∀ {k:Nat},k < 8→wo k s &&& hiB=0→∀ j,j≤k→gb s j < 128
  | 0,_,h,j,hj=>by
    obtain rfl:j=0:=by omega
    have h1:=Zk s 0
    have h2:=congrArg (fun z=>z.testBit 7) h
    simp only [wo,Nat.testBit_and,Nat.zero_testBit] at h2
    have h3:hiB.testBit 7=true:=by decide
    rw [h3,Bool.and_true,Nat.testBit_eq_decide_div_mod_eq] at h2
    simp at h2
    omega
  | k + 1,hk,h,j,hj=>by
    obtain⟨h1,h2⟩:=OW h
    by_cases e:j=k + 1
    · subst e
      have h3:=Zk s (k + 1)
      have h4:=congrArg (fun z=>z.testBit (8 * (k + 1) + 7)) h2
      have h5:hiB.testBit (8 * (k + 1) + 7)=true:=by
        have:∀ k,k < 8→hiB.testBit (8 * k + 7)=true:=by decide
        exact this (k + 1) hk
      simp only [Nat.testBit_and,Nat.zero_testBit,h5,Bool.and_true,Nat.testBit_mul_two_pow] at h4;rw [Nat.add_sub_cancel_left,Nat.testBit_eq_decide_div_mod_eq] at h4;simp at h4;omega
    · exact wo_z s om h1 j om
theorem Zx (a p:Nat) (s:ByteArray):sdr a (sdr p s)=sdr (p + a) s:=H0 (by rw [Jk,Jk,Jk,List.drop_drop])
theorem asc8 {p:Nat} {s:ByteArray} (h:wo 7 (sdr p s) &&& hiB=0):∀ j,j < 8→gb s (p + j) < 128:=fun j hj=>by
  rw [← OQ];exact wo_z _ dE h j om
theorem asc16 {p:Nat} {s:ByteArray} (h:(wo 7 (sdr p s) ||| wo 7 (sdr 8 (sdr p s))) &&& hiB=0):∀ j,j < 16→gb s (p + j) < 128:=fun j hj=>by
  obtain⟨h1,h2⟩:=OW h
  rw [Zx] at h2
  by_cases e:j < 8
  · exact asc8 h1 j e
  · have:=asc8 h2 (j - 8) om
    rwa [show p + 8 + (j - 8)=p + j by omega] at this
theorem asc32 {p:Nat} {s:ByteArray} (h:((wo 7 (sdr p s) ||| wo 7 (sdr 8 (sdr p s))) ||| (wo 7 (sdr 16 (sdr p s)) ||| wo 7 (sdr 24 (sdr p s)))) &&& hiB=0):∀ j,j < 32→gb s (p + j) < 128:=fun j hj=>by
  obtain⟨h1,h2⟩:=OW h
  by_cases e:j < 16
  · exact asc16 h1 j e
  · have h3:(wo 7 (sdr (p + 16) s) ||| wo 7 (sdr 8 (sdr (p + 16) s))) &&& hiB=0:=by
      rw [Zx,Zx] at h2;rw [Zx];exact h2
    have:=asc16 h3 (j - 16) om
    rwa [show p + 16 + (j - 16)=p + j by omega] at this
def U8In (w:World):Prop:=(1 < w.heap.size∧∀ k,k < 256→w.cell? ⟨1,0 + k * 1,none⟩=some (.int .u8 ((Lib.firstT k:Nat):Int)))∧2 < w.heap.size∧∀ k,k < 16→w.rangeAt 2 (0 + k * 2) [.int .u8 ((Lib.accLo k:Nat):Int),.int .u8 ((Lib.accHi k:Nat):Int)]
theorem U8In.mono {w w':World} (h:U8In w) (hb:Bel w w'):U8In w':=⟨⟨nLL h.1.1 hb.size,fun k hk=>hb.cell h.1.1 (h.1.2 k hk)⟩,nLL h.2.1 hb.size,fun k hk=>hb.range h.2.1 (h.2.2 k hk)⟩
def CH:ByteArray:=⟨#[32,9,10,40,41,91,93,44,59]⟩
theorem LW:∀ i,i < 9→gb CH i < 128:=by decide +kernel
theorem ch_ix:∀ c,c < 256→decide (0≤Lib.indexByte (bl CH) c.toUInt8)=spc c:=by decide +kernel
def chs (k x:Nat):Bool:=(List.range k).any (fun j=>decide (gb CH j=x))
theorem chs_all:∀ x,x < 256→chs 9 x=spc x:=by decide +kernel
theorem chs_step (k x:Nat):chs (k + 1) x=if x=gb CH k then true else chs k x:=by
  unfold chs;rw [List.range_succ,List.any_append];by_cases h:x=gb CH k
  · simp [h]
  · simp [h,Ne.symm h]
theorem run_ixb {P:Program} {F:FuncId} {fn:Func} {s:ByteArray} {c:Int} {w:World} (hf:P.funcs[F]? =some fn) (hname:(fn.name == "runtime.NumGoroutine")=false) (hb:fn.body.isNone=true) (hn:Extern.findNext fn=none) (he:Extern.find fn=some Extern.BytealgIndexByte.indexByte):
    (callFunc F #[.string s,.int .u8 c]).run P w= .ok (.value (.int .i64 (Lib.indexByte (bl s) c.toNat.toUInt8))) w:=by
  rw [run_callFunc_extern hf hname hb hn he,Lib.run_indexByteString];rfl
theorem ixb_none {l:List UInt8} {c:UInt8} (h:¬c ∈ l):Lib.indexByte l c < 0:=by
  by_cases e:Lib.indexByte l c < 0
  · exact e
  · obtain⟨m,hm⟩:∃ m:Nat,Lib.indexByte l c=m:=⟨(Lib.indexByte l c).toNat,by omega⟩
    obtain⟨_,_,h3⟩:=Lj hm;exact absurd (by rw [h3];simp) h
theorem enc_hi {r:Nat} (h:128≤r):2≤(Utf8.encode (r:Int)).size∧(Utf8.encode (r:Int)).size≤4∧∀ i,i < (Utf8.encode (r:Int)).size→128≤gb (Utf8.encode (r:Int)) i:=by
  have key:∀ c:Nat,128≤c→c≤1114111→∀ e:ByteArray,e=(if c < 0x80 then ⟨#[UInt8.ofNat c]⟩ else if c < 0x800 then ⟨#[UInt8.ofNat (0xC0 + c / 64),UInt8.ofNat (0x80 + c % 64)]⟩ else if c < 0x10000 then ⟨#[UInt8.ofNat (0xE0 + c / 4096),UInt8.ofNat (0x80 + c / 64 % 64),UInt8.ofNat (0x80 + c % 64)]⟩ else ⟨#[UInt8.ofNat (0xF0 + c / 262144),UInt8.ofNat (0x80 + c / 4096 % 64),UInt8.ofNat (0x80 + c / 64 % 64),UInt8.ofNat (0x80 + c % 64)]⟩)→2≤e.size∧e.size≤4∧∀ i,i < e.size→128≤gb e i:=by
    intro c h1 h2 e he;have u8:∀ n:Nat,128≤n→n < 256→128≤(UInt8.ofNat n).toNat:=fun n a b=>by rw [UInt8.toNat_ofNat_of_lt' (by exact b)];exact a
    rw [if_neg om] at he
    split at he
    · subst he
      refine⟨Nat.le_refl _,by show 2≤4;decide,fun i hi=>?_⟩
      match i,hi with
      | 0,_=>exact u8 _ om om
      | 1,_=>exact u8 _ om om
    · split at he
      · subst he
        refine⟨by show 2≤3;decide,by show 3≤4;decide,fun i hi=>?_⟩
        match i,hi with
        | 0,_=>exact u8 _ om om
        | 1,_=>exact u8 _ om om
        | 2,_=>exact u8 _ om om
      · subst he
        refine⟨by show 2≤4;decide,Nat.le_refl _,fun i hi=>?_⟩
        match i,hi with
        | 0,_=>exact u8 _ om om
        | 1,_=>exact u8 _ om om
        | 2,_=>exact u8 _ om om
        | 3,_=>exact u8 _ om om
  refine key (if Utf8.valid (r:Int) then (r:Int).toNat else Utf8.runeError) ?_ ?_ _ rfl
  · split
    · exact h
    · decide
  · split
    · rename_i hv
      unfold Utf8.valid at hv;simp at hv;omega
    · decide
end Go.Proofs.YtdgnllfbooklcaaDoor
namespace Go.Proofs.YtdgnllfbooklcaaDoor
open Go.RowKit
structure Rl where
  name:ByteArray
  gr:List Nd
  kids:Int
  wt:Int
  mean:Tm
structure Lx where
  word:ByteArray
  gr:List Nd
  wt:Int
  mean:Tm
def RlIn (w:World) (b o:Nat) (r:Rl):Prop:=∃ G cg S cs B m,w.rangeAt b o [.string r.name,.slice G r.gr.length cg,.int .i64 r.kids,.int .i64 r.wt,.int .i64 r.mean.kind,.string r.mean.name,.int .i64 r.mean.index,.string r.mean.type.base,.slice S r.mean.type.args.length cs,.slice B r.mean.args.length m]∧NodesIn w G r.gr∧SimsIn w S r.mean.type.args∧TmsIn w B r.mean.args
def RulesIn (w:World) (A:Option Addr) (l:List Rl):Prop:=
  l.length≤j7∧(l≠[]→∃ b o,A=some ⟨b,o,none⟩∧b < w.heap.size∧∀ k (h:k < l.length),RlIn w b (o + k * 10) l[k])
def LxIn (w:World) (b o:Nat) (r:Lx):Prop:=r.word.size < 9223372036854775807∧∃ G cg S cs B m,w.rangeAt b o [.string r.word,.slice G r.gr.length cg,.int .i64 r.wt,.int .i64 r.mean.kind,.string r.mean.name,.int .i64 r.mean.index,.string r.mean.type.base,.slice S r.mean.type.args.length cs,.slice B r.mean.args.length m]∧NodesIn w G r.gr∧SimsIn w S r.mean.type.args∧TmsIn w B r.mean.args
def LexesIn (w:World) (A:Option Addr) (l:List Lx):Prop:=
  l.length≤j7∧(l≠[]→∃ b o,A=some ⟨b,o,none⟩∧b < w.heap.size∧∀ k (h:k < l.length),LxIn w b (o + k * 9) l[k])
theorem RlIn.mono {w w':World} {b o:Nat} {r:Rl} (h:RlIn w b o r) (hb:Bel w w') (hl:b < w.heap.size):RlIn w' b o r:=by
  obtain⟨G,cg,S,cs,B,m,h1,h2,h3,h4⟩:=h;exact⟨G,cg,S,cs,B,m,hb.range hl h1,h2.mono hb,h3.mono hb,h4.mono hb⟩
theorem LxIn.mono {w w':World} {b o:Nat} {r:Lx} (h:LxIn w b o r) (hb:Bel w w') (hl:b < w.heap.size):LxIn w' b o r:=by
  obtain⟨h0,G,cg,S,cs,B,m,h1,h2,h3,h4⟩:=h;exact⟨h0,G,cg,S,cs,B,m,hb.range hl h1,h2.mono hb,h3.mono hb,h4.mono hb⟩
theorem RulesIn.mono {w w':World} {A:Option Addr} {l:List Rl} (h:RulesIn w A l) (hb:Bel w w'):RulesIn w' A l:=
  ⟨h.1,fun hn=>by
    obtain⟨b,o,e,hl,hc⟩:=h.2 hn
    exact⟨b,o,e,nLL hl hb.size,fun k hk=>(hc k hk).mono hb hl⟩⟩
theorem LexesIn.mono {w w':World} {A:Option Addr} {l:List Lx} (h:LexesIn w A l) (hb:Bel w w'):LexesIn w' A l:=
  ⟨h.1,fun hn=>by
    obtain⟨b,o,e,hl,hc⟩:=h.2 hn
    exact⟨b,o,e,nLL hl hb.size,fun k hk=>(hc k hk).mono hb hl⟩⟩
theorem RulesIn.at_ {w w':World} {A:Option Addr} {l:List Rl} (h:RulesIn w A l) (hb:Bel w w') {k:Nat} (hk:k < l.length):
    ∃ b o G cg S cs B m,A=some ⟨b,o,none⟩∧b < w.heap.size∧w'.rangeAt b (o + k * 10) [Value.string (l[k]).name,.slice G (l[k]).gr.length cg,.int .i64 (l[k]).kids,.int .i64 (l[k]).wt,.int .i64 (l[k]).mean.kind,.string (l[k]).mean.name,.int .i64 (l[k]).mean.index,.string (l[k]).mean.type.base,.slice S (l[k]).mean.type.args.length cs,.slice B (l[k]).mean.args.length m]∧NodesIn w G (l[k]).gr∧SimsIn w S (l[k]).mean.type.args∧TmsIn w B (l[k]).mean.args:=by
  obtain⟨b,o,e,hl,hc⟩:=h.2 (by rintro rfl;simp at hk);obtain⟨G,cg,S,cs,B,m,h1,h2,h3,h4⟩:=hc k hk;exact⟨b,o,G,cg,S,cs,B,m,e,hl,hb.range hl h1,h2,h3,h4⟩
theorem LexesIn.at_ {w w':World} {A:Option Addr} {l:List Lx} (h:LexesIn w A l) (hb:Bel w w') {k:Nat} (hk:k < l.length):
    ∃ b o G cg S cs B m,A=some ⟨b,o,none⟩∧b < w.heap.size∧(l[k]).word.size < 9223372036854775807∧w'.rangeAt b (o + k * 9) [Value.string (l[k]).word,.slice G (l[k]).gr.length cg,.int .i64 (l[k]).wt,.int .i64 (l[k]).mean.kind,.string (l[k]).mean.name,.int .i64 (l[k]).mean.index,.string (l[k]).mean.type.base,.slice S (l[k]).mean.type.args.length cs,.slice B (l[k]).mean.args.length m]∧NodesIn w G (l[k]).gr∧SimsIn w S (l[k]).mean.type.args∧TmsIn w B (l[k]).mean.args:=by
  obtain⟨b,o,e,hl,hc⟩:=h.2 (by rintro rfl;simp at hk);obtain⟨h0,G,cg,S,cs,B,m,h1,h2,h3,h4⟩:=hc k hk;exact⟨b,o,G,cg,S,cs,B,m,e,hl,h0,hb.range hl h1,h2,h3,h4⟩
def plN (g:List Nd) (k:Int) (f:Nat):Bool:=decide ((0:Int)≤tgt (IV g 0).ln (f:Int)) == decide ((f:Int)≤k)
def oZ (g:List Nd) (k:Int):Bool:=(List.range 4).all (plN g k)
theorem nd_zero {g:List Nd} (h:0 < g.length):IV g 0=g[0]:=by simp [IV,List.getD,h]
theorem pl_yes {g:List Nd} {k:Int} (h:∀ f,f < 4→plN g k f=true):oZ g k=true:=List.all_eq_true.2 fun f hf=>h f (List.mem_range.1 hf)
theorem pl_no {g:List Nd} {k:Int} {f:Nat} (hf:f < 4) (h:plN g k f=false):oZ g k=false:=by
  cases e:oZ g k with
  | false=>rfl
  | true=>rw [List.all_eq_true.1 e f (List.mem_range.2 hf)] at h;cases h
theorem plN_of {g:List Nd} {k:Int} {f:Nat} (h:0 < g.length):plN g k f=(decide ((0:Int)≤tgt (g[0]).ln (f:Int)) == decide ((f:Int)≤k)):=by unfold plN;rw [nd_zero h]
def V5 (r:Rl):Prop:=r.kids < 1∨3 < r.kids∨r.wt < 0∨1000000 < r.wt
instance (r:Rl):Decidable (V5 r):=by unfold V5;infer_instance
noncomputable def J4 (l:List Ty) (fs:List Ft) (r:Rl):Int:=if V5 r then 3 else if (qK l fs r.gr).1≠0 then (qK l fs r.gr).1 else if oZ r.gr r.kids=true then (tmF r.mean).1 else 5
theorem FZ {l:List Ty} {fs:List Ft} {r:Rl} (h:V5 r):J4 l fs r=3:=if_pos h
theorem rl_gr {l:List Ty} {fs:List Ft} {r:Rl} (h:¬V5 r) (h2:¬(qK l fs r.gr).1=0):J4 l fs r=(qK l fs r.gr).1:=by unfold J4;rw [if_neg h,if_pos h2]
theorem rl_pl {l:List Ty} {fs:List Ft} {r:Rl} (h:¬V5 r) (h2:(qK l fs r.gr).1=0) (h3:oZ r.gr r.kids=false):J4 l fs r=5:=by unfold J4;rw [if_neg h,if_neg (fun e=>e h2),h3];rfl
theorem rl_ok {l:List Ty} {fs:List Ft} {r:Rl} (h:¬V5 r) (h2:(qK l fs r.gr).1=0) (h3:oZ r.gr r.kids=true):J4 l fs r=(tmF r.mean).1:=by unfold J4;rw [if_neg h,if_neg (fun e=>e h2),if_pos h3]
def NX (r:Lx):Prop:=r.wt < 0∨1000000 < r.wt
instance (r:Lx):Decidable (NX r):=by unfold NX;infer_instance
noncomputable def Ow (l:List Ty) (fs:List Ft) (r:Lx):Int:=if gV r.word=false then 10 else if NX r then 3 else if (qK l fs r.gr).1≠0 then (qK l fs r.gr).1 else (tmF r.mean).1
theorem L8 {l:List Ty} {fs:List Ft} {r:Lx} (h:gV r.word=false):Ow l fs r=10:=if_pos h
theorem lx_bad {l:List Ty} {fs:List Ft} {r:Lx} (h0:gV r.word=true) (h:NX r):Ow l fs r=3:=by unfold Ow;rw [h0,if_neg dE,if_pos h]
theorem lx_gr {l:List Ty} {fs:List Ft} {r:Lx} (h0:gV r.word=true) (h:¬NX r) (h2:¬(qK l fs r.gr).1=0):Ow l fs r=(qK l fs r.gr).1:=by unfold Ow;rw [h0,if_neg dE,if_neg h,if_pos h2]
theorem lx_ok {l:List Ty} {fs:List Ft} {r:Lx} (h0:gV r.word=true) (h:¬NX r) (h2:(qK l fs r.gr).1=0):Ow l fs r=(tmF r.mean).1:=by unfold Ow;rw [h0,if_neg dE,if_neg h,if_neg (fun e=>e h2)]
theorem Rw {l:List Ty} {fs:List Ft} {g:List Nd} (h:(qK l fs g).1=0):(vk l.length fs.length g).1=0:=by
  by_cases h1:(vk l.length fs.length g).1=0
  · exact h1
  · rw [I0 h1] at h;exact h
noncomputable def ux (l:List Ty) (fs:List Ft) (rs:List Rl) (i:Nat):Int:=match rs[i]? with
  | none=>0
  | some r=>if yX r.name=false then 10 else if oJ ((rs.take i).map (·.name)) r.name=true then 7 else J4 l fs r
noncomputable def N4 (l:List Ty) (fs:List Ft) (xs:List Lx) (i:Nat):Int:=match xs[i]? with
  | none=>0
  | some r=>Ow l fs r
theorem rn10 {l:List Ty} {fs:List Ft} {rs:List Rl} {i:Nat} (hi:i < rs.length) (h:yX (rs[i]).name=false):ux l fs rs i=10:=by
  simp only [ux,List.getElem?_eq_getElem hi,if_pos h]
theorem rn7 {l:List Ty} {fs:List Ft} {rs:List Rl} {i:Nat} (hi:i < rs.length) (h:yX (rs[i]).name=true) (h2:oJ ((rs.take i).map (·.name)) (rs[i]).name=true):ux l fs rs i=7:=by
  simp only [ux,List.getElem?_eq_getElem hi];rw [h,if_neg dE,if_pos h2]
theorem rnF {l:List Ty} {fs:List Ft} {rs:List Rl} {i:Nat} (hi:i < rs.length) (h:yX (rs[i]).name=true) (h2:oJ ((rs.take i).map (·.name)) (rs[i]).name=false):ux l fs rs i=J4 l fs rs[i]:=by
  simp only [ux,List.getElem?_eq_getElem hi];rw [h,if_neg dE,h2,if_neg dE]
theorem lnF {l:List Ty} {fs:List Ft} {xs:List Lx} {i:Nat} (hi:i < xs.length):N4 l fs xs i=Ow l fs xs[i]:=by
  simp only [N4,List.getElem?_eq_getElem hi]
noncomputable def vv (l:List Ty) (fs:List Ft) (rs:List Rl) (xs:List Lx) (st:List Nd):Fl:=
  if (qq l fs).1≠0 then qq l fs else if fs.length≤3 then (9,-1) else if 40 < rs.length∨100 < xs.length then (2,-1)
  else if (qZ (ux l fs rs) 0 rs.length).1≠0 then qZ (ux l fs rs) 0 rs.length else if (qZ (N4 l fs xs) 0 xs.length).1≠0 then qZ (N4 l fs xs) 0 xs.length
  else if (qK l fs st).1≠0 then ((qK l fs st).1,-1) else (0,0)
variable {l:List Ty} {fs:List Ft} {rs:List Rl} {xs:List Lx} {st:List Nd}
theorem M4 (h:¬(qq l fs).1=0):vv l fs rs xs st=((qq l fs).1,(qq l fs).2):=if_pos h
theorem B3 (h:(qq l fs).1=0) (h2:fs.length≤3):vv l fs rs xs st=(9,-1):=by unfold vv;rw [if_neg (fun e=>e h),if_pos h2]
theorem EZ (h:(qq l fs).1=0) (h2:¬fs.length≤3) (h3:40 < rs.length∨100 < xs.length):vv l fs rs xs st=(2,-1):=by unfold vv;rw [if_neg (fun e=>e h),if_neg h2,if_pos h3]
theorem K3 {c i:Int} (h:(qq l fs).1=0) (h2:¬fs.length≤3) (h3:¬(40 < rs.length∨100 < xs.length)) (h4:qZ (ux l fs rs) 0 rs.length=(c,i)) (hc:c≠0):vv l fs rs xs st=(c,i):=by
  unfold vv;rw [if_neg (fun e=>e h),if_neg h2,if_neg h3,h4,if_pos hc]
theorem gr_lex {c i:Int} (h:(qq l fs).1=0) (h2:¬fs.length≤3) (h3:¬(40 < rs.length∨100 < xs.length)) (h4:qZ (ux l fs rs) 0 rs.length=(0,0)) (h5:qZ (N4 l fs xs) 0 xs.length=(c,i)) (hc:c≠0):vv l fs rs xs st=(c,i):=by
  unfold vv;rw [if_neg (fun e=>e h),if_neg h2,if_neg h3,h4,if_neg dE,h5,if_pos hc]
theorem gr_start (h:(qq l fs).1=0) (h2:¬fs.length≤3) (h3:¬(40 < rs.length∨100 < xs.length)) (h4:qZ (ux l fs rs) 0 rs.length=(0,0)) (h5:qZ (N4 l fs xs) 0 xs.length=(0,0)) (h6:¬(qK l fs st).1=0):vv l fs rs xs st=((qK l fs st).1,-1):=by
  unfold vv;rw [if_neg (fun e=>e h),if_neg h2,if_neg h3,h4,if_neg dE,h5,if_neg dE,if_pos h6]
theorem gr_ok (h:(qq l fs).1=0) (h2:¬fs.length≤3) (h3:¬(40 < rs.length∨100 < xs.length)) (h4:qZ (ux l fs rs) 0 rs.length=(0,0)) (h5:qZ (N4 l fs xs) 0 xs.length=(0,0)) (h6:(qK l fs st).1=0):vv l fs rs xs st=(0,0):=by
  unfold vv;rw [if_neg (fun e=>e h),if_neg h2,if_neg h3,h4,if_neg dE,h5,if_neg dE,if_neg (fun e=>e h6)]
theorem feats_few (h:(qq l fs).1=0):fs.length≤40:=by
  unfold qq at h;by_cases h4:40 < fs.length
  · rw [if_pos h4] at h;cases h
  · omega
end Go.Proofs.YtdgnllfbooklcaaDoor
namespace Go.Proofs.YtdgnllfbooklcaaDoor
open Go.RowKit
section stp
variable {l:List Ty} {fs:List Ft} {ga gb X Y:List Nd} {j:Nat}
def vx (ga gb:List Nd):List Nd:=ga ++ gb.map (shN ga.length)
theorem Q0 (ga gb:List Nd):(vx ga gb).length=ga.length + gb.length:=by simp [vx]
theorem Vw {i:Nat} (h:i < ga.length):nd (vx ga gb) i=nd ga i:=uw h
theorem Kk {i:Nat} (h:i < ga.length + gb.length) (hn:¬i < ga.length):nd (vx ga gb) i=shN ga.length (nd gb (i - ga.length))∧i - ga.length < gb.length:=by
  have hl:i - ga.length < gb.length:=by omega
  have h2:=uY (U:=ga) hl;rw [show ga.length + (i - ga.length)=i by omega] at h2;exact⟨h2,hl⟩
theorem Zz (hga:GX l ga) (hgb:GX l gb) (hj:j < ga.length) {P rep ρ:Nat→Nat} {T:Nat→Int} {L:Nat→List (Int×Int)} {o:List Nat} (hus:US l (vx ga gb) [(j,ga.length)] P rep ρ T L []) (hd:DL (yx (vx ga gb).length rep T L) [rep 0] [] o):
    TrR (yx (vx ga gb).length rep T L) (rep 0) o∧GX l (yk (yx (vx ga gb).length rep T L) o)∧Maps l ga (yk (yx (vx ga gb).length rep T L) o)∧Adm l (vx ga gb) (yk (yx (vx ga gb).length rep T L) o) (fun i=>o.idxOf (rep i))∧o.idxOf (rep 0)=0∧o.idxOf (rep j)=o.idxOf (rep ga.length):=by
  have hlen:=Q0 ga gb;have hp:=hga.pos;have hpb:=hgb.pos;have h0:0 < (vx ga gb).length:=by omega
  have hgy:=hus.gy hga.vt h0;have hr:=hus.uf.rl 0 h0;have hrr:=hus.uf.two h0;have t:=hgy.trr (r:=rep 0) (by rw [yw];exact hr) hd;have hjr:rep j=rep ga.length:=hus.jcov (j,ga.length) (by simp) rep ⟨fun i hi=>(hus.uf.two hi).symm,fun w hw=>by cases hw⟩;have z0:∀ x:Nd,shN 0 x=x:=fun x=>YZ rfl (by simp [shN])
  obtain⟨φ,h1,h2,h3,h4,h5⟩:=hus.into hga.vt hr hrr t (g:=ga) (s:=0) hga (fun i hi=>by
    rw [Nat.zero_add,z0]
    exact⟨by omega,uw hi⟩) t.has
  obtain⟨ψ,k1,k2,k3,k4,k5⟩:=hus.into hga.vt hr hrr t (g:=gb) (s:=ga.length) hgb (fun i hi=>⟨by omega,uY hi⟩) (by rw [← hjr];have:=(h2 j hj).1;rwa [Nat.zero_add] at this);have e1:∀ i,i < ga.length→o.idxOf (rep i)=φ i:=fun i hi=>by have:=(h2 i hi).2;rw [Nat.zero_add] at this;exact this.symm
  have e2:∀ i,i < gb.length→o.idxOf (rep (ga.length + i))=ψ i:=fun i hi=>((k2 i hi).2).symm
  refine⟨t,t.gx hgy,⟨φ,by rw [h1];exact t.zero,h3,h4,h5⟩,⟨fun i hi=>?_,fun i hi=>?_,fun i hi x hx=>?_⟩,t.zero,by rw [hjr]⟩ <;> rw [hlen] at hi <;> by_cases e:i < ga.length
  · rw [e1 i e];exact h3 i e
  · obtain⟨_,hl⟩:=Kk hi e
    have:=e2 _ hl;rw [show ga.length + (i - ga.length)=i by omega] at this;rw [this];exact k3 _ hl
  · simp only [e1 i e];rw [Vw e];exact h4 i e
  · obtain⟨hn,hl⟩:=Kk hi e
    have:=e2 _ hl;rw [show ga.length + (i - ga.length)=i by omega] at this;simp only [this];rw [hn];exact k4 _ hl
  · simp only [e1 i e]
    rw [Vw e] at hx;have hxr:=hga.lr i e x hx;rw [h5 i e x hx,e1 _ hxr.2]
  · obtain⟨hn,hl⟩:=Kk hi e
    have he:=e2 _ hl;rw [show ga.length + (i - ga.length)=i by omega] at he;simp only [he];rw [hn] at hx;obtain⟨y,hy,rfl⟩:=List.mem_map.1 hx;have hyr:=hgb.lr _ hl y hy;rw [k5 _ hl y hy];have e3:(y.2 + (ga.length:Int)).toNat=ga.length + y.2.toNat:=by omega
    simp only [e3];rw [e2 _ hyr.2]
theorem C9 (hga:GX l ga) (hgb:GX l gb) (hj:j < ga.length) (h:Z2 l (vx ga gb) [(j,ga.length)] X):GX l X∧Maps l ga X:=by
  obtain⟨P,rep,ρ,T,L,o,hus,hd,rfl⟩:=h;obtain⟨_,a,b,_⟩:=Zz hga hgb hj hus hd;exact⟨a,b⟩
theorem D6 (hga:GX l ga) (hgb:GX l gb) (hj:j < ga.length) (h:Z2 l (vx ga gb) [(j,ga.length)] X):Jw l (vx ga gb) [(j,ga.length)]:=by
  obtain⟨P,rep,ρ,T,L,o,hus,hd,rfl⟩:=h;obtain⟨_,a,_,b,_,c⟩:=Zz hga hgb hj hus hd;exact⟨_,_,a.tr,b,fun p hp=>by rw [List.mem_singleton.1 hp];exact c⟩
theorem stp_le (hga:GX l ga) (hgb:GX l gb) (hj:j < ga.length) (h:Z2 l (vx ga gb) [(j,ga.length)] X) (k:Z2 l (vx ga gb) [(j,ga.length)] Y):Maps l X Y:=by
  obtain⟨P,rep,ρ,T,L,o,hus,hd,rfl⟩:=h;obtain⟨P',rep',ρ',T',L',o',hus',hd',rfl⟩:=k;obtain⟨t,_⟩:=Zz hga hgb hj hus hd;obtain⟨_,a,_,b,c,d⟩:=Zz hga hgb hj hus' hd';have h0:0 < (vx ga gb).length:=by have:=Q0 ga gb;have:=hga.pos;omega
  have hJ:∀ p ∈ [(j,ga.length)],(fun i=>o'.idxOf (rep' i)) p.1=(fun i=>o'.idxOf (rep' i)) p.2:=fun p hp=>by rw [List.mem_singleton.1 hp];exact d
  have hres:=(hus.only _ _ a.tr b hJ).1.1 0 h0;exact hus.least (hus.uf.rl 0 h0) (hus.uf.two h0) t a.tr b hJ (hres.symm.trans c)
theorem O5 (hga:GX l ga) (hgb:GX l gb) (hj:j < ga.length) (h:Z2 l (vx ga gb) [(j,ga.length)] X) (k:Z2 l (vx ga gb) [(j,ga.length)] Y):X=Y:=by
  have m1:=stp_le hga hgb hj h k;have m2:=stp_le hga hgb hj k h;have gx:=(C9 hga hgb hj h).1;have gy:=(C9 hga hgb hj k).1;have cX:∃ o,DL X [0] [] o∧yk X o=X:=by
    obtain⟨P,rep,ρ,T,L,o,hus,hd,rfl⟩:=h;obtain⟨t,_⟩:=Zz hga hgb hj hus hd;exact⟨_,by have:=t.dl2 t.has t.dl;rw [t.zero] at this;exact this,t.can2 t.has t.dl⟩
  have cY:∃ o,DL Y [0] [] o∧yk Y o=Y:=by
    obtain⟨P,rep,ρ,T,L,o,hus,hd,rfl⟩:=k;obtain⟨t,_⟩:=Zz hga hgb hj hus hd;exact⟨_,by have:=t.dl2 t.has t.dl;rw [t.zero] at this;exact this,t.can2 t.has t.dl⟩
  obtain⟨o,ho,e⟩:=cX;obtain⟨p,hp,e2⟩:=cY;have:=WW gx gy m1 m2 ho hp;rw [e,e2] at this;exact this.symm
theorem stp_valid (ha:GV l fs ga) (hb:GV l fs gb) (hj:j < ga.length) (h:Z2 l (vx ga gb) [(j,ga.length)] X) (h60:X.length≤60):vQ l fs X=(0,0):=by
  have hl:=(C9 ha.gx hb.gx hj h).1;obtain⟨P,rep,ρ,T,L,o,hus,hd,rfl⟩:=h;have hlen:=Q0 ga gb;have h0:0 < (vx ga gb).length:=by have:=ha.gok.pos;omega
  obtain⟨t,_⟩:=Zz ha.gx hb.gx hj hus hd
  have hfit:=hus.fit (fs:=fs) ha.s.vt (hus.uf.rl 0 h0) (hus.uf.two h0) t (fun i hi x hx=>by
    rw [hlen] at hi;by_cases e:i < ga.length
    · rw [Vw e] at hx ⊢
      have h1:=ha.lt e hx;have h2:=(ha.gx.lr i e x hx).2;rw [Vw h2];exact⟨⟨h1.1,h1.2.1⟩,h1.2.2⟩
    · obtain⟨h3,hl2⟩:=Kk hi e
      rw [h3] at hx ⊢;obtain⟨y,hy,rfl⟩:=List.mem_map.1 hx;have h1:=hb.lt hl2 hy;have h2:=(hb.gx.lr _ hl2 y hy).2;have h4:=(hb.gx.lr _ hl2 y hy).1;have e1:(y.2 + (ga.length:Int)).toNat=ga.length + y.2.toNat:=by omega
      simp only [e1];rw [show nd (vx ga gb) (ga.length + y.2.toNat)=_ from uY h2]
      exact⟨⟨h1.1,h1.2.1⟩,h1.2.2⟩)
  exact gf_mk ha.h hl h60 hfit.1 hfit.2
def plc (g:List Nd) (f:Int):Int:=tgt (nd g 0).ln f
theorem stp_plc (hga:GX l ga) (hgb:GX l gb) (hj:j < ga.length) (h:Z2 l (vx ga gb) [(j,ga.length)] X) {f:Int} (hf:0≤plc ga f):0≤plc X f:=by
  obtain⟨φ,hφ⟩:=(C9 hga hgb hj h).2;unfold plc at hf ⊢;rcases C7 (xs:=(nd ga 0).ln) (f:=f) with e | ⟨y,hy,e1,_⟩
  · omega
  · have:=hφ.ln 0 hga.pos y hy
    rw [hφ.zero,e1] at this;omega
structure Jok (l:List Ty) (fs:List Ft) (m:Int) (g:List Nd):Prop where
  v:GV l fs g
  z:vQ l fs g=(0,0)
  p:∀ f:Int,0≤f→f≤m→0≤plc g f
theorem Jok.lt {m f:Int} {g:List Nd} (h:Jok l fs m g) (h0:0≤f) (hm:f≤m):(plc g f).toNat < g.length:=by
  have hp:=h.p f h0 hm;rcases C7 (xs:=(nd g 0).ln) (f:=f) with e | ⟨y,hy,e1,e2⟩
  · unfold plc at hp;omega
  · have:=(h.v.gx.lr 0 h.v.gx.pos y hy).2
    unfold plc;rw [e2];exact this
theorem Jok.step {m f:Int} {k:List Nd} (h:Jok l fs m ga) (hk:GV l fs k) (h0:0≤f) (hm:f≤m) (hX:Z2 l (vx ga k) [((plc ga f).toNat,ga.length)] X) (h60:X.length≤60):Jok l fs m X:=by
  have z:=stp_valid h.v hk (h.lt h0 hm) hX h60;exact⟨TW (by rw [z]),z,fun q q0 qm=>stp_plc h.v.gx hk.gx (h.lt h0 hm) hX (h.p q q0 qm)⟩
def BadU (l:List Ty) (U:List Nd) (J:List (Nat×Nat)):Prop:=¬Jw l U J∨∃ X,Z2 l U J X∧60 < X.length
theorem bad_no (hga:GX l ga) (hgb:GX l gb) (hj:j < ga.length) (h:BadU l (vx ga gb) [(j,ga.length)]) (hX:Z2 l (vx ga gb) [(j,ga.length)] X) (h60:X.length≤60):False:=by
  rcases h with h | ⟨Z,hZ,hz⟩
  · exact h (D6 hga hgb hj hX)
  · rw [O5 hga hgb hj hX hZ] at h60;omega
def Q7 (l:List Ty):List Nd→Nat→List (List Nd)→Bool→List Nd→Prop
  | x,_,[],ok,Y=>ok=true∧∃ o,DL x [(plc x 0).toNat] [] o∧Y=yk x o
  | x,i,k :: ks,ok,Y=>(∃ X,Z2 l (vx x k) [((plc x ((i:Int) + 1)).toNat,x.length)] X∧X.length≤60∧Q7 l X (i + 1) ks ok Y)∨(BadU l (vx x k) [((plc x ((i:Int) + 1)).toNat,x.length)]∧ok=false∧Y= [])
theorem join_no {x k:List Nd} {i:Nat} {ks:List (List Nd)} (h:BadU l (vx x k) [((plc x ((i:Int) + 1)).toNat,x.length)]):Q7 l x i (k :: ks) false []:= .inr ⟨h,rfl,rfl⟩
theorem Tw {m:Int}:∀ (ks:List (List Nd)) (x:List Nd) (i:Nat) (ok ok':Bool) (Y Y':List Nd),Jok l fs m x→(∀ k ∈ ks,GV l fs k)→(i:Int) + ks.length≤m→Q7 l x i ks ok Y→Q7 l x i ks ok' Y'→ok=ok'∧Y=Y'
  | [],x,i,ok,ok',Y,Y',hx,_,_,h,h'=>by
    obtain⟨rfl,o,ho,rfl⟩:=h
    obtain⟨rfl,o',ho',rfl⟩:=h'
    exact⟨rfl,by rw [DL.det ho ho']⟩
  | k :: ks,x,i,ok,ok',Y,Y',hx,hk,hm,h,h'=>by
    rw [List.length_cons] at hm
    have hkv:=hk k (List.mem_cons_self ..)
    have hlt:=hx.lt (f:=(i:Int) + 1) om om
    rcases h with ⟨X,h1,h2,h3⟩ | ⟨h1,rfl,rfl⟩
    · rcases h' with ⟨X',k1,k2,k3⟩ | ⟨k1,_⟩
      · obtain rfl:=O5 hx.v.gx hkv.gx hlt h1 k1
        exact Tw ks X (i + 1) ok ok' Y Y' (hx.step hkv om om h1 h2) (fun q hq=>hk q (List.mem_cons_of_mem _ hq)) om h3 k3
      · exact(bad_no hx.v.gx hkv.gx hlt k1 h1 h2).elim
    · rcases h' with ⟨X',k1,k2,_⟩ | ⟨_,rfl,rfl⟩
      · exact(bad_no hx.v.gx hkv.gx hlt h1 k1 k2).elim
      · exact⟨rfl,rfl⟩
theorem Z3 {g:List Nd} (h:(qq l fs).1=0) (h2:(qK l fs g).1=0):GV l fs g∧vQ l fs g=(0,0):=by
  have e:(vQ l fs g).1=0:=by rw [Jq h];exact h2
  have hv:=TW e;exact⟨hv,by rw [Jq h,X4 hv.lo hv.t hv.u]⟩
theorem jok_rule {r:Rl} (h:(qq l fs).1=0) (h2:(qK l fs r.gr).1=0) (h3:oZ r.gr r.kids=true) (h4:r.kids≤3):Jok l fs r.kids r.gr:=by
  obtain⟨hv,hz⟩:=Z3 h h2;refine⟨hv,hz,fun f f0 fm=>?_⟩;obtain⟨n,hn⟩:=Int.eq_ofNat_of_zero_le f0;subst hn;have:=List.all_eq_true.1 h3 n (List.mem_range.2 om);unfold plN at this;have e:decide ((n:Int)≤r.kids)=true:=decide_eq_true fm;rw [e] at this;have h5:(0:Int)≤tgt (IV r.gr 0).ln (n:Int):=by simpa using this
  exact h5
end stp
end Go.Proofs.YtdgnllfbooklcaaDoor
namespace Go.Proofs.YtdgnllfbooklcaaDoor
open Go.RowKit
section monok
variable {P:Program} {Q:Exit→Act→World→Prop} {n:Nat} {f:Fr} {w:World}
def vO (f:Fr) (o:Oper):Value:=match o.dst with
  | some d=>f d
  | none=>undef
def rO (R:Nat→Value→World→Prop) (i:Nat) (o:Oper) (v:Value) (w:World):Prop:=match o.dst with
  | some _=>R i v w
  | none=>R i undef w
def Oj (l:List Oper) (m:Nat) (S:List Nat):Bool:=
  decide (l.length=m) && (List.range l.length).all (fun i=>match l[i]? with
    | some o=>o.guard.isNone && (yJ o).all (fun j=>decide (j < i)) && (match o.dst with
      | some d=>mem S d && (List.range l.length).all (fun j=>decide (i=j) || (match l[j]? with | some o'=>!(o'.dst == some d) | none=>true))
      | none=>true)
    | none=>false)
theorem CX {Post:Value→World→Prop} {op:Op} {ty:TypeId} {pos:String} {af:Array Edge} (h:∀ (ops:Array Oper) (Q:Exit→Act→World→Prop),(∀ w',Post undef w'→WL P ops Q [] n f w')→WL P ops Q [⟨none,op,ty,pos,af,none⟩] n f w):OS P n f w ⟨none,op,ty,pos,af,none⟩ Post:=by
  unfold OS;intro K Q hK
  have h1:=h #[] (Dv K Q) (fun w' hp=>by
    unfold WL;refine wpList_nil ?_;have:=hK undef w' hp
    exact this)
  unfold WL wpList at h1;rw [if_pos (by simp [Region.wanted])] at h1;have ho:¬LetsOut (Dv K Q):=fun⟨_,_,h⟩=>h
  rcases h1 with h1 | ⟨_,h1⟩
  · exact Kz (Q:=Dv K Q) (fun a w h=>h) (fun c a w h=>h) ho h1
  · exact absurd h1 ho
theorem c_monoK {id:Nat} {l:List Oper} (m:Nat) (S X:List Nat) (R:Nat→Value→World→Prop) (J:World→Prop) (hm:P.follows .mixedOrders=true) (hB:Oj l m S=true) (hJ0:∀ w',Same [] w w'→J w')
    (step:∀ i o,i < m→l[i]? =some o→∀ f' w',Same X w w'→J w'→Ag S f' f→(∀ j o',j ∈ yJ o→l[j]? =some o'→R j (vO f' o') w')→OS P n f' w' o (fun v w''=>Same X w' w''∧J w''∧rO R i o v w''∧∀ k v,k≠i→R k v w'→R k v w''))
    (fin:∀ f' w',Same X w w'→J w'→Ag S f' f→(∀ i o,l[i]? =some o→R i (vO f' o) w')→WL P l.toArray Q [] n f' w'):WC P (.region id l.toArray true) Q n f w:=by
  unfold WC;refine wp_region_any hm ?_;simp only [Oj,Bool.and_eq_true,List.all_eq_true,List.mem_range,decide_eq_true_eq] at hB;obtain⟨hlm,hB⟩:=hB;have hget:∀ i o,l[i]? =some o→o.guard=none∧(∀ j ∈ yJ o,j < i)∧∀ d,o.dst=some d→mem S d=true∧∀ j o',l[j]? =some o'→i≠j→o'.dst≠some d:=fun i o ho=>by
    have hil:i < l.length:=(List.getElem?_eq_some_iff.1 ho).1;have h:=hB i hil;simp only [ho,Bool.and_eq_true] at h;obtain⟨⟨h1,h2⟩,h3⟩:=h;refine⟨Option.isNone_iff_eq_none.1 h1,fun j hj=>by simpa using List.all_eq_true.1 h2 j hj,fun d hd=>?_⟩;simp only [hd,Bool.and_eq_true] at h3;refine⟨h3.1,fun j o' ho' hne hd'=>?_⟩;have h4:=List.all_eq_true.1 h3.2 j (List.mem_range.2 (List.getElem?_eq_some_iff.1 ho').1);simp [ho',hd',hne] at h4
  have key:∀ (fuel:Nat) (listed:Array Bool) (f':Fr) (w':World),listed.size=l.length→Dn l listed→Same X w w'→J w'→Ag S f' f→(∀ i o,l[i]? =some o→listed.getD i false=true→R i (vO f' o) w')→
      (List.range l.length).countP (fun i=>!listed.getD i false)≤fuel→wpAny P .any l.toArray Q fuel listed (AF n f') w':=by
    have fin':∀ (listed:Array Bool) (f':Fr) (w':World),Same X w w'→J w'→Ag S f' f→(∀ i o,l[i]? =some o→listed.getD i false=true→R i (vO f' o) w')→(∀ i,i < l.length→listed.getD i false=true)→Q .normal (AF n f') w':=fun listed f' w' hs hj hag hR hall=>by
      have:=fin f' w' hs hj hag (fun i o ho=>hR i o ho (hall i (List.getElem?_eq_some_iff.1 ho).1));unfold WL at this;exact this
    intro fuel
    induction fuel with
    | zero=>
      intro listed f' w' hs hD hsm hj hag hR hc;have hall:∀ i,i < l.length→listed.getD i false=true:=by
        intro i hi;have h0:(List.range l.length).countP (fun i=>!listed.getD i false)=0:=by omega
        rw [List.countP_eq_zero] at h0;have:=h0 i (List.mem_range.2 hi)
        simpa using this
      refine⟨?_,fin' listed f' w' hsm hj hag hR hall⟩;cases hr:Region.ready .any l.toArray listed with
      | nil=>rfl
      | cons i r=>
        obtain⟨o,ho,hn,_⟩:=u6 listed i (by rw [hr];simp);have:i < l.length:=(List.getElem?_eq_some_iff.1 ho).1;rw [hall i om] at hn;cases hn
    | succ fuel ih=>
      intro listed f' w' hs hD hsm hj hag hR hc;refine⟨fun hr=>?_,fun i hi=>?_⟩
      · have hall:∀ k,k≤l.length→∀ i,i < k→listed.getD i false=true:=by
          intro k
          induction k with
          | zero=>intro _ i hi;omega
          | succ k ihk=>
            intro hk i hi;have ihk':=ihk om;by_cases hik:i < k
            · exact ihk' i hik
            · have:i=k:=by omega
              subst this;cases hb:listed.getD i false with
              | true=>rfl
              | false=>
                have ho:l[i]? =some l[i]:=List.getElem?_eq_getElem om;have:=JW listed i _ hs ho hb (fun j hj=>ihk' j ((hget i _ ho).2.1 j hj));rw [hr] at this;cases this
        exact fin' listed f' w' hsm hj hag hR (hall l.length (Nat.le_refl _))
      · obtain⟨o,ho,hn,hd⟩:=u6 listed i hi
        have hil:i < l.length:=(List.getElem?_eq_some_iff.1 ho).1;obtain⟨hg,hdl,hdd⟩:=hget i o ho;unfold wpOp;simp only [List.getElem?_toArray,ho];rw [if_pos (by simp [Region.wanted,hg])]
        left
        have hst1:=step i o om ho f' w' hsm hj hag (fun j o' hjd ho'=>hR j o' ho' (hd j hjd));unfold OS at hst1;refine hst1 _ _ ?_
        rintro v w'' ⟨hs1,hj1,hr1,hk1⟩
        have hli:∀ j,i≠j→(listed.setIfInBounds i true).getD j false=listed.getD j false:=fun j hij=>by
          simp only [Array.getD_eq_getD_getElem?,Array.getElem?_setIfInBounds_ne hij]
        have hlt:=jv (p:=fun i=>!listed.getD i false) (q:=fun k=>!(listed.setIfInBounds i true).getD k false) (fun x hx=>by
          by_cases hix:i=x
          · subst hix;simp [hn]
          · simpa only [Array.getD_eq_getD_getElem?,Array.getElem?_setIfInBounds_ne hix] using hx) (List.range l.length) i (List.mem_range.2 hil) (by simp [hn]) (by
            have:i < listed.size:=by omega
            simp [this])
        cases hdst:o.dst with
        | none=>
          have hri:R i undef w'':=by simpa only [rO,hdst] using hr1
          show wpAny P .any l.toArray Q fuel (listed.setIfInBounds i true) (AF n f') w'';refine ih _ _ _ (by simpa using hs) (hD.set om ho hd) (hsm.trans hs1) hj1 hag (fun j o' ho' hl'=>?_) om;by_cases hij:i=j
          · subst hij
            rw [ho] at ho';cases ho'
            simpa only [vO,hdst] using hri
          · rw [hli j hij] at hl'
            exact hk1 j _ (fun e=>hij e.symm) (hR j o' ho' hl')
        | some d=>
          have hri:R i v w'':=by simpa only [rO,hdst] using hr1
          obtain⟨hSd,hne⟩:=hdd d hdst;rw [uk];refine ih _ _ _ (by simpa using hs) (hD.set om ho hd) (hsm.trans hs1) hj1 (KW hSd hag) (fun j o' ho' hl'=>?_) om;by_cases hij:i=j
          · subst hij
            rw [ho] at ho';cases ho';have:vO (upd f' d v) o=v:=by simp [vO,hdst,upd]
            rw [this];exact hri
          · rw [hli j hij] at hl'
            have:vO (upd f' d v) o'=vO f' o':=by
              unfold vO;cases hd':o'.dst with
              | none=>rfl
              | some d'=>
                have h1:=hne j o' ho' hij;rw [hd'] at h1;simp only [upd];have:Nat.beq d' d=false:=by
                  cases hb:Nat.beq d' d
                  · rfl
                  · exact absurd (congrArg some (Nat.eq_of_beq_eq_true hb)) h1
                simp [this]
            rw [this];exact hk1 j _ (fun e=>hij e.symm) (hR j o' ho' hl')
  have h0:=key l.length (Array.replicate l.length false) f { w with drawn:=w.drawn + 1 } (by simp) (fun j o _ h=>by
    simp only [Array.getD_eq_getD_getElem?,Array.getElem?_replicate] at h
    split at h <;> cases h) ((Same.drew w 1).weak (fun x hx=>by cases hx)) (hJ0 _ (Same.drew w 1)) Xj (fun i o _ h=>by
    simp only [Array.getD_eq_getD_getElem?,Array.getElem?_replicate] at h
    split at h <;> cases h) (by
      have:=List.countP_le_length (p:=fun i=>!(Array.replicate l.length false).getD i false) (l:=List.range l.length);simp only [List.length_range] at this
      omega)
  simpa using h0
theorem c_monoKO {id:Nat} {l:List Oper} (m:Nat) (S X:List Nat) (R:Nat→Value→World→Prop) (J:World→Prop) (hm:P.follows .mixedOrders=true) (hB:Oj l m S=true)
    (hst:∀ i v w1 w2,R i v w1→Same [] w1 w2→R i v w2) (hJ:∀ w1 w2,J w1→Same [] w1 w2→J w2) (hJ0:J w)
    (step:∀ i o,i < m→l[i]? =some o→∀ g w',Same X w w'→J w'→(∀ j o',j ∈ yJ o→l[j]? =some o'→R j (vO g o') w')→match o.dst with
      | some _=>OS P n (ovr S g f) w' o (fun v w''=>Same [] w' w''∧R i v w''∧PW false w' w'' v)
      | none=>OS P n (ovr S g f) w' o (fun _ w''=>Same X w' w''∧J w''∧R i undef w''∧∀ k v,k≠i→R k v w'→R k v w''))
    (fin:∀ g w',Same X w w'→J w'→(∀ i o,l[i]? =some o→R i (vO g o) w')→WL P l.toArray Q [] n (ovr S g f) w'):WC P (.region id l.toArray true) Q n f w:=by
  refine c_monoK m S X R J hm hB (fun w' hs=>hJ _ _ hJ0 hs) (fun i o hi ho f' w' hs hj hag hd=>?_) (fun f' w' hs hj hag hR=>?_)
  · have h:=step i o hi ho f' w' hs hj hd
    rw [← Z1 hag] at h;unfold rO;cases hdst:o.dst with
    | some d=>
      simp only [hdst] at h;unfold OS at h ⊢;exact fun K Q hK=>h K Q (fun v w'' ⟨h1,h2,_⟩=>hK v w'' ⟨h1.weak (fun x hx=>by cases hx),hJ _ _ hj h1,h2,fun k v _ hr=>hst k v _ _ hr h1⟩)
    | none=>
      simp only [hdst] at h;unfold OS at h ⊢;exact fun K Q hK=>h K Q (fun v w'' h1=>hK v w'' h1)
  · have:=fin f' w' hs hj hR
    rwa [← Z1 hag] at this
end monok
end Go.Proofs.YtdgnllfbooklcaaDoor
