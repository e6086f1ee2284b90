/- Words: the places of a string's runes, which of them are right, which bytes are barred. No program in sight. Rules, words and grammars as plain values, how a world holds them, and what is wrong with them. No program in sight. What stays true of data while only blocks of some types, or newer blocks, are changed; simple types and terms as values of a call. No program in sight. Rows of ints as graphs: what graphOf lays. No program in sight. What lies behind the cells of a row of words, and of rules. No program in sight. -/
import Derived.Test.YtbcpgfnfiekbiaaGreatDoorRng
import Derived.Lib.RuneCount
import Derived.Lib.DecodeNEq
import Derived.Test.YtbcpgfnfiekbiaaGreatDoorTrm
namespace Go.Proofs.YtbcpgfnfiekbiaaGreatDoor
open Go.RowKit
def gb (s:ByteArray) (k:Nat):Nat:=(s.get! k).toNat
theorem u5 (s:ByteArray) (k:Nat):gb s k < 256:=(s.get! k).toNat_lt
theorem gb_at {s:ByteArray} {k:Nat} (h:k < s.size):(s[k]'h).toNat=gb s k:=by
  unfold gb;rw [show s.get! k=s[k]'h from get_at s k h]
theorem gb_bl (s:ByteArray) (k:Nat):gb s k=((bl s).getD k 0).toNat:=by
  unfold gb bl
  congr 1
  simp only [ByteArray.get!,List.getD];rw [Array.getElem?_toList];cases h:s.data[k]? with
  | none=>rw [getElem!_def,h];rfl
  | some c=>rw [getElem!_def,h];rfl
theorem Qy (p:Nat) (s:ByteArray) (k:Nat):gb (sdr p s) k=gb s (p + k):=by
  rw [gb_bl,gb_bl,Vw];simp [List.getD]
def wdt (s:ByteArray) (p:Nat):Nat:=(Utf8.decode s p).2
def ZY (s:ByteArray) (p:Nat):Bool:=decide (gb s p < 128) || decide (2≤wdt s p)
theorem Z3 (s:ByteArray) (p:Nat):Utf8.decode s p=Lib.decodeN (s.size - p) (gb s p) (gb s (p + 1)) (gb s (p + 2)) (gb s (p + 3)):=Lib.decode_at s p
theorem K4 {s:ByteArray} {p:Nat} (h:gb s p < 128):wdt s p=1∧(Utf8.decode s p).1=gb s p:=by
  unfold wdt;rw [Z3];unfold Lib.decodeN;rw [if_pos h];exact⟨rfl,rfl⟩
theorem Q7 {s:ByteArray} {p:Nat} (h:p < s.size):1≤wdt s p:=Lib.decode_width_pos s p h
theorem dec_high {s:ByteArray} {p:Nat} (h:p < s.size) (hb:128≤gb s p):128≤(Utf8.decode s p).1:=(decode_high s p h (by rw [gb_at h];exact hb)).1
theorem T0 {s:ByteArray} {p j:Nat} (h1:0 < j) (h2:j < wdt s p):128≤gb s (p + j)∧p + j < s.size:=by
  unfold wdt at h2;rw [Z3] at h2;unfold Lib.decodeN at h2
  split at h2
  · simp at h2;omega
  · split at h2
    · rename_i _ q
      split at h2
      · obtain rfl:j=1:=by simp at h2;omega
        omega
      · simp at h2;omega
    · split at h2
      · rename_i _ _ q
        split at h2
        · have:j=1∨j=2:=by simp at h2;omega
          rcases this with rfl | rfl <;> omega
        · simp at h2;omega
      · split at h2
        · rename_i _ _ _ q
          split at h2
          · have:j=1∨j=2∨j=3:=by simp at h2;omega
            rcases this with rfl | rfl | rfl <;> omega
          · simp at h2;omega
        · simp at h2;omega
theorem Cz {s:ByteArray} {p:Nat} (h:p < s.size):p + wdt s p≤s.size:=by
  by_cases e:wdt s p≤1
  · omega
  · have:=(T0 (s:=s) (p:=p) (j:=wdt s p - 1) om om).2
    omega
def chF (s:ByteArray):Nat→Nat→List Nat
  | 0,_=>[]
  | f + 1,p=>if p < s.size then p :: chF s f (p + wdt s p) else []
theorem Y4 {s:ByteArray} {f p:Nat} (h:¬p < s.size):chF s f p= []:=by cases f <;> simp [chF,h]
theorem W6 {s:ByteArray}:∀ {f g p:Nat},s.size - p≤f→s.size - p≤g→chF s f p=chF s g p
  | 0,g,p,hf,_=>by rw [Y4 om,Y4 om]
  | f + 1,0,p,_,hg=>by rw [Y4 om,Y4 om]
  | f + 1,g + 1,p,hf,hg=>by
    by_cases h:p < s.size
    · have:=Q7 h
      simp only [chF,if_pos h]
      rw [W6 (f:=f) (g:=g) om om]
    · rw [Y4 h,Y4 h]
def ch (s:ByteArray) (p:Nat):List Nat:=chF s (s.size - p) p
theorem SZ {s:ByteArray} {p:Nat} (h:¬p < s.size):ch s p= []:=Y4 h
theorem Iy {s:ByteArray} {p:Nat} (h:p < s.size):ch s p=p :: ch s (p + wdt s p):=by
  have hw:=Q7 h;unfold ch;obtain⟨k,hk⟩:∃ k,s.size - p=k + 1:=⟨s.size - p - 1,by omega⟩
  rw [hk];simp only [chF,if_pos h];rw [W6 (g:=s.size - (p + wdt s p)) om (Nat.le_refl _)]
def vq (s:ByteArray) (p:Nat):Bool:=(ch s p).all (ZY s)
theorem vq_end {s:ByteArray} {p:Nat} (h:¬p < s.size):vq s p=true:=by unfold vq;rw [SZ h];rfl
theorem T6 {s:ByteArray} {p:Nat} (h:p < s.size) (ho:ZY s p=true):vq s p=vq s (p + wdt s p):=by
  unfold vq;rw [Iy h,List.all_cons,ho,Bool.true_and]
theorem T5 {s:ByteArray} {p:Nat} (h:p < s.size) (ho:ZY s p=false):vq s p=false:=by
  unfold vq;rw [Iy h,List.all_cons,ho,Bool.false_and]
theorem vq_low {s:ByteArray} {p:Nat} (h:p < s.size) (hb:gb s p < 128):vq s p=vq s (p + 1):=by
  rw [T6 h (by unfold ZY;rw [decide_eq_true hb];rfl),(K4 hb).1]
theorem Nw {s:ByteArray}:∀ {k p:Nat},p + k≤s.size→(∀ j,j < k→gb s (p + j) < 128)→vq s p=vq s (p + k)
  | 0,_,_,_=>rfl
  | k + 1,p,h,hb=>by
    rw [vq_low (p:=p) om (hb 0 om),Nw (k:=k) (p:=p + 1) om (fun j hj=>by have:=hb (j + 1) om;rwa [show p + (j + 1)=p + 1 + j by omega] at this)]
    congr 1;omega
def spc (c:Nat):Bool:=decide (c=32) || decide (c=9) || decide (c=10) || decide (c=40) || decide (c=41) || decide (c=91) || decide (c=93) || decide (c=44) || decide (c=59)
theorem CQ {c:Nat} (h:spc c=true):c < 128:=by
  unfold spc at h;simp only [Bool.or_eq_true,decide_eq_true_eq] at h;omega
def brd (s:ByteArray) (p:Nat):Bool:=(ch s p).any (fun q=>spc (Utf8.decode s q).1)
theorem E2 {s:ByteArray} {p:Nat} (h:¬p < s.size):brd s p=false:=by unfold brd;rw [SZ h];rfl
theorem Xq {s:ByteArray} {p:Nat} (h:p < s.size):brd s p=(spc (Utf8.decode s p).1 || brd s (p + wdt s p)):=by
  unfold brd;rw [Iy h,List.any_cons]
theorem brd_byte {s:ByteArray}:∀ {m p k:Nat},s.size - p≤m→p≤k→k < s.size→spc (gb s k)=true→brd s p=true:=by
  intro m
  induction m with
  | zero=>intro p k h1 h2 h3;omega
  | succ m ih=>
    intro p k h1 h2 h3 h4;have hp:p < s.size:=by omega
    have hw:=Q7 hp;rw [Xq hp];by_cases e:p=k
    · subst e
      have hl:=CQ h4;rw [(K4 hl).2,h4];rfl
    · by_cases e2:p + wdt s p≤k
      · rw [ih (p:=p + wdt s p) (k:=k) om e2 h3 h4,Bool.or_true]
      · have:=(T0 (s:=s) (p:=p) (j:=k - p) om om).1
        rw [show p + (k - p)=k by omega] at this;have:=CQ h4;omega
theorem byte_brd {s:ByteArray}:∀ {m p:Nat},s.size - p≤m→brd s p=true→∃ k,p≤k∧k < s.size∧spc (gb s k)=true:=by
  intro m
  induction m with
  | zero=>intro p h1 h;rw [E2 om] at h;cases h
  | succ m ih=>
    intro p h1 h;by_cases hp:p < s.size
    · have hw:=Q7 hp
      rw [Xq hp,Bool.or_eq_true] at h;rcases h with h | h
      · refine⟨p,Nat.le_refl _,hp,?_⟩
        by_cases hl:gb s p < 128
        · rwa [(K4 hl).2] at h
        · have:=dec_high hp om
          have:=CQ h;omega
      · obtain⟨k,h2,h3,h4⟩:=ih om h
        exact⟨k,by omega,h3,h4⟩
    · rw [E2 hp] at h;cases h
def yX (s:ByteArray):Bool:=decide (1≤(ch s 0).length) && decide ((ch s 0).length≤30) && vq s 0 && !brd s 0
theorem ok_bad {s:ByteArray} {p:Nat} (hb:128≤gb s p) (h:Lib.firstT (gb s p) % 8≠2) (h3:Lib.firstT (gb s p) % 8≠3) (h4:Lib.firstT (gb s p) % 8≠4):ZY s p=false:=by
  have hc:Lib.firstT (gb s p)=241∨Lib.firstT (gb s p) < 240:=by
    generalize gb s p=b at hb
    unfold Lib.firstT;rw [if_neg om]
    repeat' split
    all_goals omega
  have ht:Lib.firstT (gb s p)=241:=by
    rcases hc with ht | hl
    · exact ht
    · exfalso
      rcases Lib.firstT_low hl with q | q | q | q | q | q | q
      · rw [Lib.firstT_C2 q] at h;exact h rfl
      · rw [Lib.firstT_E0 q] at h3;exact h3 rfl
      · rw [Lib.firstT_E1 q] at h3;exact h3 rfl
      · rw [Lib.firstT_ED q] at h3;exact h3 rfl
      · rw [Lib.firstT_F0 q] at h4;exact h4 rfl
      · rw [Lib.firstT_F1 q] at h4;exact h4 rfl
      · rw [Lib.firstT_F4 q] at h4;exact h4 rfl
  have:wdt s p=1:=by
    unfold wdt;rw [Z3,Lib.bad_eq _ _ _ _ _ (u5 s p) ht]
  unfold ZY;rw [this,decide_eq_false om];rfl
theorem first_256 (b:Nat):Lib.firstT b < 256:=by
  unfold Lib.firstT
  repeat' split
  all_goals omega
theorem first_lt {s:ByteArray} {p:Nat} (h:Lib.firstT (gb s p) % 8=2∨Lib.firstT (gb s p) % 8=3∨Lib.firstT (gb s p) % 8=4):Lib.firstT (gb s p) < 240:=by
  have hc:Lib.firstT (gb s p)=240∨Lib.firstT (gb s p)=241∨Lib.firstT (gb s p) < 240:=by
    generalize gb s p=b
    unfold Lib.firstT
    repeat' split
    all_goals omega
  omega
def yV (s:ByteArray) (p n:Nat):Prop:=s.size - p < n∨gb s (p + 1) < Lib.accLo (Lib.firstT (gb s p) / 16)∨Lib.accHi (Lib.firstT (gb s p) / 16) < gb s (p + 1)∨(3≤n∧(gb s (p + 2) < 128∨191 < gb s (p + 2)))∨(4≤n∧(gb s (p + 3) < 128∨191 < gb s (p + 3)))
instance (s:ByteArray) (p n:Nat):Decidable (yV s p n):=by unfold yV;infer_instance
theorem ok_n {s:ByteArray} {p n:Nat} (hp:p < s.size) (hn:n=2∨n=3∨n=4) (h:Lib.firstT (gb s p) % 8=n):(yV s p n→ZY s p=false)∧(¬yV s p n→ZY s p=true∧wdt s p=n):=by
  have hx:=first_lt (s:=s) (p:=p) om;have hb:128≤gb s p:=by
    by_cases e:gb s p < 128
    · unfold Lib.firstT at hx;rw [if_pos e] at hx;omega
    · omega
  have he:=Lib.slow_eq (s.size - p) (gb s p) (gb s (p + 1)) (gb s (p + 2)) (gb s (p + 3)) om (u5 _ _) (u5 _ _) (u5 _ _) hx;rw [h] at he;have hw:wdt s p=(Lib.slowN (s.size - p) (gb s p) (gb s (p + 1)) (gb s (p + 2)) (gb s (p + 3)) n (Lib.accLo (Lib.firstT (gb s p) / 16)) (Lib.accHi (Lib.firstT (gb s p) / 16))).2:=by
    unfold wdt;rw [Z3,he]
  have hok:ZY s p=decide (2≤wdt s p):=by unfold ZY;rw [decide_eq_false om,Bool.false_or]
  constructor
  · intro hbad
    have:wdt s p=1:=by
      rw [hw];unfold Lib.slowN;unfold yV at hbad
      repeat' split
      all_goals first | rfl | (exfalso;omega)
    rw [hok,this];rfl
  · intro hbad
    have:wdt s p=n:=by
      rw [hw];unfold Lib.slowN;unfold yV at hbad
      repeat' split
      all_goals first | (exfalso;omega) | (simp only;omega)
    rw [hok,this];exact⟨decide_eq_true om,rfl⟩
theorem jk {P:Program} {n:Nat} {f:Fr} {w:World} {dst:Option Tmp} {gd:Option (Nat×Bool)} {ty:TypeId} {pos:String} {af:Array Edge} {x y:Operand} {t:TypeId} {s:ByteArray} {i:Nat} (hu:P.underlying t=some .string) (hx:ev n f x= .string s) (hy:ev n f y= .int .i64 i) (hi:i < s.size):
    RV P n f w ⟨dst,.index t x y,ty,pos,af,gd⟩ (.int .u8 ((gb s i:Nat):Int)) w:=by
  rw [← gb_at hi];exact Y9 hu hx hy hi
theorem MJ {a:Nat} (h:a < 18446744073709551616):IntKind.u64.wrap (a:Int)=a:=by rw [IntKind.wrap_u64];omega
def hiB:Nat:=9259542123273814144
def wo:Nat→ByteArray→Nat
  | 0,s=>gb s 0
  | k + 1,s=>wo k s ||| (gb s (k + 1) * 2 ^ (8 * (k + 1)))
theorem kQ (s:ByteArray):∀ {k:Nat},k < 8→wo k s < 18446744073709551616
  | 0,_=>by have:=u5 s 0;unfold wo;omega
  | k + 1,h=>by
    have h1:=kQ s (k:=k) om
    have h2:=u5 s (k + 1)
    have h3:gb s (k + 1) * 2 ^ (8 * (k + 1)) < 2 ^ 64:=by
      have:(2:Nat) ^ 64=2 ^ (64 - 8 * (k + 1)) * 2 ^ (8 * (k + 1)):=by rw [← Nat.pow_add];congr 1;omega
      rw [this];refine Nat.mul_lt_mul_of_pos_right ?_ (Nat.pow_pos dE);have:(2:Nat) ^ 8≤2 ^ (64 - 8 * (k + 1)):=Nat.pow_le_pow_right dE om;omega
    exact Nat.or_lt_two_pow (n:=64) h1 h3
theorem P5 {a b c:Nat} (h:(a ||| b) &&& c=0):a &&& c=0∧b &&& c=0:=by
  constructor <;> refine Nat.eq_of_testBit_eq (fun i=>?_) <;> (have:=congrArg (fun z=>z.testBit i) h;simp at this ⊢;grind)
theorem wo_z (s:ByteArray):∀ {k:Nat},k < 8→wo k s &&& hiB=0→∀ j,j≤k→gb s j < 128
  | 0,_,h,j,hj=>by
    obtain rfl:j=0:=by omega
    have h1:=u5 s 0
    have h2:=congrArg (fun z=>z.testBit 7) h
    simp only [wo,Nat.testBit_and,Nat.zero_testBit] at h2
    have h3:hiB.testBit 7=true:=by decide
    rw [h3,Bool.and_true,Nat.testBit_eq_decide_div_mod_eq] at h2
    simp at h2
    omega
  | k + 1,hk,h,j,hj=>by
    obtain⟨h1,h2⟩:=P5 h
    by_cases e:j=k + 1
    · subst e
      have h3:=u5 s (k + 1)
      have h4:=congrArg (fun z=>z.testBit (8 * (k + 1) + 7)) h2
      have h5:hiB.testBit (8 * (k + 1) + 7)=true:=by
        have:∀ k,k < 8→hiB.testBit (8 * k + 7)=true:=by decide
        exact this (k + 1) hk
      simp only [Nat.testBit_and,Nat.zero_testBit,h5,Bool.and_true,Nat.testBit_mul_two_pow] at h4;rw [Nat.add_sub_cancel_left,Nat.testBit_eq_decide_div_mod_eq] at h4;simp at h4;omega
    · exact wo_z s om h1 j om
theorem oY (a p:Nat) (s:ByteArray):sdr a (sdr p s)=sdr (p + a) s:=SQ (by rw [Vw,Vw,Vw,List.drop_drop])
theorem asc8 {p:Nat} {s:ByteArray} (h:wo 7 (sdr p s) &&& hiB=0):∀ j,j < 8→gb s (p + j) < 128:=fun j hj=>by
  rw [← Qy];exact wo_z _ dE h j om
theorem asc16 {p:Nat} {s:ByteArray} (h:(wo 7 (sdr p s) ||| wo 7 (sdr 8 (sdr p s))) &&& hiB=0):∀ j,j < 16→gb s (p + j) < 128:=fun j hj=>by
  obtain⟨h1,h2⟩:=P5 h
  rw [oY] at h2
  by_cases e:j < 8
  · exact asc8 h1 j e
  · have:=asc8 h2 (j - 8) om
    rwa [show p + 8 + (j - 8)=p + j by omega] at this
theorem asc32 {p:Nat} {s:ByteArray} (h:((wo 7 (sdr p s) ||| wo 7 (sdr 8 (sdr p s))) ||| (wo 7 (sdr 16 (sdr p s)) ||| wo 7 (sdr 24 (sdr p s)))) &&& hiB=0):∀ j,j < 32→gb s (p + j) < 128:=fun j hj=>by
  obtain⟨h1,h2⟩:=P5 h
  by_cases e:j < 16
  · exact asc16 h1 j e
  · have h3:(wo 7 (sdr (p + 16) s) ||| wo 7 (sdr 8 (sdr (p + 16) s))) &&& hiB=0:=by
      rw [oY,oY] at h2;rw [oY];exact h2
    have:=asc16 h3 (j - 16) om
    rwa [show p + 16 + (j - 16)=p + j by omega] at this
def U8In (w:World):Prop:=(0 < w.heap.size∧∀ k,k < 256→w.cell? ⟨0,0 + k * 1,none⟩=some (.int .u8 ((Lib.firstT k:Nat):Int)))∧1 < w.heap.size∧∀ k,k < 16→w.rangeAt 1 (0 + k * 2) [.int .u8 ((Lib.accLo k:Nat):Int),.int .u8 ((Lib.accHi k:Nat):Int)]
theorem U8In.mono {w w':World} (h:U8In w) (hb:Bel w w'):U8In w':=⟨⟨nLL h.1.1 hb.size,fun k hk=>hb.cell h.1.1 (h.1.2 k hk)⟩,nLL h.2.1 hb.size,fun k hk=>hb.range h.2.1 (h.2.2 k hk)⟩
def CH:ByteArray:=⟨#[32,9,10,40,41,91,93,44,59]⟩
theorem ch_lt:∀ i,i < 9→gb CH i < 128:=by decide +kernel
theorem ch_ix:∀ c,c < 256→decide (0≤Lib.indexByte (bl CH) c.toUInt8)=spc c:=by decide +kernel
def chs (k x:Nat):Bool:=(List.range k).any (fun j=>decide (gb CH j=x))
theorem chs_all:∀ x,x < 256→chs 9 x=spc x:=by decide +kernel
theorem chs_step (k x:Nat):chs (k + 1) x=if x=gb CH k then true else chs k x:=by
  unfold chs;rw [List.range_succ,List.any_append];by_cases h:x=gb CH k
  · simp [h]
  · simp [h,Ne.symm h]
theorem run_ixb {P:Program} {F:FuncId} {fn:Func} {s:ByteArray} {c:Int} {w:World} (hf:P.funcs[F]? =some fn) (hname:(fn.name == "runtime.NumGoroutine")=false) (hb:fn.body.isNone=true) (hn:Extern.findNext fn=none) (he:Extern.find fn=some Extern.BytealgIndexByte.indexByte):
    (callFunc F #[.string s,.int .u8 c]).run P w= .ok (.value (.int .i64 (Lib.indexByte (bl s) c.toNat.toUInt8))) w:=by
  rw [run_callFunc_extern hf hname hb hn he,Lib.run_indexByteString];rfl
theorem ixb_none {l:List UInt8} {c:UInt8} (h:¬c ∈ l):Lib.indexByte l c < 0:=by
  by_cases e:Lib.indexByte l c < 0
  · exact e
  · obtain⟨m,hm⟩:∃ m:Nat,Lib.indexByte l c=m:=⟨(Lib.indexByte l c).toNat,by omega⟩
    obtain⟨_,_,h3⟩:=ixb_pos hm;exact absurd (by rw [h3];simp) h
theorem enc_hi {r:Nat} (h:128≤r):2≤(Utf8.encode (r:Int)).size∧(Utf8.encode (r:Int)).size≤4∧∀ i,i < (Utf8.encode (r:Int)).size→128≤gb (Utf8.encode (r:Int)) i:=by
  have key:∀ c:Nat,128≤c→c≤1114111→∀ e:ByteArray,e=(if c < 0x80 then ⟨#[UInt8.ofNat c]⟩ else if c < 0x800 then ⟨#[UInt8.ofNat (0xC0 + c / 64),UInt8.ofNat (0x80 + c % 64)]⟩ else if c < 0x10000 then ⟨#[UInt8.ofNat (0xE0 + c / 4096),UInt8.ofNat (0x80 + c / 64 % 64),UInt8.ofNat (0x80 + c % 64)]⟩ else ⟨#[UInt8.ofNat (0xF0 + c / 262144),UInt8.ofNat (0x80 + c / 4096 % 64),UInt8.ofNat (0x80 + c / 64 % 64),UInt8.ofNat (0x80 + c % 64)]⟩)→2≤e.size∧e.size≤4∧∀ i,i < e.size→128≤gb e i:=by
    intro c h1 h2 e he;have u8:∀ n:Nat,128≤n→n < 256→128≤(UInt8.ofNat n).toNat:=fun n a b=>by rw [UInt8.toNat_ofNat_of_lt' (by exact b)];exact a
    rw [if_neg om] at he
    split at he
    · subst he
      refine⟨Nat.le_refl _,by show 2≤4;decide,fun i hi=>?_⟩
      match i,hi with
      | 0,_=>exact u8 _ om om
      | 1,_=>exact u8 _ om om
    · split at he
      · subst he
        refine⟨by show 2≤3;decide,by show 3≤4;decide,fun i hi=>?_⟩
        match i,hi with
        | 0,_=>exact u8 _ om om
        | 1,_=>exact u8 _ om om
        | 2,_=>exact u8 _ om om
      · subst he
        refine⟨by show 2≤4;decide,Nat.le_refl _,fun i hi=>?_⟩
        match i,hi with
        | 0,_=>exact u8 _ om om
        | 1,_=>exact u8 _ om om
        | 2,_=>exact u8 _ om om
        | 3,_=>exact u8 _ om om
  refine key (if Utf8.valid (r:Int) then (r:Int).toNat else Utf8.runeError) ?_ ?_ _ rfl
  · split
    · exact h
    · decide
  · split
    · rename_i hv
      unfold Utf8.valid at hv;simp at hv;omega
    · decide
def Hd (b n:Nat) (v l:Int):Prop:=(194≤b∧b≤223∧n=2∧v=(b:Int) - 192∧l=128)∨(224≤b∧b≤239∧n=3∧v=(b:Int) - 224∧l=2048)∨(240≤b∧b≤244∧n=4∧v=(b:Int) - 240∧l=65536)
def vv (x:ByteArray) (v:Int):Nat→Int
  | 0=>v
  | k + 1=>64 * vv x v k + gb x (k + 1) - 128
def I2 (x:ByteArray):Int:=if ZY x 0=true then ((wdt x 0:Nat):Int) else 0
theorem rlen_low {x:ByteArray} (h:gb x 0 < 128):I2 x=1:=by
  unfold I2 ZY;rw [decide_eq_true h,(K4 h).1];rfl
theorem rlen_no {x:ByteArray} (h:128≤gb x 0) (hn:¬(194≤gb x 0∧gb x 0≤244)):I2 x=0:=by
  have h0:=u5 x 0;have:wdt x 0=1:=by
    unfold wdt;rw [Z3];unfold Lib.decodeN
    repeat' split
    all_goals first | rfl | (exfalso;omega) | (simp only;omega)
  unfold I2 ZY;rw [this,decide_eq_false om];rfl
theorem Bz {x:ByteArray} {n:Nat} (h:128≤gb x 0) (hn:2≤n) (h1:wdt x 0=n):I2 x=n:=by
  unfold I2 ZY;rw [h1,decide_eq_true hn,Bool.or_true];rfl
theorem Hy {x:ByteArray} (h:128≤gb x 0) (h1:wdt x 0=1):I2 x=0:=by
  unfold I2 ZY;rw [h1,decide_eq_false om];rfl
theorem hd_rl {x:ByteArray} {n:Nat} {v l:Int} (hd:Hd (gb x 0) n v l):(n≤x.size→(∀ j,1≤j→j < n→128≤gb x j∧gb x j≤191)→¬(vv x v (n - 1) < l∨1114111 < vv x v (n - 1)∨(55296≤vv x v (n - 1)∧vv x v (n - 1)≤57343))→I2 x=n)∧((x.size < n∨(∃ j,1≤j∧j < n∧¬(128≤gb x j∧gb x j≤191))∨(vv x v (n - 1) < l∨1114111 < vv x v (n - 1)∨(55296≤vv x v (n - 1)∧vv x v (n - 1)≤57343))∧(∀ j,1≤j→j < n→128≤gb x j∧gb x j≤191))→I2 x=0):=by
  have b1:=u5 x 1;have b2:=u5 x 2;have b3:=u5 x 3;rcases hd with ⟨h1,h2,rfl,rfl,rfl⟩ | ⟨h1,h2,rfl,rfl,rfl⟩ | ⟨h1,h2,rfl,rfl,rfl⟩
  · refine⟨fun hs hj hz=>Bz om om ?_,fun hs=>Hy om ?_⟩
    · have q1:=hj 1 om om
      simp only [vv,Nat.zero_add,Nat.reduceAdd,Nat.add_one_sub_one,Nat.reduceSub] at hz;unfold wdt;rw [Z3];simp only [Nat.zero_add,Nat.sub_zero];unfold Lib.decodeN
      repeat' split
      all_goals first | rfl | (exfalso;omega)
    · have hs2:x.size < 2∨¬(128≤gb x 1∧gb x 1≤191)∨((64 * ((gb x 0:Int) - 192) + gb x 1 - 128 < 128∨1114111 < 64 * ((gb x 0:Int) - 192) + gb x 1 - 128∨(55296≤64 * ((gb x 0:Int) - 192) + gb x 1 - 128∧64 * ((gb x 0:Int) - 192) + gb x 1 - 128≤57343))∧128≤gb x 1∧gb x 1≤191):=by
        rcases hs with h | ⟨j,p1,p2,p3⟩ | ⟨hz,hj⟩
        · exact .inl h
        · obtain rfl:j=1:=by omega
          exact .inr (.inl p3)
        · exact .inr (.inr ⟨hz,hj 1 om om⟩)
      unfold wdt;rw [Z3];simp only [Nat.zero_add,Nat.sub_zero];unfold Lib.decodeN
      repeat' split
      all_goals first | rfl | (exfalso;omega)
  · refine⟨fun hs hj hz=>Bz om om ?_,fun hs=>Hy om ?_⟩
    · have q1:=hj 1 om om
      have q2:=hj 2 om om;simp only [vv,Nat.zero_add,Nat.reduceAdd,Nat.add_one_sub_one,Nat.reduceSub] at hz;unfold wdt;rw [Z3];simp only [Nat.zero_add,Nat.sub_zero];unfold Lib.decodeN
      repeat' split
      all_goals first | rfl | (exfalso;omega)
    · have hs2:x.size < 3∨¬(128≤gb x 1∧gb x 1≤191)∨¬(128≤gb x 2∧gb x 2≤191)∨((vv x ((gb x 0:Int) - 224) 2 < 2048∨1114111 < vv x ((gb x 0:Int) - 224) 2∨(55296≤vv x ((gb x 0:Int) - 224) 2∧vv x ((gb x 0:Int) - 224) 2≤57343))∧(128≤gb x 1∧gb x 1≤191)∧128≤gb x 2∧gb x 2≤191):=by
        rcases hs with h | ⟨j,p1,p2,p3⟩ | ⟨hz,hj⟩
        · exact .inl h
        · have:j=1∨j=2:=by omega
          rcases this with rfl | rfl
          · exact .inr (.inl p3)
          · exact .inr (.inr (.inl p3))
        · exact .inr (.inr (.inr ⟨hz,hj 1 om om,hj 2 om om⟩))
      simp only [vv,Nat.zero_add,Nat.reduceAdd,Nat.reduceSub] at hs2;unfold wdt;rw [Z3];simp only [Nat.zero_add,Nat.sub_zero];unfold Lib.decodeN
      repeat' split
      all_goals first | rfl | (exfalso;omega)
  · refine⟨fun hs hj hz=>Bz om om ?_,fun hs=>Hy om ?_⟩
    · have q1:=hj 1 om om
      have q2:=hj 2 om om;have q3:=hj 3 om om;simp only [vv,Nat.zero_add,Nat.reduceAdd,Nat.add_one_sub_one,Nat.reduceSub] at hz;unfold wdt;rw [Z3];simp only [Nat.zero_add,Nat.sub_zero];unfold Lib.decodeN
      repeat' split
      all_goals first | rfl | (exfalso;omega)
    · have hs2:x.size < 4∨¬(128≤gb x 1∧gb x 1≤191)∨¬(128≤gb x 2∧gb x 2≤191)∨¬(128≤gb x 3∧gb x 3≤191)∨((vv x ((gb x 0:Int) - 240) 3 < 65536∨1114111 < vv x ((gb x 0:Int) - 240) 3∨(55296≤vv x ((gb x 0:Int) - 240) 3∧vv x ((gb x 0:Int) - 240) 3≤57343))∧(128≤gb x 1∧gb x 1≤191)∧(128≤gb x 2∧gb x 2≤191)∧128≤gb x 3∧gb x 3≤191):=by
        rcases hs with h | ⟨j,p1,p2,p3⟩ | ⟨hz,hj⟩
        · exact .inl h
        · have:j=1∨j=2∨j=3:=by omega
          rcases this with rfl | rfl | rfl
          · exact .inr (.inl p3)
          · exact .inr (.inr (.inl p3))
          · exact .inr (.inr (.inr (.inl p3)))
        · exact .inr (.inr (.inr (.inr ⟨hz,hj 1 om om,hj 2 om om,hj 3 om om⟩)))
      simp only [vv,Nat.zero_add,Nat.reduceAdd,Nat.reduceSub] at hs2;unfold wdt;rw [Z3];simp only [Nat.zero_add,Nat.sub_zero];unfold Lib.decodeN
      repeat' split
      all_goals first | rfl | (exfalso;omega)
theorem Gy (p:Nat) (s:ByteArray):wdt (sdr p s) 0=wdt s p:=by
  unfold wdt;rw [Z3,Z3,Qy,Qy,Qy,Qy,y5];rfl
theorem rlen_sdr (p:Nat) (s:ByteArray):I2 (sdr p s)=if ZY s p=true then ((wdt s p:Nat):Int) else 0:=by
  have e:ZY (sdr p s) 0=ZY s p:=by unfold ZY;rw [Gy,Qy];rfl
  unfold I2;rw [e,Gy]
theorem spc_iff (c:Nat):spc c=true ↔ (c=32∨c=9∨c=10∨c=40∨c=41∨c=91∨c=93∨c=44∨c=59):=by
  unfold spc;simp only [Bool.or_eq_true,decide_eq_true_eq];omega
end Go.Proofs.YtbcpgfnfiekbiaaGreatDoor
namespace Go.Proofs.YtbcpgfnfiekbiaaGreatDoor
open Go.RowKit
structure Rl where
  name:ByteArray
  gr:List Nd
  kids:Int
  wt:Int
  mean:Tm
structure Lx where
  word:ByteArray
  gr:List Nd
  wt:Int
  mean:Tm
def RlIn (w:World) (b o:Nat) (r:Rl):Prop:=∃ G cg S cs B m,w.rangeAt b o [.string r.name,.slice G r.gr.length cg,.int .i64 r.kids,.int .i64 r.wt,.int .i64 r.mean.kind,.string r.mean.name,.int .i64 r.mean.index,.string r.mean.type.base,.slice S r.mean.type.args.length cs,.slice B r.mean.args.length m]∧NodesIn w G r.gr∧SimsIn w S r.mean.type.args∧TmsIn w B r.mean.args
def RulesIn (w:World) (A:Option Addr) (l:List Rl):Prop:=
  l.length≤vQ∧(l≠[]→∃ b o,A=some ⟨b,o,none⟩∧b < w.heap.size∧∀ k (h:k < l.length),RlIn w b (o + k * 10) l[k])
def LxIn (w:World) (b o:Nat) (r:Lx):Prop:=r.word.size < 9223372036854775807∧∃ G cg S cs B m,w.rangeAt b o [.string r.word,.slice G r.gr.length cg,.int .i64 r.wt,.int .i64 r.mean.kind,.string r.mean.name,.int .i64 r.mean.index,.string r.mean.type.base,.slice S r.mean.type.args.length cs,.slice B r.mean.args.length m]∧NodesIn w G r.gr∧SimsIn w S r.mean.type.args∧TmsIn w B r.mean.args
def LexesIn (w:World) (A:Option Addr) (l:List Lx):Prop:=
  l.length≤vQ∧(l≠[]→∃ b o,A=some ⟨b,o,none⟩∧b < w.heap.size∧∀ k (h:k < l.length),LxIn w b (o + k * 9) l[k])
theorem RlIn.mono {w w':World} {b o:Nat} {r:Rl} (h:RlIn w b o r) (hb:Bel w w') (hl:b < w.heap.size):RlIn w' b o r:=by
  obtain⟨G,cg,S,cs,B,m,h1,h2,h3,h4⟩:=h;exact⟨G,cg,S,cs,B,m,hb.range hl h1,h2.mono hb,h3.mono hb,h4.mono hb⟩
theorem LxIn.mono {w w':World} {b o:Nat} {r:Lx} (h:LxIn w b o r) (hb:Bel w w') (hl:b < w.heap.size):LxIn w' b o r:=by
  obtain⟨h0,G,cg,S,cs,B,m,h1,h2,h3,h4⟩:=h;exact⟨h0,G,cg,S,cs,B,m,hb.range hl h1,h2.mono hb,h3.mono hb,h4.mono hb⟩
theorem RulesIn.mono {w w':World} {A:Option Addr} {l:List Rl} (h:RulesIn w A l) (hb:Bel w w'):RulesIn w' A l:=
  ⟨h.1,fun hn=>by
    obtain⟨b,o,e,hl,hc⟩:=h.2 hn
    exact⟨b,o,e,nLL hl hb.size,fun k hk=>(hc k hk).mono hb hl⟩⟩
theorem LexesIn.mono {w w':World} {A:Option Addr} {l:List Lx} (h:LexesIn w A l) (hb:Bel w w'):LexesIn w' A l:=
  ⟨h.1,fun hn=>by
    obtain⟨b,o,e,hl,hc⟩:=h.2 hn
    exact⟨b,o,e,nLL hl hb.size,fun k hk=>(hc k hk).mono hb hl⟩⟩
theorem RulesIn.at_ {w w':World} {A:Option Addr} {l:List Rl} (h:RulesIn w A l) (hb:Bel w w') {k:Nat} (hk:k < l.length):
    ∃ b o G cg S cs B m,A=some ⟨b,o,none⟩∧b < w.heap.size∧w'.rangeAt b (o + k * 10) [Value.string (l[k]).name,.slice G (l[k]).gr.length cg,.int .i64 (l[k]).kids,.int .i64 (l[k]).wt,.int .i64 (l[k]).mean.kind,.string (l[k]).mean.name,.int .i64 (l[k]).mean.index,.string (l[k]).mean.type.base,.slice S (l[k]).mean.type.args.length cs,.slice B (l[k]).mean.args.length m]∧NodesIn w G (l[k]).gr∧SimsIn w S (l[k]).mean.type.args∧TmsIn w B (l[k]).mean.args:=by
  obtain⟨b,o,e,hl,hc⟩:=h.2 (by rintro rfl;simp at hk);obtain⟨G,cg,S,cs,B,m,h1,h2,h3,h4⟩:=hc k hk;exact⟨b,o,G,cg,S,cs,B,m,e,hl,hb.range hl h1,h2,h3,h4⟩
theorem LexesIn.at_ {w w':World} {A:Option Addr} {l:List Lx} (h:LexesIn w A l) (hb:Bel w w') {k:Nat} (hk:k < l.length):
    ∃ b o G cg S cs B m,A=some ⟨b,o,none⟩∧b < w.heap.size∧(l[k]).word.size < 9223372036854775807∧w'.rangeAt b (o + k * 9) [Value.string (l[k]).word,.slice G (l[k]).gr.length cg,.int .i64 (l[k]).wt,.int .i64 (l[k]).mean.kind,.string (l[k]).mean.name,.int .i64 (l[k]).mean.index,.string (l[k]).mean.type.base,.slice S (l[k]).mean.type.args.length cs,.slice B (l[k]).mean.args.length m]∧NodesIn w G (l[k]).gr∧SimsIn w S (l[k]).mean.type.args∧TmsIn w B (l[k]).mean.args:=by
  obtain⟨b,o,e,hl,hc⟩:=h.2 (by rintro rfl;simp at hk);obtain⟨h0,G,cg,S,cs,B,m,h1,h2,h3,h4⟩:=hc k hk;exact⟨b,o,G,cg,S,cs,B,m,e,hl,h0,hb.range hl h1,h2,h3,h4⟩
def plN (g:List Nd) (k:Int) (f:Nat):Bool:=decide ((0:Int)≤tgt (Nx g 0).ln (f:Int)) == decide ((f:Int)≤k)
def gk (g:List Nd) (k:Int):Bool:=(List.range 4).all (plN g k)
theorem nd_zero {g:List Nd} (h:0 < g.length):Nx g 0=g[0]:=by simp [Nx,List.getD,h]
theorem pl_yes {g:List Nd} {k:Int} (h:∀ f,f < 4→plN g k f=true):gk g k=true:=List.all_eq_true.2 fun f hf=>h f (List.mem_range.1 hf)
theorem pl_no {g:List Nd} {k:Int} {f:Nat} (hf:f < 4) (h:plN g k f=false):gk g k=false:=by
  cases e:gk g k with
  | false=>rfl
  | true=>rw [List.all_eq_true.1 e f (List.mem_range.2 hf)] at h;cases h
theorem By {g:List Nd} {k:Int} {f:Nat} (h:0 < g.length):plN g k f=(decide ((0:Int)≤tgt (g[0]).ln (f:Int)) == decide ((f:Int)≤k)):=by unfold plN;rw [nd_zero h]
def I3 (r:Rl):Prop:=r.kids < 1∨3 < r.kids∨r.wt < 0∨1000000 < r.wt
instance (r:Rl):Decidable (I3 r):=by unfold I3;infer_instance
noncomputable def X5 (l:List Ty) (fs:List Ft) (r:Rl):Int:=if I3 r then 3 else if (xy l fs r.gr).1≠0 then (xy l fs r.gr).1 else if gk r.gr r.kids=true then (tmF r.mean).1 else 5
theorem HZ {l:List Ty} {fs:List Ft} {r:Rl} (h:I3 r):X5 l fs r=3:=if_pos h
theorem rl_gr {l:List Ty} {fs:List Ft} {r:Rl} (h:¬I3 r) (h2:¬(xy l fs r.gr).1=0):X5 l fs r=(xy l fs r.gr).1:=by unfold X5;rw [if_neg h,if_pos h2]
theorem rl_pl {l:List Ty} {fs:List Ft} {r:Rl} (h:¬I3 r) (h2:(xy l fs r.gr).1=0) (h3:gk r.gr r.kids=false):X5 l fs r=5:=by unfold X5;rw [if_neg h,if_neg (fun e=>e h2),h3];rfl
theorem rl_ok {l:List Ty} {fs:List Ft} {r:Rl} (h:¬I3 r) (h2:(xy l fs r.gr).1=0) (h3:gk r.gr r.kids=true):X5 l fs r=(tmF r.mean).1:=by unfold X5;rw [if_neg h,if_neg (fun e=>e h2),if_pos h3]
def N1 (r:Lx):Prop:=r.wt < 0∨1000000 < r.wt
instance (r:Lx):Decidable (N1 r):=by unfold N1;infer_instance
noncomputable def Y0 (l:List Ty) (fs:List Ft) (r:Lx):Int:=if yX r.word=false then 10 else if N1 r then 3 else if (xy l fs r.gr).1≠0 then (xy l fs r.gr).1 else (tmF r.mean).1
theorem BK {l:List Ty} {fs:List Ft} {r:Lx} (h:yX r.word=false):Y0 l fs r=10:=if_pos h
theorem L9 {l:List Ty} {fs:List Ft} {r:Lx} (h0:yX r.word=true) (h:N1 r):Y0 l fs r=3:=by unfold Y0;rw [h0,if_neg dE,if_pos h]
theorem lx_gr {l:List Ty} {fs:List Ft} {r:Lx} (h0:yX r.word=true) (h:¬N1 r) (h2:¬(xy l fs r.gr).1=0):Y0 l fs r=(xy l fs r.gr).1:=by unfold Y0;rw [h0,if_neg dE,if_neg h,if_pos h2]
theorem lx_ok {l:List Ty} {fs:List Ft} {r:Lx} (h0:yX r.word=true) (h:¬N1 r) (h2:(xy l fs r.gr).1=0):Y0 l fs r=(tmF r.mean).1:=by unfold Y0;rw [h0,if_neg dE,if_neg h,if_neg (fun e=>e h2)]
theorem E6 {l:List Ty} {fs:List Ft} {g:List Nd} (h:(xy l fs g).1=0):(vj l.length fs.length g).1=0:=by
  by_cases h1:(vj l.length fs.length g).1=0
  · exact h1
  · rw [K3 h1] at h;exact h
noncomputable def uw (l:List Ty) (fs:List Ft) (rs:List Rl) (i:Nat):Int:=match rs[i]? with
  | none=>0
  | some r=>if xK r.name=false then 10 else if jj ((rs.take i).map (·.name)) r.name=true then 7 else X5 l fs r
noncomputable def gJ (l:List Ty) (fs:List Ft) (xs:List Lx) (i:Nat):Int:=match xs[i]? with
  | none=>0
  | some r=>Y0 l fs r
theorem rn10 {l:List Ty} {fs:List Ft} {rs:List Rl} {i:Nat} (hi:i < rs.length) (h:xK (rs[i]).name=false):uw l fs rs i=10:=by
  simp only [uw,List.getElem?_eq_getElem hi,if_pos h]
theorem rn7 {l:List Ty} {fs:List Ft} {rs:List Rl} {i:Nat} (hi:i < rs.length) (h:xK (rs[i]).name=true) (h2:jj ((rs.take i).map (·.name)) (rs[i]).name=true):uw l fs rs i=7:=by
  simp only [uw,List.getElem?_eq_getElem hi];rw [h,if_neg dE,if_pos h2]
theorem rnF {l:List Ty} {fs:List Ft} {rs:List Rl} {i:Nat} (hi:i < rs.length) (h:xK (rs[i]).name=true) (h2:jj ((rs.take i).map (·.name)) (rs[i]).name=false):uw l fs rs i=X5 l fs rs[i]:=by
  simp only [uw,List.getElem?_eq_getElem hi];rw [h,if_neg dE,h2,if_neg dE]
theorem lnF {l:List Ty} {fs:List Ft} {xs:List Lx} {i:Nat} (hi:i < xs.length):gJ l fs xs i=Y0 l fs xs[i]:=by
  simp only [gJ,List.getElem?_eq_getElem hi]
noncomputable def jv (l:List Ty) (fs:List Ft) (rs:List Rl) (xs:List Lx) (st:List Nd):Fl:=
  if (qx l fs).1≠0 then qx l fs else if fs.length≤3 then (9,-1) else if 40 < rs.length∨100 < xs.length then (2,-1)
  else if (zW (uw l fs rs) 0 rs.length).1≠0 then zW (uw l fs rs) 0 rs.length else if (zW (gJ l fs xs) 0 xs.length).1≠0 then zW (gJ l fs xs) 0 xs.length
  else if (xy l fs st).1≠0 then ((xy l fs st).1,-1) else (0,0)
variable {l:List Ty} {fs:List Ft} {rs:List Rl} {xs:List Lx} {st:List Nd}
theorem gr_hier (h:¬(qx l fs).1=0):jv l fs rs xs st=((qx l fs).1,(qx l fs).2):=if_pos h
theorem gr_few (h:(qx l fs).1=0) (h2:fs.length≤3):jv l fs rs xs st=(9,-1):=by unfold jv;rw [if_neg (fun e=>e h),if_pos h2]
theorem gr_many (h:(qx l fs).1=0) (h2:¬fs.length≤3) (h3:40 < rs.length∨100 < xs.length):jv l fs rs xs st=(2,-1):=by unfold jv;rw [if_neg (fun e=>e h),if_neg h2,if_pos h3]
theorem J2 {c i:Int} (h:(qx l fs).1=0) (h2:¬fs.length≤3) (h3:¬(40 < rs.length∨100 < xs.length)) (h4:zW (uw l fs rs) 0 rs.length=(c,i)) (hc:c≠0):jv l fs rs xs st=(c,i):=by
  unfold jv;rw [if_neg (fun e=>e h),if_neg h2,if_neg h3,h4,if_pos hc]
theorem gr_lex {c i:Int} (h:(qx l fs).1=0) (h2:¬fs.length≤3) (h3:¬(40 < rs.length∨100 < xs.length)) (h4:zW (uw l fs rs) 0 rs.length=(0,0)) (h5:zW (gJ l fs xs) 0 xs.length=(c,i)) (hc:c≠0):jv l fs rs xs st=(c,i):=by
  unfold jv;rw [if_neg (fun e=>e h),if_neg h2,if_neg h3,h4,if_neg dE,h5,if_pos hc]
theorem FJ (h:(qx l fs).1=0) (h2:¬fs.length≤3) (h3:¬(40 < rs.length∨100 < xs.length)) (h4:zW (uw l fs rs) 0 rs.length=(0,0)) (h5:zW (gJ l fs xs) 0 xs.length=(0,0)) (h6:¬(xy l fs st).1=0):jv l fs rs xs st=((xy l fs st).1,-1):=by
  unfold jv;rw [if_neg (fun e=>e h),if_neg h2,if_neg h3,h4,if_neg dE,h5,if_neg dE,if_pos h6]
theorem gr_ok (h:(qx l fs).1=0) (h2:¬fs.length≤3) (h3:¬(40 < rs.length∨100 < xs.length)) (h4:zW (uw l fs rs) 0 rs.length=(0,0)) (h5:zW (gJ l fs xs) 0 xs.length=(0,0)) (h6:(xy l fs st).1=0):jv l fs rs xs st=(0,0):=by
  unfold jv;rw [if_neg (fun e=>e h),if_neg h2,if_neg h3,h4,if_neg dE,h5,if_neg dE,if_neg (fun e=>e h6)]
theorem rseen_yes {j k:Nat} {s:ByteArray} (hk:k < rs.length) (hj:j < k) (h:(rs[j]'om).name=s):jj ((rs.take k).map (·.name)) s=true:=by
  simp only [jj,List.any_eq_true,decide_eq_true_eq,List.mem_map];refine⟨_,⟨rs[j]'om,?_,rfl⟩,h⟩;rw [List.mem_take_iff_getElem];exact⟨j,by omega,rfl⟩
theorem C3 (h:(qx l fs).1=0):fs.length≤40:=by
  unfold qx at h;by_cases h4:40 < fs.length
  · rw [if_pos h4] at h;cases h
  · omega
end Go.Proofs.YtbcpgfnfiekbiaaGreatDoor
namespace Go.Proofs.YtbcpgfnfiekbiaaGreatDoor
open Go.RowKit
def zSm:Array Value:=#[.string ⟨#[]⟩,.slice none 0 0]
def zTm:Array Value:=#[.int .i64 0,.string ⟨#[]⟩,.int .i64 0,.string ⟨#[]⟩,.slice none 0 0,.slice none 0 0]
def Sp (ts:List Nat) (t:Nat) (cs:Array Value):Prop:=t ∈ ts∨(t=41∧cs=zSm)∨(t=44∧cs=zTm)
def Kp (X:List Nat) (n:Nat) (ts:List Nat) (w w2:World):Prop:=w.heap.size≤w2.heap.size∧∀ k,k < n→w2.heap[k]? =w.heap[k]?∨k ∈ X∨∃ t cs,Blk w k t cs∧Sp ts t cs
section kp
variable {X Y:List Nat} {n m:Nat} {ts us:List Nat} {w w1 w2:World} {P Q:World→Prop}
theorem Kp.refl (X:List Nat) (n:Nat) (ts:List Nat) (w:World):Kp X n ts w w:=⟨Nat.le_refl _,fun _ _=> .inl rfl⟩
theorem Kp.trans (h:Kp X n ts w w1) (g:Kp X n ts w1 w2):Kp X n ts w w2:=⟨nLT h.1 g.1,fun k hk=>by
  rcases h.2 k hk with e | e
  · rcases g.2 k hk with e2 | e2 | ⟨t,cs,e2,hs⟩
    · exact .inl (e2.trans e)
    · exact .inr (.inl e2)
    · exact .inr (.inr ⟨t,cs,e.symm.trans e2,hs⟩)
  · exact .inr e⟩
theorem Kp.of {Z:List Nat} (hs:Same Z w w1) (hn:n≤w.heap.size) (hx:∀ g ∈ Z,n≤g∨g ∈ X∨∃ t cs,Blk w g t cs∧Sp ts t cs):Kp X n ts w w1:=⟨hs.size,fun k hk=>by
  by_cases e:k ∈ Z
  · rcases hx k e with h | h
    · omega
    · exact .inr h
  · exact .inl (hs.blk k om e)⟩
structure Fz (X:List Nat) (n:Nat) (ts:List Nat) (w:World) (P:World→Prop):Prop where
  le:n≤w.heap.size
  all:∀ w2,Kp X n ts w w2→P w2
theorem Fz.step (h:Fz X n ts w P) (hk:Kp X n ts w w1):Fz X n ts w1 P:=⟨nLT h.le hk.1,fun w2 h2=>h.all w2 (hk.trans h2)⟩
theorem Fz.now (h:Fz X n ts w P):P w:=h.all w (Kp.refl _ _ _ _)
theorem Fz.trX {Z:List Nat} (h:Fz X n ts w P) (hs:Same Z w w1) (hx:∀ g ∈ Z,n≤g∨g ∈ X∨∃ t cs,Blk w g t cs∧Sp ts t cs):Fz X n ts w1 P:=h.step (Kp.of hs h.le hx)
theorem Fz.tr0 (h:Fz X n ts w P) (hs:Same [] w w1):Fz X n ts w1 P:=h.trX hs (by simp)
theorem Fz.bel (h:Fz X n ts w P) (hb:Bel w w1):Fz X n ts w1 P:=h.tr0 (sB hb)
theorem Fz.in1 {b:Nat} (h:Fz X n ts w P) (hs:Same [b] w w1) (hb:b ∈ X):Fz X n ts w1 P:=h.trX hs (fun g hg=> .inr (.inl (by rw [List.mem_singleton.1 hg];exact hb)))
theorem Fz.sp1 {b t:Nat} {cs:Array Value} (h:Fz X n ts w P) (hs:Same [b] w w1) (hb:Blk w b t cs) (ht:Sp ts t cs):Fz X n ts w1 P:=h.trX hs (fun g hg=> .inr (.inr ⟨t,cs,by rw [List.mem_singleton.1 hg];exact hb,ht⟩))
theorem sp_tm {ts:List Nat}:Sp ts 44 #[.int .i64 0,.string ⟨#[]⟩,.int .i64 0,.string ⟨#[]⟩,.slice none 0 0,.slice none 0 0]:= .inr (.inr ⟨rfl,rfl⟩)
theorem Fz.free {b t:Nat} {cs:Array Value} (h:Fz X n ts w P) (hs:Same [b] w w1) (hb:Blk w b t cs) (ht:Sp ts t cs):Fz (b :: X) n ts w1 P:=⟨nLT h.le hs.size,fun w2 h2=>h.all w2 ⟨nLT hs.size h2.1,fun k hk=>by
  by_cases e:k=b
  · exact .inr (.inr ⟨t,cs,by rw [e];exact hb,ht⟩)
  have e1:=hs.blk k (nLL hk h.le) (by simpa using e)
  rcases h2.2 k hk with e2 | e2 | ⟨t',cs',e2,hs2⟩
  · exact .inl (e2.trans e1)
  · rcases List.mem_cons.1 e2 with e3 | e3
    · exact absurd e3 e
    · exact .inr (.inl e3)
  · exact .inr (.inr ⟨t',cs',e1.symm.trans e2,hs2⟩)⟩⟩
theorem Fz.mono (h:Fz X n ts w P) (hm:n≤m) (hw:m≤w.heap.size):Fz X m ts w P:=⟨hw,fun w2 h2=>h.all w2 ⟨h2.1,fun k hk=>h2.2 k om⟩⟩
theorem Fz.up (h:Fz X n ts w P):Fz X w.heap.size ts w P:=h.mono h.le (Nat.le_refl _)
theorem Fz.less (h:Fz Y n ts w P) (hs:∀ x ∈ X,x ∈ Y):Fz X n ts w P:=⟨h.le,fun w2 h2=>h.all w2 ⟨h2.1,fun k hk=>by
  rcases h2.2 k hk with e | e | e
  · exact .inl e
  · exact .inr (.inl (hs k e))
  · exact .inr (.inr e)⟩⟩
theorem Fz.addX (h:Fz X n ts w P) (hy:∀ y ∈ Y,y ∈ X∨n≤y):Fz Y n ts w P:=⟨h.le,fun w2 h2=>h.all w2 ⟨h2.1,fun k hk=>by
  rcases h2.2 k hk with e | e | e
  · exact .inl e
  · rcases hy k e with h3 | h3
    · exact .inr (.inl h3)
    · omega
  · exact .inr (.inr e)⟩⟩
theorem Fz.nil (h:Fz X n ts w P):Fz [] n ts w P:=h.less (by simp)
theorem Fz.sub (h:Fz X n us w P) (hs:∀ t ∈ ts,t ∈ us):Fz X n ts w P:=⟨h.le,fun w2 h2=>h.all w2 ⟨h2.1,fun k hk=>by
  rcases h2.2 k hk with e | e | ⟨t,cs,r,q⟩
  · exact .inl e
  · exact .inr (.inl e)
  · refine .inr (.inr ⟨t,cs,r,?_⟩)
    rcases q with q | q
    · exact .inl (hs t q)
    · exact .inr q⟩⟩
theorem Fz.imp (h:Fz X n ts w P) (hi:∀ w,P w→Q w):Fz X n ts w Q:=⟨h.le,fun w2 h2=>hi w2 (h.all w2 h2)⟩
theorem Fz.and (h:Fz X n ts w P) (g:Fz X m ts w Q):Fz X w.heap.size ts w (fun w=>P w∧Q w):=⟨Nat.le_refl _,fun w2 h2=>⟨h.up.all w2 h2,g.up.all w2 h2⟩⟩
theorem Fz.triv (X:List Nat) (w:World) (ts:List Nat) (h:∀ w,P w):Fz X w.heap.size ts w P:=⟨Nat.le_refl _,fun w2 _=>h w2⟩
theorem Fz.blk {b t:Nat} {cs:Array Value} (h:Blk w b t cs) (hx:b ∉ X) (ht:¬Sp ts t cs):Fz X w.heap.size ts w (fun w=>Blk w b t cs):=⟨Nat.le_refl _,fun w2 h2=>by
  rcases h2.2 b h.lt with e | e | ⟨t',cs',e,hs⟩
  · exact e.trans h
  · exact absurd e hx
  · have he:(some (Obj.cells cs t (0,0)))=some (.cells cs' t' (0,0)):=h.symm.trans e
    injection he with he
    injection he with e1 e2
    subst e1;subst e2
    exact absurd hs ht⟩
end kp
def TS:List Nat:=[54,46,32]
def SmD (X:List Nat) (τ:Ts) (w:World) (v:Value):Prop:=∃ A c n,v= .agg #[.string τ.sm.base,.slice A τ.sm.args.length c]∧Fz X n TS w (fun w=>SimsIn w A τ.sm.args)
def TmD (X:List Nat) (x:Tv) (w:World) (v:Value):Prop:=∃ S cs B cb n,v= .agg #[.int .i64 x.tm.kind,.string x.tm.name,.int .i64 x.tm.index,.string x.tm.type.base,.slice S x.tm.type.args.length cs,.slice B x.tm.args.length cb]∧Fz X n TS w (fun w=>SimsIn w S x.tm.type.args∧TmsIn w B x.tm.args)
theorem SmD.tr0 {X:List Nat} {τ:Ts} {w w1:World} {v:Value} (h:SmD X τ w v) (hs:Same [] w w1):SmD X τ w1 v:=by
  obtain⟨A,c,n,e,hz⟩:=h;exact⟨A,c,n,e,hz.tr0 hs⟩
theorem TmD.tr0 {X:List Nat} {x:Tv} {w w1:World} {v:Value} (h:TmD X x w v) (hs:Same [] w w1):TmD X x w1 v:=by
  obtain⟨A,c,B,m,n,e,hz⟩:=h;exact⟨A,c,B,m,n,e,hz.tr0 hs⟩
theorem sims_two {w:World} {b t:Nat} {s1 s2:Sm} {A1 A2:Option Addr} {c1 c2:Nat} (h:Blk w b t #[.string s1.base,.slice A1 s1.args.length c1,.string s2.base,.slice A2 s2.args.length c2]) (h1:SimsIn w A1 s1.args) (h2:SimsIn w A2 s2.args):SimsIn w (some ⟨b,0,none⟩) [s1,s2]:=by
  cases s1 with
  | mk b1 a1=>
    cases s2 with
    | mk b2 a2=>
      refine .more (by show 2≤vQ;decide) h.lt (fun k hk=>?_)
      match k,hk with
      | 0,_=>exact SimAt.mk (A:=A1) (c:=c1) h.lt (h.range (fun j v hj=>by match j,hj with | 0,hj=>cases hj;rfl | 1,hj=>cases hj;rfl | _ + 2,hj=>cases hj)) h1
      | 1,_=>exact SimAt.mk (A:=A2) (c:=c2) h.lt (h.range (fun j v hj=>by match j,hj with | 0,hj=>cases hj;rfl | 1,hj=>cases hj;rfl | _ + 2,hj=>cases hj)) h2
def tmC (t:Tm) (S B:Option Addr) (cs cb:Nat):List Value:=[.int .i64 t.kind,.string t.name,.int .i64 t.index,.string t.type.base,.slice S t.type.args.length cs,.slice B t.args.length cb]
theorem tm_at {w:World} {b o:Nat} {t:Tm} {S B:Option Addr} {cs cb:Nat} (hb:b < w.heap.size) (h:w.rangeAt b o (tmC t S B cs cb)) (h1:SimsIn w S t.type.args) (h2:TmsIn w B t.args):TmAt w b o t:=by
  cases t with
  | mk k nm i s a=>exact .mk hb h h1 h2
theorem Vv {w:World} {b t o:Nat} {cs:Array Value} {l:List Value} (h:Blk w b t cs) (ho:∀ j v,l[j]? =some v→cs[o + j]? =some v):w.rangeAt b o l:=h.range (fun j v hj=>ho j v hj)
theorem tms_one {w:World} {b t:Nat} {x:Tm} {S B:Option Addr} {cs cb:Nat} (h:Blk w b t (tmC x S B cs cb).toArray) (h1:SimsIn w S x.type.args) (h2:TmsIn w B x.args):TmsIn w (some ⟨b,0,none⟩) [x]:=
  .more (by show 1≤vQ;decide) h.lt (fun k hk=>by
    match k,hk with
    | 0,_=>exact tm_at h.lt (Vv h (fun j v hj=>by simpa using hj)) h1 h2)
theorem tms_two {w:World} {b t:Nat} {x y:Tm} {S B S' B':Option Addr} {cs cb cs' cb':Nat} (h:Blk w b t (tmC x S B cs cb ++ tmC y S' B' cs' cb').toArray) (h1:SimsIn w S x.type.args) (h2:TmsIn w B x.args) (h3:SimsIn w S' y.type.args) (h4:TmsIn w B' y.args):TmsIn w (some ⟨b,0,none⟩) [x,y]:=
  .more (by show 2≤vQ;decide) h.lt (fun k hk=>by
    match k,hk with
    | 0,_=>exact tm_at h.lt (Vv h (fun j v hj=>by
        have hl:j < 6:=(List.getElem?_eq_some_iff.1 hj).1
        rw [List.getElem?_toArray,List.getElem?_append_left (by show 0 + j < 6;omega),Nat.zero_add];exact hj)) h1 h2
    | 1,_=>exact tm_at h.lt (Vv h (fun j v hj=>by
        rw [List.getElem?_toArray,List.getElem?_append_right (by show 6≤0 + 1 * 6 + j;omega),show 0 + 1 * 6 + j - (tmC x S B cs cb).length=j by show 0 + 1 * 6 + j - 6=j;omega];exact hj)) h3 h4)
theorem tv_kind (x:Tv):x.tm.kind≠0:=by cases x <;> simp [Tv.tm,Tm.kind]
theorem nsp_sm {s1 s2:Sm} {A1 A2:Option Addr} {m1 m2 c1 c2:Nat}:¬Sp TS 41 #[.string s1.base,.slice A1 m1 c1,.string s2.base,.slice A2 m2 c2]:=by
  rintro (h | ⟨_,h⟩ | ⟨h,_⟩)
  · revert h;decide
  · exact absurd (show (4:Nat)=2 from congrArg Array.size h) dE
  · revert h;decide
theorem nsp_tm {x:Tv} {l:List Value}:¬Sp TS 44 (Value.int .i64 x.tm.kind :: l).toArray:=by
  rintro (h | ⟨h,_⟩ | ⟨_,h⟩)
  · revert h;decide
  · revert h;decide
  · have h2:=congrArg (fun a:Array Value=>a[0]?) h
    simp [zTm] at h2;exact tv_kind x h2
section mk
variable {X:List Nat} {w:World}
theorem SmD.two {a b:Ts} {g:Nat} {A1 A2:Option Addr} {c1 c2 n1 n2:Nat} (h:Blk w g 41 #[.string a.sm.base,.slice A1 a.sm.args.length c1,.string b.sm.base,.slice A2 b.sm.args.length c2]) (hg:g ∉ X) (h1:Fz X n1 TS w (fun w=>SimsIn w A1 a.sm.args)) (h2:Fz X n2 TS w (fun w=>SimsIn w A2 b.sm.args)):SmD X (.f a b) w (.agg #[.string ⟨#[]⟩,.slice (some ⟨g,0,none⟩) 2 2]):=
  ⟨_,2,_,rfl,((Fz.blk h hg nsp_sm).and (h1.and h2)).imp (fun _ h=>sims_two h.1 h.2.1 h.2.2)⟩
theorem TmD.con (nm:ByteArray) {τ:Ts} {A:Option Addr} {c n:Nat} (h:Fz X n TS w (fun w=>SimsIn w A τ.sm.args)):TmD X (.con nm τ) w (.agg #[.int .i64 1,.string nm,.int .i64 0,.string τ.sm.base,.slice A τ.sm.args.length c,.slice none 0 0]):=
  ⟨A,c,none,0,n,rfl,h.imp (fun _ h=>⟨h,.nil⟩)⟩
theorem TmD.var (i:Nat):TmD X (.var i) w (.agg #[.int .i64 2,.string ⟨#[]⟩,.int .i64 i,.string ⟨#[]⟩,.slice none 0 0,.slice none 0 0]):=
  ⟨none,0,none,0,w.heap.size,rfl,Fz.triv X w TS (fun _=>⟨.nil,.nil⟩)⟩
theorem TmD.abs {τ:Ts} {x:Tv} {g:Nat} {A S B:Option Addr} {c n cs cb m:Nat} (h:Fz X n TS w (fun w=>SimsIn w A τ.sm.args)) (hg:Blk w g 44 #[.int .i64 x.tm.kind,.string x.tm.name,.int .i64 x.tm.index,.string x.tm.type.base,.slice S x.tm.type.args.length cs,.slice B x.tm.args.length cb]) (hgx:g ∉ X) (hx:Fz X m TS w (fun w=>SimsIn w S x.tm.type.args∧TmsIn w B x.tm.args)):TmD X (.abs τ x) w (.agg #[.int .i64 3,.string ⟨#[]⟩,.int .i64 0,.string τ.sm.base,.slice A τ.sm.args.length c,.slice (some ⟨g,0,none⟩) 1 1]):=
  ⟨A,c,_,1,_,rfl,((Fz.blk hg hgx nsp_tm).and (h.and hx)).imp (fun _ h=>⟨h.2.1,tms_one h.1 h.2.2.1 h.2.2.2⟩)⟩
theorem TmD.app {x y:Tv} {g:Nat} {S B S' B':Option Addr} {cs cb m cs' cb' m':Nat} (hg:Blk w g 44 #[.int .i64 x.tm.kind,.string x.tm.name,.int .i64 x.tm.index,.string x.tm.type.base,.slice S x.tm.type.args.length cs,.slice B x.tm.args.length cb,.int .i64 y.tm.kind,.string y.tm.name,.int .i64 y.tm.index,.string y.tm.type.base,.slice S' y.tm.type.args.length cs',.slice B' y.tm.args.length cb']) (hgx:g ∉ X) (hx:Fz X m TS w (fun w=>SimsIn w S x.tm.type.args∧TmsIn w B x.tm.args)) (hy:Fz X m' TS w (fun w=>SimsIn w S' y.tm.type.args∧TmsIn w B' y.tm.args)):TmD X (.app x y) w (.agg #[.int .i64 4,.string ⟨#[]⟩,.int .i64 0,.string ⟨#[]⟩,.slice none 0 0,.slice (some ⟨g,0,none⟩) 2 2]):=
  ⟨none,0,_,2,_,rfl,((Fz.blk hg hgx nsp_tm).and (hx.and hy)).imp (fun _ h=>⟨.nil,tms_two h.1 h.2.1.1 h.2.1.2 h.2.2.1 h.2.2.2⟩)⟩
end mk
inductive TmCs (n:Nat) (w:World):List Tv→List Value→Prop
  | nil:TmCs n w [] []
  | cons {x:Tv} {S B:Option Addr} {cs cb:Nat} {l:List Tv} {vs:List Value} (h:Fz [] n TS w (fun w=>SimsIn w S x.tm.type.args∧TmsIn w B x.tm.args)) (t:TmCs n w l vs):TmCs n w (x :: l) (.int .i64 x.tm.kind :: .string x.tm.name :: .int .i64 x.tm.index :: .string x.tm.type.base :: .slice S x.tm.type.args.length cs :: .slice B x.tm.args.length cb :: vs)
theorem TmCs.tr0 {n:Nat} {w w1:World} {l:List Tv} {vs:List Value} (h:TmCs n w l vs) (hs:Same [] w w1):TmCs n w1 l vs:=by
  induction h with
  | nil=>exact .nil
  | cons h _ ih=>exact .cons (h.tr0 hs) ih
theorem TmCs.get {n:Nat} {w:World} {l:List Tv} {vs:List Value} (h:TmCs n w l vs):∀ k (hk:k < l.length),∃ S B cs cb,(∀ j v,(tmC (l[k]).tm S B cs cb)[j]? =some v→vs[k * 6 + j]? =some v)∧Fz [] n TS w (fun w=>SimsIn w S (l[k]).tm.type.args∧TmsIn w B (l[k]).tm.args):=by
  induction h with
  | nil=>intro k hk;simp at hk
  | @cons x S B cs cb l vs h t ih=>
    intro k hk
    match k,hk with
    | 0,_=>
      refine⟨S,B,cs,cb,fun j v hj=>?_,h⟩
      match j,hj with
      | 0,hj=>exact hj
      | 1,hj=>exact hj
      | 2,hj=>exact hj
      | 3,hj=>exact hj
      | 4,hj=>exact hj
      | 5,hj=>exact hj
      | _ + 6,hj=>cases hj
    | k + 1,hk=>
      obtain⟨S',B',cs',cb',h1,h2⟩:=ih k (by simpa using hk);refine⟨S',B',cs',cb',fun j v hj=>?_,h2⟩;rw [show (k + 1) * 6 + j=k * 6 + j + 6 by omega];exact h1 j v hj
theorem TmCs.at_ {n b t:Nat} {w:World} {l:List Tv} {vs:List Value} (h:TmCs n w l vs) (hb:Blk w b t vs.toArray) {k:Nat} (hk:k < l.length):∃ S B cs cb,w.rangeAt b (0 + k * 6) [.int .i64 (l[k]).tm.kind,.string (l[k]).tm.name,.int .i64 (l[k]).tm.index,.string (l[k]).tm.type.base,.slice S (l[k]).tm.type.args.length cs,.slice B (l[k]).tm.args.length cb]∧Fz [] n TS w (fun w=>SimsIn w S (l[k]).tm.type.args∧TmsIn w B (l[k]).tm.args):=by
  obtain⟨S,B,cs,cb,h1,h2⟩:=h.get k hk;exact⟨S,B,cs,cb,Vv hb (fun j v hj=>by rw [List.getElem?_toArray,Nat.zero_add];exact h1 j v hj),h2⟩
end Go.Proofs.YtbcpgfnfiekbiaaGreatDoor
namespace Go.Proofs.YtbcpgfnfiekbiaaGreatDoor
open Go.RowKit
def RowsIn (w:World) (A:Option Addr) (rs:List (List Int)):Prop:=
  rs.length≤1000∧(∀ r ∈ rs,0 < r.length∧r.length≤1000)∧(rs≠[]→∃ b o,A=some ⟨b,o,none⟩∧b < w.heap.size∧∀ k (h:k < rs.length),∃ A' c,w.cell? ⟨b,o + k * 1,none⟩=some (.slice A' (rs[k]).length c)∧IntsIn w A' rs[k])
theorem RowsIn.at_ {w w':World} {A:Option Addr} {rs:List (List Int)} (h:RowsIn w A rs) (hb:Bel w w') {k:Nat} (hk:k < rs.length):
    ∃ b o A' c,A=some ⟨b,o,none⟩∧w'.cell? ⟨b,o + k * 1,none⟩=some (.slice A' (rs[k]).length c)∧IntsIn w A' rs[k]:=by
  obtain⟨b,o,e,hl,hc⟩:=h.2.2 (by rintro rfl;simp at hk);obtain⟨A',c,h1,h2⟩:=hc k hk;exact⟨b,o,A',c,e,hb.cell hl h1,h2⟩
theorem RowsIn.mono {w w':World} {A:Option Addr} {rs:List (List Int)} (h:RowsIn w A rs) (hb:Bel w w'):RowsIn w' A rs:=
  ⟨h.1,h.2.1,fun hn=>by
    obtain⟨b,o,e,hl,hc⟩:=h.2.2 hn
    refine⟨b,o,e,nLL hl hb.size,fun k hk=>?_⟩
    obtain⟨A',c,h1,h2⟩:=hc k hk
    exact⟨A',c,hb.cell hl h1,h2.mono hb⟩⟩
def Qw:List Int→List (Int×Int)
  | a :: b :: t=>(a,b) :: Qw t
  | _=>[]
def Yq (r:List Int):Nd:=⟨r.getD 0 0,Qw (r.drop 1)⟩
theorem pairs_end {r:List Int} {i:Nat} (h:r.length≤i + 1):Qw (r.drop i)= []:=by
  have hl:(r.drop i).length≤1:=by simp;omega
  match e:r.drop i with
  | []=>rfl
  | [a]=>rfl
  | a :: b :: t=>rw [e] at hl;simp at hl
theorem L2 {r:List Int} {i:Nat} (h:i + 1 < r.length):Qw (r.drop i)=(r[i],r[i + 1]) :: Qw (r.drop (i + 2)):=by
  rw [List.drop_eq_getElem_cons (show i < r.length by omega),List.drop_eq_getElem_cons h];rfl
def lnC (ls:List (Int×Int)):List Value:=ls.flatMap (fun x=>[.int .i64 x.1,.int .i64 x.2])
theorem lnC_snoc (ls:List (Int×Int)) (a b:Int):lnC ls ++ [.int .i64 a,.int .i64 b]=lnC (ls ++ [(a,b)]):=by simp [lnC]
theorem BW (ls:List (Int×Int)):(lnC ls).length=ls.length * 2:=by
  induction ls with
  | nil=>rfl
  | cons a r ih=>rw [show lnC (a :: r)= .int .i64 a.1 :: .int .i64 a.2 :: lnC r from rfl];simp only [List.length_cons,ih];omega
theorem lnC_get:∀ {ls:List (Int×Int)} {k:Nat} (hk:k < ls.length),(lnC ls)[k * 2]? =some (.int .i64 (ls[k]).1)∧(lnC ls)[k * 2 + 1]? =some (.int .i64 (ls[k]).2)
  | a :: r,0,_=>⟨rfl,rfl⟩
  | a :: r,k + 1,hk=>by
    have:=lnC_get (ls:=r) (k:=k) (by simpa using hk)
    rw [show (k + 1) * 2=k * 2 + 1 + 1 by omega];exact this
theorem gof_links {w:World} {B:Nat} {A:Option Addr} {k cap:Nat} {ls:List (Int×Int)} (ho:Own w B 115 2 A k cap (lnC ls)):LinksIn w A ls:=by
  have hlk:ls.length=k:=by have h1:=ho.len;rw [BW] at h1;omega
  refine⟨by rw [hlk];exact ho.max,fun hn=>?_⟩;obtain⟨g,e,hb,hg,hc⟩:=ho.cell (by intro h0;have:=BW ls;rw [h0] at this;cases ls with | nil=>exact hn rfl | cons a r=>simp only [List.length_nil,List.length_cons] at this;omega);refine⟨g,0,e,hg,fun j hj=>?_⟩;obtain⟨h1,h2⟩:=lnC_get hj;intro i v hi
  match i,hi with
  | 0,hi=>cases hi;have:=hc _ _ h1;simpa using this
  | 1,hi=>cases hi;have:=hc _ _ h2;simpa using this
  | _ + 2,hi=>cases hi
theorem Own.fz {w:World} {B e sz:Nat} {ts:List Nat} {A:Option Addr} {k cap:Nat} {xs:List Value} (ho:Own w B e sz A k cap xs) (ht:∀ cs,¬Sp ts e cs):Fz [] w.heap.size ts w (fun w=>Own w B e sz A k cap xs):=⟨Nat.le_refl _,fun w2 h2=>by
  refine⟨ho.1,?_⟩
  rcases ho.2 with hn | ⟨g,c,cur,hv,hb,hg,r⟩
  · exact .inl hn
  · refine .inr ⟨g,c,cur,hv,hb,?_,r⟩
    exact(Fz.blk (X:=[]) (ts:=ts) (show Blk w g e cur from hg) (by simp) (ht _)).all w2 h2⟩
theorem Q9 {w:World} {base:Nat} {e:TypeId} {sz:Nat} {A:Option Addr} {k cap:Nat} {xs:List Value} (h:Own w base e sz A k cap xs):∀ g ∈ aL A,∃ cs,Blk w g e cs:=fun g hg=>by
  rcases h.2 with ⟨hn,_⟩ | ⟨g',c,cur,hv,hb,hgg,r⟩
  · cases hn;cases hg
  · cases hv
    simp only [aL,List.mem_singleton] at hg
    subst hg;exact⟨cur,hgg⟩
theorem Mj {ts:List Nat} {t:Nat} (h:t ∉ ts) (h1:t≠41) (h2:t≠44) (cs:Array Value):¬Sp ts t cs:=by
  rintro (h3 | ⟨h3,_⟩ | ⟨h3,_⟩)
  · exact h h3
  · exact h1 h3
  · exact h2 h3
def TS1:List Nat:=113 :: 30 :: TS
inductive NdData (w:World):List Nd→List Value→Prop
  | nil:NdData w [] []
  | snoc {l:List Nd} {vs:List Value} {x:Nd} {A:Option Addr} {c:Nat} (h:NdData w l vs) (hl:LinksIn w A x.ln):NdData w (l ++ [x]) (vs ++ [.int .i64 x.ty,.slice A x.ln.length c])
theorem NdData.len {w:World} {l:List Nd} {vs:List Value} (h:NdData w l vs):vs.length=l.length * 2:=by
  induction h with
  | nil=>rfl
  | snoc h hl ih=>simp only [List.length_append,List.length_cons,List.length_nil,ih];omega
theorem NdData.get {w:World} {l:List Nd} {vs:List Value} (h:NdData w l vs):∀ k (hk:k < l.length),∃ A c,vs[k * 2]? =some (.int .i64 (l[k]).ty)∧vs[k * 2 + 1]? =some (.slice A (l[k]).ln.length c)∧LinksIn w A (l[k]).ln:=by
  induction h with
  | nil=>intro k hk;simp at hk
  | @snoc l cs t A c h hp ih=>
    intro k hk;have hlen:=h.len;by_cases e:k < l.length
    · obtain⟨A',c',h1,h2,h3⟩:=ih k e
      refine⟨A',c',?_,?_,?_⟩
      · rw [List.getElem?_append_left om,h1,List.getElem_append_left e]
      · rw [List.getElem?_append_left om,h2,List.getElem_append_left e]
      · rw [List.getElem_append_left e];exact h3
    · simp only [List.length_append,List.length_cons,List.length_nil] at hk
      have ek:k=l.length:=by omega
      subst ek;have eg:(l ++ [t])[l.length]'(by simp)=t:=by simp
      rw [eg];refine⟨A,c,?_,?_,hp⟩
      · rw [List.getElem?_append_right om,hlen];simp
      · rw [List.getElem?_append_right om,hlen];simp
theorem gof_nodes {w:World} {B:Nat} {A:Option Addr} {k cap:Nat} {cs:List Value} {l:List Nd} (ho:Own w B 113 2 A k cap cs) (ht:NdData w l cs):NodesIn w A l:=by
  have hlk:l.length=k:=by have h1:=ho.len;have h2:=ht.len;omega
  refine⟨by rw [hlk];exact ho.max,fun hn=>?_⟩
  obtain⟨g,e,hb,hg,hc⟩:=ho.cell (by
    intro h0;have:=ht.len;rw [h0] at this;cases l with
    | nil=>exact hn rfl
    | cons a r=>simp only [List.length_nil,List.length_cons] at this;omega)
  refine⟨g,0,e,hg,fun j hj=>?_⟩;obtain⟨A',c,h1,h2,h3⟩:=ht.get j hj;refine⟨A',c,?_,h3⟩;intro i v hi
  match i,hi with
  | 0,hi=>cases hi;have:=hc _ _ h1;simpa using this
  | 1,hi=>cases hi;have:=hc _ _ h2;simpa using this
  | _ + 2,hi=>cases hi
theorem gof_end {w:World} {B n:Nat} {A:Option Addr} {k cap:Nat} {cs:List Value} {l:List Nd} (ho:Own w B 113 2 A k cap cs) (ht:Fz [] n TS1 w (fun w=>NdData w l cs)):Fz [] w.heap.size TS w (fun w=>NodesIn w A l):=
  ((ho.fz (ts:=TS) (Mj dE dE dE)).and ((ht.up).sub dE)).imp (fun _ h=>gof_nodes h.1 h.2)
theorem gof_more {w:World} {B n:Nat} {A:Option Addr} {j cap:Nat} {vs:List Value} {l:List Nd} {ls:List (Int×Int)} {z:Int} (ho:Own w B 115 2 A j cap (lnC ls)) (ht:Fz [] n TS1 w (fun w=>NdData w l vs)):Fz [] w.heap.size TS1 w (fun w=>NdData w (l ++ [⟨z,ls⟩]) (vs ++ [.int .i64 z,.slice A j cap])):=by
  have hlk:ls.length=j:=by have h1:=ho.len;rw [BW] at h1;omega
  subst hlk;exact((ho.fz (ts:=TS1) (Mj dE dE dE)).and ht).imp (fun _ h=> .snoc h.2 (gof_links h.1))
end Go.Proofs.YtbcpgfnfiekbiaaGreatDoor
namespace Go.Proofs.YtbcpgfnfiekbiaaGreatDoor
open Go.RowKit
inductive LxData (w:World):List Lx→List Value→Prop
  | nil:LxData w [] []
  | snoc {l:List Lx} {vs:List Value} {x:Lx} {G S B:Option Addr} {gn cg cs cb:Nat} (h:LxData w l vs) (hw:x.word.size < 9223372036854775807) (hn:gn=x.gr.length) (hG:NodesIn w G x.gr) (hS:SimsIn w S x.mean.type.args) (hT:TmsIn w B x.mean.args):LxData w (l ++ [x]) (vs ++ [.string x.word,.slice G gn cg,.int .i64 x.wt,.int .i64 x.mean.kind,.string x.mean.name,.int .i64 x.mean.index,.string x.mean.type.base,.slice S x.mean.type.args.length cs,.slice B x.mean.args.length cb])
def lxC (x:Lx) (G S B:Option Addr) (cg cs cb:Nat):List Value:=[.string x.word,.slice G x.gr.length cg,.int .i64 x.wt,.int .i64 x.mean.kind,.string x.mean.name,.int .i64 x.mean.index,.string x.mean.type.base,.slice S x.mean.type.args.length cs,.slice B x.mean.args.length cb]
theorem LxData.len {w:World} {l:List Lx} {vs:List Value} (h:LxData w l vs):vs.length=l.length * 9:=by
  induction h with
  | nil=>rfl
  | snoc h _ _ _ _ _ ih=>simp only [List.length_append,List.length_cons,List.length_nil,ih];omega
theorem LxData.get {w:World} {l:List Lx} {vs:List Value} (h:LxData w l vs):∀ k (hk:k < l.length),(l[k]).word.size < 9223372036854775807∧∃ G cg S cs B cb,(∀ j v,(lxC (l[k]) G S B cg cs cb)[j]? =some v→vs[k * 9 + j]? =some v)∧NodesIn w G (l[k]).gr∧SimsIn w S (l[k]).mean.type.args∧TmsIn w B (l[k]).mean.args:=by
  induction h with
  | nil=>intro k hk;simp at hk
  | @snoc l vs x G S B gn cg cs cb h hw hn hG hS hT ih=>
    intro k hk;have hlen:=h.len;by_cases e:k < l.length
    · rw [List.getElem_append_left e]
      obtain⟨h0,G',cg',S',cs',B',cb',h1,h2⟩:=ih k e;refine⟨h0,G',cg',S',cs',B',cb',fun j v hj=>?_,h2⟩;have hj9:j < 9:=(List.getElem?_eq_some_iff.1 hj).1;rw [List.getElem?_append_left om];exact h1 j v hj
    · simp only [List.length_append,List.length_cons,List.length_nil] at hk
      have ek:k=l.length:=by omega
      subst ek;have eg:(l ++ [x])[l.length]'(by simp)=x:=by simp
      rw [eg];subst hn;refine⟨hw,G,cg,S,cs,B,cb,fun j v hj=>?_,hG,hS,hT⟩;rw [List.getElem?_append_right om,hlen,Nat.add_sub_cancel_left];exact hj
theorem gof_lexes {w:World} {B:Nat} {A:Option Addr} {k cap:Nat} {cs:List Value} {l:List Lx} (ho:Own w B 46 9 A k cap cs) (ht:LxData w l cs):LexesIn w A l:=by
  have hlk:l.length=k:=by have h1:=ho.len;have h2:=ht.len;omega
  refine⟨by rw [hlk];exact ho.max,fun hn=>?_⟩
  obtain⟨g,e,hb,hg,hc⟩:=ho.cell (by
    intro h0;have:=ht.len;rw [h0] at this;cases l with
    | nil=>exact hn rfl
    | cons a r=>simp only [List.length_nil,List.length_cons] at this;omega)
  refine⟨g,0,e,hg,fun j hj=>?_⟩;obtain⟨h0,G,cg,S,cs',B',cb,h1,h2⟩:=ht.get j hj;refine⟨h0,G,cg,S,cs',B',cb,fun i v hi=>?_,h2⟩;have:=hc _ _ (h1 i v hi)
  simpa using this
end Go.Proofs.YtbcpgfnfiekbiaaGreatDoor
