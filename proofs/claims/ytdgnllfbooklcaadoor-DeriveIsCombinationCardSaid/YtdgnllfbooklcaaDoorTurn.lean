/- Words: the places of a string's runes, which of them are right, which bytes are barred. No program in sight. Rules, words and grammars as plain values, how a world holds them, and what is wrong with them. No program in sight. Derivation trees as plain values, how a world holds them, and what is wrong with them. No program in sight. Weights and codes of trees, and their order. No program in sight. What these functions of the program compute, at every world: cmp.isNaN[int], cmp.Compare[int], glosswright/graph.Target$1, slices.BinarySearchFunc[[]glosswright/api.Link,glosswright/api.Link,int]. What these functions of the program compute, at every world: glosswright/graph.Target. A graph whose nodes are numbered in another way: valid, and of the same canonical form. No program in sight. -/
import Derived.Test.YtdgnllfbooklcaaDoorRng
import Derived.Lib.RuneCount
import Derived.Lib.DecodeNEq
import Derived.Test.YtdgnllfbooklcaaDoorMeet
import Derived.Test.YtdgnllfbooklcaaDoorU
import Derived.Test.YtdgnllfbooklcaaDoorSim
namespace Go.Proofs.YtdgnllfbooklcaaDoor
open Go.RowKit
def gb (s:ByteArray) (k:Nat):Nat:=(s.get! k).toNat
theorem gX (s:ByteArray) (k:Nat):gb s k < 256:=(s.get! k).toNat_lt
theorem gb_at {s:ByteArray} {k:Nat} (h:k < s.size):(s[k]'h).toNat=gb s k:=by
  unfold gb;rw [show s.get! k=s[k]'h from get_at s k h]
theorem gb_bl (s:ByteArray) (k:Nat):gb s k=((bl s).getD k 0).toNat:=by
  unfold gb bl
  congr 1
  simp only [ByteArray.get!,List.getD];rw [Array.getElem?_toList];cases h:s.data[k]? with
  | none=>rw [getElem!_def,h];rfl
  | some c=>rw [getElem!_def,h];rfl
theorem O8 (p:Nat) (s:ByteArray) (k:Nat):gb (sdr p s) k=gb s (p + k):=by
  rw [gb_bl,gb_bl,VQ];simp [List.getD]
def wdt (s:ByteArray) (p:Nat):Nat:=(Utf8.decode s p).2
def OK (s:ByteArray) (p:Nat):Bool:=decide (gb s p < 128) || decide (2≤wdt s p)
theorem B5 (s:ByteArray) (p:Nat):Utf8.decode s p=Lib.decodeN (s.size - p) (gb s p) (gb s (p + 1)) (gb s (p + 2)) (gb s (p + 3)):=Lib.decode_at s p
theorem Nw {s:ByteArray} {p:Nat} (h:gb s p < 128):wdt s p=1∧(Utf8.decode s p).1=gb s p:=by
  unfold wdt;rw [B5];unfold Lib.decodeN;rw [if_pos h];exact⟨rfl,rfl⟩
theorem VV {s:ByteArray} {p:Nat} (h:p < s.size):1≤wdt s p:=Lib.decode_width_pos s p h
theorem dec_high {s:ByteArray} {p:Nat} (h:p < s.size) (hb:128≤gb s p):128≤(Utf8.decode s p).1:=(decode_high s p h (by rw [gb_at h];exact hb)).1
theorem BJ {s:ByteArray} {p j:Nat} (h1:0 < j) (h2:j < wdt s p):128≤gb s (p + j)∧p + j < s.size:=by
  unfold wdt at h2;rw [B5] at h2;unfold Lib.decodeN at h2
  split at h2
  · simp at h2;omega
  · split at h2
    · rename_i _ q
      split at h2
      · obtain rfl:j=1:=by simp at h2;omega
        omega
      · simp at h2;omega
    · split at h2
      · rename_i _ _ q
        split at h2
        · have:j=1∨j=2:=by simp at h2;omega
          rcases this with rfl | rfl <;> omega
        · simp at h2;omega
      · split at h2
        · rename_i _ _ _ q
          split at h2
          · have:j=1∨j=2∨j=3:=by simp at h2;omega
            rcases this with rfl | rfl | rfl <;> omega
          · simp at h2;omega
        · simp at h2;omega
theorem wdt_le {s:ByteArray} {p:Nat} (h:p < s.size):p + wdt s p≤s.size:=by
  by_cases e:wdt s p≤1
  · omega
  · have:=(BJ (s:=s) (p:=p) (j:=wdt s p - 1) om om).2
    omega
def chF (s:ByteArray):Nat→Nat→List Nat
  | 0,_=>[]
  | f + 1,p=>if p < s.size then p :: chF s f (p + wdt s p) else []
theorem Y8 {s:ByteArray} {f p:Nat} (h:¬p < s.size):chF s f p= []:=by cases f <;> simp [chF,h]
theorem R4 {s:ByteArray}:∀ {f g p:Nat},s.size - p≤f→s.size - p≤g→chF s f p=chF s g p
  | 0,g,p,hf,_=>by rw [Y8 om,Y8 om]
  | f + 1,0,p,_,hg=>by rw [Y8 om,Y8 om]
  | f + 1,g + 1,p,hf,hg=>by
    by_cases h:p < s.size
    · have:=VV h
      simp only [chF,if_pos h]
      rw [R4 (f:=f) (g:=g) om om]
    · rw [Y8 h,Y8 h]
def ch (s:ByteArray) (p:Nat):List Nat:=chF s (s.size - p) p
theorem Ww {s:ByteArray} {p:Nat} (h:¬p < s.size):ch s p= []:=Y8 h
theorem NW {s:ByteArray} {p:Nat} (h:p < s.size):ch s p=p :: ch s (p + wdt s p):=by
  have hw:=VV h;unfold ch;obtain⟨k,hk⟩:∃ k,s.size - p=k + 1:=⟨s.size - p - 1,by omega⟩
  rw [hk];simp only [chF,if_pos h];rw [R4 (g:=s.size - (p + wdt s p)) om (Nat.le_refl _)]
def vq (s:ByteArray) (p:Nat):Bool:=(ch s p).all (OK s)
theorem vq_end {s:ByteArray} {p:Nat} (h:¬p < s.size):vq s p=true:=by unfold vq;rw [Ww h];rfl
theorem WY {s:ByteArray} {p:Nat} (h:p < s.size) (ho:OK s p=true):vq s p=vq s (p + wdt s p):=by
  unfold vq;rw [NW h,List.all_cons,ho,Bool.true_and]
theorem WW {s:ByteArray} {p:Nat} (h:p < s.size) (ho:OK s p=false):vq s p=false:=by
  unfold vq;rw [NW h,List.all_cons,ho,Bool.false_and]
theorem vq_low {s:ByteArray} {p:Nat} (h:p < s.size) (hb:gb s p < 128):vq s p=vq s (p + 1):=by
  rw [WY h (by unfold OK;rw [decide_eq_true hb];rfl),(Nw hb).1]
theorem Ny {s:ByteArray}:∀ {k p:Nat},p + k≤s.size→(∀ j,j < k→gb s (p + j) < 128)→vq s p=vq s (p + k)
  | 0,_,_,_=>rfl
  | k + 1,p,h,hb=>by
    rw [vq_low (p:=p) om (hb 0 om),Ny (k:=k) (p:=p + 1) om (fun j hj=>by have:=hb (j + 1) om;rwa [show p + (j + 1)=p + 1 + j by omega] at this)]
    congr 1;omega
def spc (c:Nat):Bool:=decide (c=32) || decide (c=9) || decide (c=10) || decide (c=40) || decide (c=41) || decide (c=91) || decide (c=93) || decide (c=44) || decide (c=59)
theorem C7 {c:Nat} (h:spc c=true):c < 128:=by
  unfold spc at h;simp only [Bool.or_eq_true,decide_eq_true_eq] at h;omega
def brd (s:ByteArray) (p:Nat):Bool:=(ch s p).any (fun q=>spc (Utf8.decode s q).1)
theorem B7 {s:ByteArray} {p:Nat} (h:¬p < s.size):brd s p=false:=by unfold brd;rw [Ww h];rfl
theorem Ij {s:ByteArray} {p:Nat} (h:p < s.size):brd s p=(spc (Utf8.decode s p).1 || brd s (p + wdt s p)):=by
  unfold brd;rw [NW h,List.any_cons]
theorem brd_byte {s:ByteArray}:∀ {m p k:Nat},s.size - p≤m→p≤k→k < s.size→spc (gb s k)=true→brd s p=true:=by
  intro m
  induction m with
  | zero=>intro p k h1 h2 h3;omega
  | succ m ih=>
    intro p k h1 h2 h3 h4;have hp:p < s.size:=by omega
    have hw:=VV hp;rw [Ij hp];by_cases e:p=k
    · subst e
      have hl:=C7 h4;rw [(Nw hl).2,h4];rfl
    · by_cases e2:p + wdt s p≤k
      · rw [ih (p:=p + wdt s p) (k:=k) om e2 h3 h4,Bool.or_true]
      · have:=(BJ (s:=s) (p:=p) (j:=k - p) om om).1
        rw [show p + (k - p)=k by omega] at this;have:=C7 h4;omega
theorem byte_brd {s:ByteArray}:∀ {m p:Nat},s.size - p≤m→brd s p=true→∃ k,p≤k∧k < s.size∧spc (gb s k)=true:=by
  intro m
  induction m with
  | zero=>intro p h1 h;rw [B7 om] at h;cases h
  | succ m ih=>
    intro p h1 h;by_cases hp:p < s.size
    · have hw:=VV hp
      rw [Ij hp,Bool.or_eq_true] at h;rcases h with h | h
      · refine⟨p,Nat.le_refl _,hp,?_⟩
        by_cases hl:gb s p < 128
        · rwa [(Nw hl).2] at h
        · have:=dec_high hp om
          have:=C7 h;omega
      · obtain⟨k,h2,h3,h4⟩:=ih om h
        exact⟨k,by omega,h3,h4⟩
    · rw [B7 hp] at h;cases h
def u9 (s:ByteArray):Bool:=decide (1≤(ch s 0).length) && decide ((ch s 0).length≤30) && vq s 0 && !brd s 0
theorem ok_bad {s:ByteArray} {p:Nat} (hb:128≤gb s p) (h:Lib.firstT (gb s p) % 8≠2) (h3:Lib.firstT (gb s p) % 8≠3) (h4:Lib.firstT (gb s p) % 8≠4):OK s p=false:=by
  have hc:Lib.firstT (gb s p)=241∨Lib.firstT (gb s p) < 240:=by
    generalize gb s p=b at hb
    unfold Lib.firstT;rw [if_neg om]
    repeat' split
    all_goals omega
  have ht:Lib.firstT (gb s p)=241:=by
    rcases hc with ht | hl
    · exact ht
    · exfalso
      rcases Lib.firstT_low hl with q | q | q | q | q | q | q
      · rw [Lib.firstT_C2 q] at h;exact h rfl
      · rw [Lib.firstT_E0 q] at h3;exact h3 rfl
      · rw [Lib.firstT_E1 q] at h3;exact h3 rfl
      · rw [Lib.firstT_ED q] at h3;exact h3 rfl
      · rw [Lib.firstT_F0 q] at h4;exact h4 rfl
      · rw [Lib.firstT_F1 q] at h4;exact h4 rfl
      · rw [Lib.firstT_F4 q] at h4;exact h4 rfl
  have:wdt s p=1:=by
    unfold wdt;rw [B5,Lib.bad_eq _ _ _ _ _ (gX s p) ht]
  unfold OK;rw [this,decide_eq_false om];rfl
theorem first_256 (b:Nat):Lib.firstT b < 256:=by
  unfold Lib.firstT
  repeat' split
  all_goals omega
theorem first_lt {s:ByteArray} {p:Nat} (h:Lib.firstT (gb s p) % 8=2∨Lib.firstT (gb s p) % 8=3∨Lib.firstT (gb s p) % 8=4):Lib.firstT (gb s p) < 240:=by
  have hc:Lib.firstT (gb s p)=240∨Lib.firstT (gb s p)=241∨Lib.firstT (gb s p) < 240:=by
    generalize gb s p=b
    unfold Lib.firstT
    repeat' split
    all_goals omega
  omega
def yK (s:ByteArray) (p n:Nat):Prop:=s.size - p < n∨gb s (p + 1) < Lib.accLo (Lib.firstT (gb s p) / 16)∨Lib.accHi (Lib.firstT (gb s p) / 16) < gb s (p + 1)∨(3≤n∧(gb s (p + 2) < 128∨191 < gb s (p + 2)))∨(4≤n∧(gb s (p + 3) < 128∨191 < gb s (p + 3)))
instance (s:ByteArray) (p n:Nat):Decidable (yK s p n):=by unfold yK;infer_instance
theorem ok_n {s:ByteArray} {p n:Nat} (hp:p < s.size) (hn:n=2∨n=3∨n=4) (h:Lib.firstT (gb s p) % 8=n):(yK s p n→OK s p=false)∧(¬yK s p n→OK s p=true∧wdt s p=n):=by
  have hx:=first_lt (s:=s) (p:=p) om;have hb:128≤gb s p:=by
    by_cases e:gb s p < 128
    · unfold Lib.firstT at hx;rw [if_pos e] at hx;omega
    · omega
  have he:=Lib.slow_eq (s.size - p) (gb s p) (gb s (p + 1)) (gb s (p + 2)) (gb s (p + 3)) om (gX _ _) (gX _ _) (gX _ _) hx;rw [h] at he;have hw:wdt s p=(Lib.slowN (s.size - p) (gb s p) (gb s (p + 1)) (gb s (p + 2)) (gb s (p + 3)) n (Lib.accLo (Lib.firstT (gb s p) / 16)) (Lib.accHi (Lib.firstT (gb s p) / 16))).2:=by
    unfold wdt;rw [B5,he]
  have hok:OK s p=decide (2≤wdt s p):=by unfold OK;rw [decide_eq_false om,Bool.false_or]
  constructor
  · intro hbad
    have:wdt s p=1:=by
      rw [hw];unfold Lib.slowN;unfold yK at hbad
      repeat' split
      all_goals first | rfl | (exfalso;omega)
    rw [hok,this];rfl
  · intro hbad
    have:wdt s p=n:=by
      rw [hw];unfold Lib.slowN;unfold yK at hbad
      repeat' split
      all_goals first | (exfalso;omega) | (simp only;omega)
    rw [hok,this];exact⟨decide_eq_true om,rfl⟩
theorem jV {P:Program} {n:Nat} {f:Fr} {w:World} {dst:Option Tmp} {gd:Option (Nat×Bool)} {ty:TypeId} {pos:String} {af:Array Edge} {x y:Operand} {t:TypeId} {s:ByteArray} {i:Nat} (hu:P.underlying t=some .string) (hx:ev n f x= .string s) (hy:ev n f y= .int .i64 i) (hi:i < s.size):
    RV P n f w ⟨dst,.index t x y,ty,pos,af,gd⟩ (.int .u8 ((gb s i:Nat):Int)) w:=by
  rw [← gb_at hi];exact HX hu hx hy hi
theorem MZ {a:Nat} (h:a < 18446744073709551616):IntKind.u64.wrap (a:Int)=a:=by rw [IntKind.wrap_u64];omega
def hiB:Nat:=9259542123273814144
def wo:Nat→ByteArray→Nat
  | 0,s=>gb s 0
  | k + 1,s=>wo k s ||| (gb s (k + 1) * 2 ^ (8 * (k + 1)))
theorem jK (s:ByteArray):∀ {k:Nat},k < 8→wo k s < 18446744073709551616
  | 0,_=>by have:=gX s 0;unfold wo;omega
  | k + 1,h=>by
    have h1:=jK s (k:=k) om
    have h2:=gX s (k + 1)
    have h3:gb s (k + 1) * 2 ^ (8 * (k + 1)) < 2 ^ 64:=by
      have:(2:Nat) ^ 64=2 ^ (64 - 8 * (k + 1)) * 2 ^ (8 * (k + 1)):=by rw [← Nat.pow_add];congr 1;omega
      rw [this];refine Nat.mul_lt_mul_of_pos_right ?_ (Nat.pow_pos dE);have:(2:Nat) ^ 8≤2 ^ (64 - 8 * (k + 1)):=Nat.pow_le_pow_right dE om;omega
    exact Nat.or_lt_two_pow (n:=64) h1 h3
theorem Oj {a b c:Nat} (h:(a ||| b) &&& c=0):a &&& c=0∧b &&& c=0:=by
  constructor <;> refine Nat.eq_of_testBit_eq (fun i=>?_) <;> (have:=congrArg (fun z=>z.testBit i) h;simp at this ⊢;grind)
theorem wo_z (s:ByteArray):∀ {k:Nat},k < 8→wo k s &&& hiB=0→∀ j,j≤k→gb s j < 128
  | 0,_,h,j,hj=>by
    obtain rfl:j=0:=by omega
    have h1:=gX s 0
    have h2:=congrArg (fun z=>z.testBit 7) h
    simp only [wo,Nat.testBit_and,Nat.zero_testBit] at h2
    have h3:hiB.testBit 7=true:=by decide
    rw [h3,Bool.and_true,Nat.testBit_eq_decide_div_mod_eq] at h2
    simp at h2
    omega
  | k + 1,hk,h,j,hj=>by
    obtain⟨h1,h2⟩:=Oj h
    by_cases e:j=k + 1
    · subst e
      have h3:=gX s (k + 1)
      have h4:=congrArg (fun z=>z.testBit (8 * (k + 1) + 7)) h2
      have h5:hiB.testBit (8 * (k + 1) + 7)=true:=by
        have:∀ k,k < 8→hiB.testBit (8 * k + 7)=true:=by decide
        exact this (k + 1) hk
      simp only [Nat.testBit_and,Nat.zero_testBit,h5,Bool.and_true,Nat.testBit_mul_two_pow] at h4;rw [Nat.add_sub_cancel_left,Nat.testBit_eq_decide_div_mod_eq] at h4;simp at h4;omega
    · exact wo_z s om h1 j om
theorem gw (a p:Nat) (s:ByteArray):sdr a (sdr p s)=sdr (p + a) s:=WZ (by rw [VQ,VQ,VQ,List.drop_drop])
theorem asc8 {p:Nat} {s:ByteArray} (h:wo 7 (sdr p s) &&& hiB=0):∀ j,j < 8→gb s (p + j) < 128:=fun j hj=>by
  rw [← O8];exact wo_z _ dE h j om
theorem asc16 {p:Nat} {s:ByteArray} (h:(wo 7 (sdr p s) ||| wo 7 (sdr 8 (sdr p s))) &&& hiB=0):∀ j,j < 16→gb s (p + j) < 128:=fun j hj=>by
  obtain⟨h1,h2⟩:=Oj h
  rw [gw] at h2
  by_cases e:j < 8
  · exact asc8 h1 j e
  · have:=asc8 h2 (j - 8) om
    rwa [show p + 8 + (j - 8)=p + j by omega] at this
theorem asc32 {p:Nat} {s:ByteArray} (h:((wo 7 (sdr p s) ||| wo 7 (sdr 8 (sdr p s))) ||| (wo 7 (sdr 16 (sdr p s)) ||| wo 7 (sdr 24 (sdr p s)))) &&& hiB=0):∀ j,j < 32→gb s (p + j) < 128:=fun j hj=>by
  obtain⟨h1,h2⟩:=Oj h
  by_cases e:j < 16
  · exact asc16 h1 j e
  · have h3:(wo 7 (sdr (p + 16) s) ||| wo 7 (sdr 8 (sdr (p + 16) s))) &&& hiB=0:=by
      rw [gw,gw] at h2;rw [gw];exact h2
    have:=asc16 h3 (j - 16) om
    rwa [show p + 16 + (j - 16)=p + j by omega] at this
def U8In (w:World):Prop:=(1 < w.heap.size∧∀ k,k < 256→w.cell? ⟨1,0 + k * 1,none⟩=some (.int .u8 ((Lib.firstT k:Nat):Int)))∧2 < w.heap.size∧∀ k,k < 16→w.rangeAt 2 (0 + k * 2) [.int .u8 ((Lib.accLo k:Nat):Int),.int .u8 ((Lib.accHi k:Nat):Int)]
theorem U8In.mono {w w':World} (h:U8In w) (hb:Bel w w'):U8In w':=⟨⟨nLL h.1.1 hb.size,fun k hk=>hb.cell h.1.1 (h.1.2 k hk)⟩,nLL h.2.1 hb.size,fun k hk=>hb.range h.2.1 (h.2.2 k hk)⟩
def CH:ByteArray:=⟨#[32,9,10,40,41,91,93,44,59]⟩
theorem LJ:∀ i,i < 9→gb CH i < 128:=by decide +kernel
theorem ch_ix:∀ c,c < 256→decide (0≤Lib.indexByte (bl CH) c.toUInt8)=spc c:=by decide +kernel
def chs (k x:Nat):Bool:=(List.range k).any (fun j=>decide (gb CH j=x))
theorem chs_all:∀ x,x < 256→chs 9 x=spc x:=by decide +kernel
theorem chs_step (k x:Nat):chs (k + 1) x=if x=gb CH k then true else chs k x:=by
  unfold chs;rw [List.range_succ,List.any_append];by_cases h:x=gb CH k
  · simp [h]
  · simp [h,Ne.symm h]
theorem run_ixb {P:Program} {F:FuncId} {fn:Func} {s:ByteArray} {c:Int} {w:World} (hf:P.funcs[F]? =some fn) (hname:(fn.name == "runtime.NumGoroutine")=false) (hb:fn.body.isNone=true) (hn:Extern.findNext fn=none) (he:Extern.find fn=some Extern.BytealgIndexByte.indexByte):
    (callFunc F #[.string s,.int .u8 c]).run P w= .ok (.value (.int .i64 (Lib.indexByte (bl s) c.toNat.toUInt8))) w:=by
  rw [run_callFunc_extern hf hname hb hn he,Lib.run_indexByteString];rfl
theorem ixb_none {l:List UInt8} {c:UInt8} (h:¬c ∈ l):Lib.indexByte l c < 0:=by
  by_cases e:Lib.indexByte l c < 0
  · exact e
  · obtain⟨m,hm⟩:∃ m:Nat,Lib.indexByte l c=m:=⟨(Lib.indexByte l c).toNat,by omega⟩
    obtain⟨_,_,h3⟩:=L9 hm;exact absurd (by rw [h3];simp) h
theorem enc_hi {r:Nat} (h:128≤r):2≤(Utf8.encode (r:Int)).size∧(Utf8.encode (r:Int)).size≤4∧∀ i,i < (Utf8.encode (r:Int)).size→128≤gb (Utf8.encode (r:Int)) i:=by
  have key:∀ c:Nat,128≤c→c≤1114111→∀ e:ByteArray,e=(if c < 0x80 then ⟨#[UInt8.ofNat c]⟩ else if c < 0x800 then ⟨#[UInt8.ofNat (0xC0 + c / 64),UInt8.ofNat (0x80 + c % 64)]⟩ else if c < 0x10000 then ⟨#[UInt8.ofNat (0xE0 + c / 4096),UInt8.ofNat (0x80 + c / 64 % 64),UInt8.ofNat (0x80 + c % 64)]⟩ else ⟨#[UInt8.ofNat (0xF0 + c / 262144),UInt8.ofNat (0x80 + c / 4096 % 64),UInt8.ofNat (0x80 + c / 64 % 64),UInt8.ofNat (0x80 + c % 64)]⟩)→2≤e.size∧e.size≤4∧∀ i,i < e.size→128≤gb e i:=by
    intro c h1 h2 e he;have u8:∀ n:Nat,128≤n→n < 256→128≤(UInt8.ofNat n).toNat:=fun n a b=>by rw [UInt8.toNat_ofNat_of_lt' (by exact b)];exact a
    rw [if_neg om] at he
    split at he
    · subst he
      refine⟨Nat.le_refl _,by show 2≤4;decide,fun i hi=>?_⟩
      match i,hi with
      | 0,_=>exact u8 _ om om
      | 1,_=>exact u8 _ om om
    · split at he
      · subst he
        refine⟨by show 2≤3;decide,by show 3≤4;decide,fun i hi=>?_⟩
        match i,hi with
        | 0,_=>exact u8 _ om om
        | 1,_=>exact u8 _ om om
        | 2,_=>exact u8 _ om om
      · subst he
        refine⟨by show 2≤4;decide,Nat.le_refl _,fun i hi=>?_⟩
        match i,hi with
        | 0,_=>exact u8 _ om om
        | 1,_=>exact u8 _ om om
        | 2,_=>exact u8 _ om om
        | 3,_=>exact u8 _ om om
  refine key (if Utf8.valid (r:Int) then (r:Int).toNat else Utf8.runeError) ?_ ?_ _ rfl
  · split
    · exact h
    · decide
  · split
    · rename_i hv
      unfold Utf8.valid at hv;simp at hv;omega
    · decide
end Go.Proofs.YtdgnllfbooklcaaDoor
namespace Go.Proofs.YtdgnllfbooklcaaDoor
open Go.RowKit
structure Rl where
  name:ByteArray
  gr:List Nd
  kids:Int
  wt:Int
  mean:Tm
structure Lx where
  word:ByteArray
  gr:List Nd
  wt:Int
  mean:Tm
def RlIn (w:World) (b o:Nat) (r:Rl):Prop:=∃ G cg S cs B m,w.rangeAt b o [.string r.name,.slice G r.gr.length cg,.int .i64 r.kids,.int .i64 r.wt,.int .i64 r.mean.kind,.string r.mean.name,.int .i64 r.mean.index,.string r.mean.type.base,.slice S r.mean.type.args.length cs,.slice B r.mean.args.length m]∧NodesIn w G r.gr∧SimsIn w S r.mean.type.args∧TmsIn w B r.mean.args
def RulesIn (w:World) (A:Option Addr) (l:List Rl):Prop:=
  l.length≤vz∧(l≠[]→∃ b o,A=some ⟨b,o,none⟩∧b < w.heap.size∧∀ k (h:k < l.length),RlIn w b (o + k * 10) l[k])
def LxIn (w:World) (b o:Nat) (r:Lx):Prop:=r.word.size < 9223372036854775807∧∃ G cg S cs B m,w.rangeAt b o [.string r.word,.slice G r.gr.length cg,.int .i64 r.wt,.int .i64 r.mean.kind,.string r.mean.name,.int .i64 r.mean.index,.string r.mean.type.base,.slice S r.mean.type.args.length cs,.slice B r.mean.args.length m]∧NodesIn w G r.gr∧SimsIn w S r.mean.type.args∧TmsIn w B r.mean.args
def LexesIn (w:World) (A:Option Addr) (l:List Lx):Prop:=
  l.length≤vz∧(l≠[]→∃ b o,A=some ⟨b,o,none⟩∧b < w.heap.size∧∀ k (h:k < l.length),LxIn w b (o + k * 9) l[k])
theorem RlIn.mono {w w':World} {b o:Nat} {r:Rl} (h:RlIn w b o r) (hb:Bel w w') (hl:b < w.heap.size):RlIn w' b o r:=by
  obtain⟨G,cg,S,cs,B,m,h1,h2,h3,h4⟩:=h;exact⟨G,cg,S,cs,B,m,hb.range hl h1,h2.mono hb,h3.mono hb,h4.mono hb⟩
theorem LxIn.mono {w w':World} {b o:Nat} {r:Lx} (h:LxIn w b o r) (hb:Bel w w') (hl:b < w.heap.size):LxIn w' b o r:=by
  obtain⟨h0,G,cg,S,cs,B,m,h1,h2,h3,h4⟩:=h;exact⟨h0,G,cg,S,cs,B,m,hb.range hl h1,h2.mono hb,h3.mono hb,h4.mono hb⟩
theorem RulesIn.mono {w w':World} {A:Option Addr} {l:List Rl} (h:RulesIn w A l) (hb:Bel w w'):RulesIn w' A l:=
  ⟨h.1,fun hn=>by
    obtain⟨b,o,e,hl,hc⟩:=h.2 hn
    exact⟨b,o,e,nLL hl hb.size,fun k hk=>(hc k hk).mono hb hl⟩⟩
theorem LexesIn.mono {w w':World} {A:Option Addr} {l:List Lx} (h:LexesIn w A l) (hb:Bel w w'):LexesIn w' A l:=
  ⟨h.1,fun hn=>by
    obtain⟨b,o,e,hl,hc⟩:=h.2 hn
    exact⟨b,o,e,nLL hl hb.size,fun k hk=>(hc k hk).mono hb hl⟩⟩
theorem RulesIn.at_ {w w':World} {A:Option Addr} {l:List Rl} (h:RulesIn w A l) (hb:Bel w w') {k:Nat} (hk:k < l.length):
    ∃ b o G cg S cs B m,A=some ⟨b,o,none⟩∧b < w.heap.size∧w'.rangeAt b (o + k * 10) [Value.string (l[k]).name,.slice G (l[k]).gr.length cg,.int .i64 (l[k]).kids,.int .i64 (l[k]).wt,.int .i64 (l[k]).mean.kind,.string (l[k]).mean.name,.int .i64 (l[k]).mean.index,.string (l[k]).mean.type.base,.slice S (l[k]).mean.type.args.length cs,.slice B (l[k]).mean.args.length m]∧NodesIn w G (l[k]).gr∧SimsIn w S (l[k]).mean.type.args∧TmsIn w B (l[k]).mean.args:=by
  obtain⟨b,o,e,hl,hc⟩:=h.2 (by rintro rfl;simp at hk);obtain⟨G,cg,S,cs,B,m,h1,h2,h3,h4⟩:=hc k hk;exact⟨b,o,G,cg,S,cs,B,m,e,hl,hb.range hl h1,h2,h3,h4⟩
theorem LexesIn.at_ {w w':World} {A:Option Addr} {l:List Lx} (h:LexesIn w A l) (hb:Bel w w') {k:Nat} (hk:k < l.length):
    ∃ b o G cg S cs B m,A=some ⟨b,o,none⟩∧b < w.heap.size∧(l[k]).word.size < 9223372036854775807∧w'.rangeAt b (o + k * 9) [Value.string (l[k]).word,.slice G (l[k]).gr.length cg,.int .i64 (l[k]).wt,.int .i64 (l[k]).mean.kind,.string (l[k]).mean.name,.int .i64 (l[k]).mean.index,.string (l[k]).mean.type.base,.slice S (l[k]).mean.type.args.length cs,.slice B (l[k]).mean.args.length m]∧NodesIn w G (l[k]).gr∧SimsIn w S (l[k]).mean.type.args∧TmsIn w B (l[k]).mean.args:=by
  obtain⟨b,o,e,hl,hc⟩:=h.2 (by rintro rfl;simp at hk);obtain⟨h0,G,cg,S,cs,B,m,h1,h2,h3,h4⟩:=hc k hk;exact⟨b,o,G,cg,S,cs,B,m,e,hl,h0,hb.range hl h1,h2,h3,h4⟩
def plN (g:List Nd) (k:Int) (f:Nat):Bool:=decide ((0:Int)≤tgt (I0 g 0).ln (f:Int)) == decide ((f:Int)≤k)
def uZ (g:List Nd) (k:Int):Bool:=(List.range 4).all (plN g k)
theorem nd_zero {g:List Nd} (h:0 < g.length):I0 g 0=g[0]:=by simp [I0,List.getD,h]
theorem pl_yes {g:List Nd} {k:Int} (h:∀ f,f < 4→plN g k f=true):uZ g k=true:=List.all_eq_true.2 fun f hf=>h f (List.mem_range.1 hf)
theorem pl_no {g:List Nd} {k:Int} {f:Nat} (hf:f < 4) (h:plN g k f=false):uZ g k=false:=by
  cases e:uZ g k with
  | false=>rfl
  | true=>rw [List.all_eq_true.1 e f (List.mem_range.2 hf)] at h;cases h
theorem plN_of {g:List Nd} {k:Int} {f:Nat} (h:0 < g.length):plN g k f=(decide ((0:Int)≤tgt (g[0]).ln (f:Int)) == decide ((f:Int)≤k)):=by unfold plN;rw [nd_zero h]
def Q4 (r:Rl):Prop:=r.kids < 1∨3 < r.kids∨r.wt < 0∨1000000 < r.wt
instance (r:Rl):Decidable (Q4 r):=by unfold Q4;infer_instance
noncomputable def V9 (l:List Ty) (fs:List Ft) (r:Rl):Int:=if Q4 r then 3 else if (xj l fs r.gr).1≠0 then (xj l fs r.gr).1 else if uZ r.gr r.kids=true then (tmF r.mean).1 else 5
theorem Cv {l:List Ty} {fs:List Ft} {r:Rl} (h:Q4 r):V9 l fs r=3:=if_pos h
theorem rl_gr {l:List Ty} {fs:List Ft} {r:Rl} (h:¬Q4 r) (h2:¬(xj l fs r.gr).1=0):V9 l fs r=(xj l fs r.gr).1:=by unfold V9;rw [if_neg h,if_pos h2]
theorem rl_pl {l:List Ty} {fs:List Ft} {r:Rl} (h:¬Q4 r) (h2:(xj l fs r.gr).1=0) (h3:uZ r.gr r.kids=false):V9 l fs r=5:=by unfold V9;rw [if_neg h,if_neg (fun e=>e h2),h3];rfl
theorem rl_ok {l:List Ty} {fs:List Ft} {r:Rl} (h:¬Q4 r) (h2:(xj l fs r.gr).1=0) (h3:uZ r.gr r.kids=true):V9 l fs r=(tmF r.mean).1:=by unfold V9;rw [if_neg h,if_neg (fun e=>e h2),if_pos h3]
def J9 (r:Lx):Prop:=r.wt < 0∨1000000 < r.wt
instance (r:Lx):Decidable (J9 r):=by unfold J9;infer_instance
noncomputable def O1 (l:List Ty) (fs:List Ft) (r:Lx):Int:=if u9 r.word=false then 10 else if J9 r then 3 else if (xj l fs r.gr).1≠0 then (xj l fs r.gr).1 else (tmF r.mean).1
theorem CJ {l:List Ty} {fs:List Ft} {r:Lx} (h:u9 r.word=false):O1 l fs r=10:=if_pos h
theorem FY {l:List Ty} {fs:List Ft} {r:Lx} (h0:u9 r.word=true) (h:J9 r):O1 l fs r=3:=by unfold O1;rw [h0,if_neg dE,if_pos h]
theorem lx_gr {l:List Ty} {fs:List Ft} {r:Lx} (h0:u9 r.word=true) (h:¬J9 r) (h2:¬(xj l fs r.gr).1=0):O1 l fs r=(xj l fs r.gr).1:=by unfold O1;rw [h0,if_neg dE,if_neg h,if_pos h2]
theorem lx_ok {l:List Ty} {fs:List Ft} {r:Lx} (h0:u9 r.word=true) (h:¬J9 r) (h2:(xj l fs r.gr).1=0):O1 l fs r=(tmF r.mean).1:=by unfold O1;rw [h0,if_neg dE,if_neg h,if_neg (fun e=>e h2)]
theorem Rw {l:List Ty} {fs:List Ft} {g:List Nd} (h:(xj l fs g).1=0):(vw l.length fs.length g).1=0:=by
  by_cases h1:(vw l.length fs.length g).1=0
  · exact h1
  · rw [E2 h1] at h;exact h
noncomputable def jq (l:List Ty) (fs:List Ft) (rs:List Rl) (i:Nat):Int:=match rs[i]? with
  | none=>0
  | some r=>if y8 r.name=false then 10 else if uy ((rs.take i).map (·.name)) r.name=true then 7 else V9 l fs r
noncomputable def J4 (l:List Ty) (fs:List Ft) (xs:List Lx) (i:Nat):Int:=match xs[i]? with
  | none=>0
  | some r=>O1 l fs r
theorem rn10 {l:List Ty} {fs:List Ft} {rs:List Rl} {i:Nat} (hi:i < rs.length) (h:y8 (rs[i]).name=false):jq l fs rs i=10:=by
  simp only [jq,List.getElem?_eq_getElem hi,if_pos h]
theorem rn7 {l:List Ty} {fs:List Ft} {rs:List Rl} {i:Nat} (hi:i < rs.length) (h:y8 (rs[i]).name=true) (h2:uy ((rs.take i).map (·.name)) (rs[i]).name=true):jq l fs rs i=7:=by
  simp only [jq,List.getElem?_eq_getElem hi];rw [h,if_neg dE,if_pos h2]
theorem rnF {l:List Ty} {fs:List Ft} {rs:List Rl} {i:Nat} (hi:i < rs.length) (h:y8 (rs[i]).name=true) (h2:uy ((rs.take i).map (·.name)) (rs[i]).name=false):jq l fs rs i=V9 l fs rs[i]:=by
  simp only [jq,List.getElem?_eq_getElem hi];rw [h,if_neg dE,h2,if_neg dE]
theorem lnF {l:List Ty} {fs:List Ft} {xs:List Lx} {i:Nat} (hi:i < xs.length):J4 l fs xs i=O1 l fs xs[i]:=by
  simp only [J4,List.getElem?_eq_getElem hi]
noncomputable def qy (l:List Ty) (fs:List Ft) (rs:List Rl) (xs:List Lx) (st:List Nd):Fl:=
  if (qj l fs).1≠0 then qj l fs else if fs.length≤3 then (9,-1) else if 40 < rs.length∨100 < xs.length then (2,-1)
  else if (qv (jq l fs rs) 0 rs.length).1≠0 then qv (jq l fs rs) 0 rs.length else if (qv (J4 l fs xs) 0 xs.length).1≠0 then qv (J4 l fs xs) 0 xs.length
  else if (xj l fs st).1≠0 then ((xj l fs st).1,-1) else (0,0)
variable {l:List Ty} {fs:List Ft} {rs:List Rl} {xs:List Lx} {st:List Nd}
theorem J2 (h:¬(qj l fs).1=0):qy l fs rs xs st=((qj l fs).1,(qj l fs).2):=if_pos h
theorem O7 (h:(qj l fs).1=0) (h2:fs.length≤3):qy l fs rs xs st=(9,-1):=by unfold qy;rw [if_neg (fun e=>e h),if_pos h2]
theorem I5 (h:(qj l fs).1=0) (h2:¬fs.length≤3) (h3:40 < rs.length∨100 < xs.length):qy l fs rs xs st=(2,-1):=by unfold qy;rw [if_neg (fun e=>e h),if_neg h2,if_pos h3]
theorem Y5 {c i:Int} (h:(qj l fs).1=0) (h2:¬fs.length≤3) (h3:¬(40 < rs.length∨100 < xs.length)) (h4:qv (jq l fs rs) 0 rs.length=(c,i)) (hc:c≠0):qy l fs rs xs st=(c,i):=by
  unfold qy;rw [if_neg (fun e=>e h),if_neg h2,if_neg h3,h4,if_pos hc]
theorem W7 {c i:Int} (h:(qj l fs).1=0) (h2:¬fs.length≤3) (h3:¬(40 < rs.length∨100 < xs.length)) (h4:qv (jq l fs rs) 0 rs.length=(0,0)) (h5:qv (J4 l fs xs) 0 xs.length=(c,i)) (hc:c≠0):qy l fs rs xs st=(c,i):=by
  unfold qy;rw [if_neg (fun e=>e h),if_neg h2,if_neg h3,h4,if_neg dE,h5,if_pos hc]
theorem gr_start (h:(qj l fs).1=0) (h2:¬fs.length≤3) (h3:¬(40 < rs.length∨100 < xs.length)) (h4:qv (jq l fs rs) 0 rs.length=(0,0)) (h5:qv (J4 l fs xs) 0 xs.length=(0,0)) (h6:¬(xj l fs st).1=0):qy l fs rs xs st=((xj l fs st).1,-1):=by
  unfold qy;rw [if_neg (fun e=>e h),if_neg h2,if_neg h3,h4,if_neg dE,h5,if_neg dE,if_pos h6]
theorem gr_ok (h:(qj l fs).1=0) (h2:¬fs.length≤3) (h3:¬(40 < rs.length∨100 < xs.length)) (h4:qv (jq l fs rs) 0 rs.length=(0,0)) (h5:qv (J4 l fs xs) 0 xs.length=(0,0)) (h6:(xj l fs st).1=0):qy l fs rs xs st=(0,0):=by
  unfold qy;rw [if_neg (fun e=>e h),if_neg h2,if_neg h3,h4,if_neg dE,h5,if_neg dE,if_neg (fun e=>e h6)]
theorem feats_few (h:(qj l fs).1=0):fs.length≤40:=by
  unfold qj at h;by_cases h4:40 < fs.length
  · rw [if_pos h4] at h;cases h
  · omega
end Go.Proofs.YtdgnllfbooklcaaDoor
namespace Go.Proofs.YtdgnllfbooklcaaDoor
open Go.RowKit
inductive Dt where
  | mk (rule lex:Int) (kids:List Dt)
def Dt.rule:Dt→Int | .mk r _ _=>r
def Dt.lex:Dt→Int | .mk _ x _=>x
def Dt.kids:Dt→List Dt | .mk _ _ k=>k
theorem Dt.eta (t:Dt):t= .mk t.rule t.lex t.kids:=by cases t;rfl
mutual
inductive TreAt (w:World):Nat→Nat→Dt→Prop
  | mk {b o:Nat} {r l:Int} {ks:List Dt} {A:Option Addr} {c:Nat} (hb:b < w.heap.size) (h:w.rangeAt b o [.int .i64 r,.int .i64 l,.slice A (List.length ks) c]) (hs:TresIn w A ks):TreAt w b o (.mk r l ks)
inductive TresIn (w:World):Option Addr→List Dt→Prop
  | nil {A:Option Addr}:TresIn w A []
  | more {b o:Nat} {ks:List Dt} (hl:ks.length≤vz) (hb:b < w.heap.size) (h:∀ k (hk:k < ks.length),TreAt w b (o + k * 3) ks[k]):TresIn w (some ⟨b,o,none⟩) ks
end
theorem TreAt.both {w w':World} (hw:Bel w w'):(∀ {b o:Nat} {s:Dt},TreAt w b o s→TreAt w' b o s)∧∀ {A:Option Addr} {l:List Dt},TresIn w A l→TresIn w' A l:=by
  have h1:∀ {b o:Nat} {s:Dt} (h:TreAt w b o s),TreAt w' b o s:=fun h=>
    TreAt.rec (motive_1:=fun b o s _=>TreAt w' b o s) (motive_2:=fun A l _=>TresIn w' A l)
      (fun hb h _ ih=> .mk (nLL hb hw.size) (hw.range hb h) ih) .nil (fun hl hb _ ih=> .more hl (nLL hb hw.size) ih) h
  have h2:∀ {A:Option Addr} {l:List Dt} (h:TresIn w A l),TresIn w' A l:=fun h=>
    TresIn.rec (motive_1:=fun b o s _=>TreAt w' b o s) (motive_2:=fun A l _=>TresIn w' A l)
      (fun hb h _ ih=> .mk (nLL hb hw.size) (hw.range hb h) ih) .nil (fun hl hb _ ih=> .more hl (nLL hb hw.size) ih) h
  exact⟨h1,h2⟩
theorem TresIn.mono {w w':World} {A:Option Addr} {l:List Dt} (h:TresIn w A l) (hw:Bel w w'):TresIn w' A l:=(TreAt.both hw).2 h
theorem TresIn.le {w:World} {A:Option Addr} {l:List Dt} (h:TresIn w A l):l.length≤vz:=by
  cases h with
  | nil=>exact Nat.zero_le _
  | more hl=>exact hl
theorem TresIn.at_ {w:World} {A:Option Addr} {l:List Dt} (h:TresIn w A l) {k:Nat} (hk:k < l.length):∃ b o A' c,A=some ⟨b,o,none⟩∧b < w.heap.size∧w.rangeAt b (o + k * 3) [Value.int .i64 (l[k]).rule,.int .i64 (l[k]).lex,.slice A' (l[k]).kids.length c]∧TresIn w A' (l[k]).kids:=by
  cases h with
  | nil=>simp at hk
  | @more b o _ _ hb h=>
    have hx:=h k hk
    generalize l[k]=s at hx
    cases hx with
    | mk _ hr hs=>exact⟨b,o,_,_,rfl,hb,hr,hs⟩
def kdN (rs:List Rl) (t:Dt):Int:=if 0≤t.rule then ((rs[t.rule.toNat]?).map (·.kids)).getD 0 else 0
def trC (rs:List Rl) (nx:Nat) (t:Dt):Int:=
  if t.rule < -1∨(rs.length:Int)≤t.rule∨(t.rule= -1∧(t.lex < 0∨(nx:Int)≤t.lex)) then 3 else if 0≤t.rule∧¬t.lex=0 then 5 else if ¬(t.kids.length:Int)=kdN rs t then 9 else 0
def chN (rs:List Rl) (t:Dt) (c:Nat):Nat:=if kdN rs t=1 then c + 1 else 0
def lfN (t:Dt) (l:Nat):Nat:=if t.rule < 0 then l + 1 else l
mutual
def tw (rs:List Rl) (nx:Nat):Dt→Nat→Nat→Nat→Nat→Nat×Nat×Fl
  | .mk r x ks,d,c,n,l=>if 200 < n + 1∨48 < d then (n + 1,l,(1,(n:Int))) else if trC rs nx (.mk r x ks)=0 then (if 3 < chN rs (.mk r x ks) c then (n + 1,l,(14,(n:Int))) else tws rs nx ks (d + 1) (chN rs (.mk r x ks) c) (n + 1) (lfN (.mk r x ks) l)) else (n + 1,l,(trC rs nx (.mk r x ks),(n:Int)))
def tws (rs:List Rl) (nx:Nat):List Dt→Nat→Nat→Nat→Nat→Nat×Nat×Fl
  | [],_,_,n,l=>(n,l,(0,0))
  | x :: r,d,c,n,l=>if (tw rs nx x d c n l).2.2.1=0 then tws rs nx r d c (tw rs nx x d c n l).1 (tw rs nx x d c n l).2.1 else tw rs nx x d c n l
end
section
variable {rs:List Rl} {nx:Nat} {t:Dt} {d c n l:Nat}
theorem H6 (t:Dt) (d c n l:Nat):tw rs nx t d c n l=if 200 < n + 1∨48 < d then (n + 1,l,(1,(n:Int))) else if trC rs nx t=0 then (if 3 < chN rs t c then (n + 1,l,(14,(n:Int))) else tws rs nx t.kids (d + 1) (chN rs t c) (n + 1) (lfN t l)) else (n + 1,l,(trC rs nx t,(n:Int))):=by
  cases t;rw [tw];rfl
theorem DY (h:200 < n + 1∨48 < d):tw rs nx t d c n l=(n + 1,l,(1,(n:Int))):=by rw [H6,if_pos h]
theorem Jx {k:Int} (h:¬(200 < n + 1∨48 < d)) (hc:trC rs nx t=k) (h0:k≠0):tw rs nx t d c n l=(n + 1,l,(k,(n:Int))):=by rw [H6,if_neg h,if_neg (by rw [hc];exact h0),hc]
theorem VW (h:¬(200 < n + 1∨48 < d)) (hc:trC rs nx t=0) (h3:3 < chN rs t c):tw rs nx t d c n l=(n + 1,l,(14,(n:Int))):=by rw [H6,if_neg h,if_pos hc,if_pos h3]
theorem MX (h:¬(200 < n + 1∨48 < d)) (hc:trC rs nx t=0) (h3:¬3 < chN rs t c):tw rs nx t d c n l=tws rs nx t.kids (d + 1) (chN rs t c) (n + 1) (lfN t l):=by rw [H6,if_neg h,if_pos hc,if_neg h3]
theorem trC_3 (h:t.rule < -1∨(rs.length:Int)≤t.rule∨(t.rule= -1∧(t.lex < 0∨(nx:Int)≤t.lex))):trC rs nx t=3:=if_pos h
theorem trC_5 (h:¬(t.rule < -1∨(rs.length:Int)≤t.rule∨(t.rule= -1∧(t.lex < 0∨(nx:Int)≤t.lex)))) (h2:0≤t.rule∧¬t.lex=0):trC rs nx t=5:=by unfold trC;rw [if_neg h,if_pos h2]
theorem trC_9 (h:¬(t.rule < -1∨(rs.length:Int)≤t.rule∨(t.rule= -1∧(t.lex < 0∨(nx:Int)≤t.lex)))) (h2:¬(0≤t.rule∧¬t.lex=0)) (h3:¬(t.kids.length:Int)=kdN rs t):trC rs nx t=9:=by unfold trC;rw [if_neg h,if_neg h2,if_pos h3]
theorem trC_0 (h:¬(t.rule < -1∨(rs.length:Int)≤t.rule∨(t.rule= -1∧(t.lex < 0∨(nx:Int)≤t.lex)))) (h2:¬(0≤t.rule∧¬t.lex=0)) (h3:¬¬(t.kids.length:Int)=kdN rs t):trC rs nx t=0:=by unfold trC;rw [if_neg h,if_neg h2,if_neg h3]
theorem CW {i:Nat} (hi:i < rs.length) (h:t.rule=(i:Int)):kdN rs t=(rs[i]).kids:=by
  unfold kdN;rw [if_pos om,h];simp [hi]
theorem kdN_lf (h:t.rule < 0):kdN rs t=0:=by unfold kdN;rw [if_neg om]
theorem lfN_lf (h:t.rule < 0):lfN t l=l + 1:=if_pos h
theorem lfN_rl (h:¬t.rule < 0):lfN t l=l:=if_neg h
theorem tw_ts:∀ (k:Nat) (t:Dt),SizeOf.sizeOf t < k→∀ d c n l,l≤n→(tw rs nx t d c n l).2.2.1=0→(tw rs nx t d c n l).2.2=(0,0)∧(tw rs nx t d c n l).1≤200∧(tw rs nx t d c n l).2.1≤(tw rs nx t d c n l).1:=by
  intro k
  induction k with
  | zero=>intro t h;omega
  | succ k ih=>
    intro t ht d c n l hl h0;by_cases h1:200 < n + 1∨48 < d
    · rw [DY h1] at h0;cases h0
    by_cases h2:trC rs nx t=0
    · by_cases h3:3 < chN rs t c
      · rw [VW h1 h2 h3] at h0;cases h0
      · rw [MX h1 h2 h3] at h0 ⊢
        have key:∀ (ks:List Dt),(∀ x ∈ ks,SizeOf.sizeOf x < k)→∀ d c n l,l≤n→n≤200→(tws rs nx ks d c n l).2.2.1=0→(tws rs nx ks d c n l).2.2=(0,0)∧(tws rs nx ks d c n l).1≤200∧(tws rs nx ks d c n l).2.1≤(tws rs nx ks d c n l).1:=by
          intro ks
          induction ks with
          | nil=>intro _ d c n l h1 h2 _;rw [tws];exact⟨rfl,h2,h1⟩
          | cons x r ihr=>
            intro hx d c n l h1 h2 h3;rw [tws] at h3 ⊢;by_cases h4:(tw rs nx x d c n l).2.2.1=0
            · rw [if_pos h4] at h3 ⊢
              obtain⟨_,e2,e3⟩:=ih x (hx x (List.mem_cons_self ..)) d c n l h1 h4;exact ihr (fun y hy=>hx y (List.mem_cons_of_mem _ hy)) d c _ _ e3 e2 h3
            · rw [if_neg h4] at h3;exact absurd h3 h4
        have hlf:lfN t l≤n + 1:=by unfold lfN;split <;> omega
        refine key t.kids (fun x hx=>?_) _ _ _ _ hlf om h0;have:=List.sizeOf_lt_of_mem hx;cases t with
        | mk r x ks=>simp only [Dt.mk.sizeOf_spec,Dt.kids] at ht this;omega
    · rw [Jx h1 rfl h2] at h0;exact absurd h0 h2
theorem tw_z (hl:l≤n) (h:(tw rs nx t d c n l).2.2.1=0):(tw rs nx t d c n l).2.2=(0,0)∧(tw rs nx t d c n l).1≤200∧(tw rs nx t d c n l).2.1≤(tw rs nx t d c n l).1:=tw_ts (SizeOf.sizeOf t + 1) t (Nat.lt_succ_self _) d c n l hl h
end
def yv (rs:List Rl) (nx:Nat) (t:Dt):Fl:=if (tw rs nx t 1 0 0 0).2.2.1=0 then (if 12 < (tw rs nx t 1 0 0 0).2.1 then (2,-2) else (0,0)) else (tw rs nx t 1 0 0 0).2.2
theorem C0 {rs:List Rl} {nx:Nat} {t:Dt} (h:¬(tw rs nx t 1 0 0 0).2.2.1=0):yv rs nx t=(tw rs nx t 1 0 0 0).2.2:=if_neg h
theorem NQ {rs:List Rl} {nx:Nat} {t:Dt} (h:(tw rs nx t 1 0 0 0).2.2.1=0) (h2:12 < (tw rs nx t 1 0 0 0).2.1):yv rs nx t=(2,-2):=by unfold yv;rw [if_pos h,if_pos h2]
theorem tf_ok {rs:List Rl} {nx:Nat} {t:Dt} (h:(tw rs nx t 1 0 0 0).2.2.1=0) (h2:¬12 < (tw rs nx t 1 0 0 0).2.1):yv rs nx t=(0,0):=by unfold yv;rw [if_pos h,if_neg h2]
end Go.Proofs.YtdgnllfbooklcaaDoor
namespace Go.Proofs.YtdgnllfbooklcaaDoor
open Go.RowKit
mutual
def ndT:Dt→Nat
  | .mk _ _ ks=>Qx ks + 1
def Qx:List Dt→Nat
  | []=>0
  | x :: r=>ndT x + Qx r
end
def rlWt (rs:List Rl) (r:Int):Int:=((rs[r.toNat]?).map (·.wt)).getD 0
def lxWt (xs:List Lx) (x:Int):Int:=((xs[x.toNat]?).map (·.wt)).getD 0
mutual
def wtT (rs:List Rl) (xs:List Lx):Dt→Int
  | .mk r x ks=>if r < 0 then lxWt xs x else rlWt rs r + Yy rs xs ks
def Yy (rs:List Rl) (xs:List Lx):List Dt→Int
  | []=>0
  | t :: r=>wtT rs xs t + Yy rs xs r
end
theorem EK (t:Dt):ndT t=Qx t.kids + 1:=by cases t;rw [ndT];rfl
theorem wtT_lf {rs:List Rl} {xs:List Lx} {t:Dt} (h:t.rule < 0):wtT rs xs t=lxWt xs t.lex:=by cases t;rw [wtT];exact if_pos h
theorem Rx {rs:List Rl} {xs:List Lx} {t:Dt} (h:¬t.rule < 0):wtT rs xs t=rlWt rs t.rule + Yy rs xs t.kids:=by cases t;rw [wtT];exact if_neg h
inductive OkT (rs:List Rl) (nx:Nat):Dt→Prop
  | mk {t:Dt} (h:trC rs nx t=0) (hk:∀ x ∈ t.kids,OkT rs nx x):OkT rs nx t
section
variable {rs:List Rl} {xs:List Lx} {nx:Nat}
theorem OkT.at_ {t:Dt} (h:OkT rs nx t):trC rs nx t=0∧∀ x ∈ t.kids,OkT rs nx x:=by cases h with | mk h hk=>exact⟨h,hk⟩
theorem tw_okT:∀ (k:Nat) (t:Dt),SizeOf.sizeOf t < k→∀ d c n l,(tw rs nx t d c n l).2.2.1=0→OkT rs nx t∧(tw rs nx t d c n l).1=n + ndT t:=by
  intro k
  induction k with
  | zero=>intro t h;omega
  | succ k ih=>
    intro t ht d c n l h0;by_cases h1:200 < n + 1∨48 < d
    · rw [DY h1] at h0;cases h0
    by_cases h2:trC rs nx t=0
    · by_cases h3:3 < chN rs t c
      · rw [VW h1 h2 h3] at h0;cases h0
      · rw [MX h1 h2 h3] at h0 ⊢
        have key:∀ (ks:List Dt),(∀ x ∈ ks,SizeOf.sizeOf x < k)→∀ d c n l,(tws rs nx ks d c n l).2.2.1=0→(∀ x ∈ ks,OkT rs nx x)∧(tws rs nx ks d c n l).1=n + Qx ks:=by
          intro ks
          induction ks with
          | nil=>intro _ d c n l _;rw [tws,Qx];exact⟨(fun x hx=>nomatch hx),rfl⟩
          | cons x r ihr=>
            intro hx d c n l h3;rw [tws] at h3 ⊢;by_cases h4:(tw rs nx x d c n l).2.2.1=0
            · rw [if_pos h4] at h3 ⊢
              obtain⟨e1,e2⟩:=ih x (hx x (List.mem_cons_self ..)) d c n l h4;obtain⟨e3,e4⟩:=ihr (fun y hy=>hx y (List.mem_cons_of_mem _ hy)) d c _ _ h3;refine⟨fun y hy=>?_,?_⟩
              · rcases List.mem_cons.1 hy with rfl | hy
                · exact e1
                · exact e3 y hy
              · rw [e4,e2,Qx];omega
            · rw [if_neg h4] at h3;exact absurd h3 h4
        obtain⟨e1,e2⟩:=key t.kids (fun x hx=>by
          have:=List.sizeOf_lt_of_mem hx;cases t with
          | mk r x ks=>simp only [Dt.mk.sizeOf_spec,Dt.kids] at ht this;omega) _ _ _ _ h0
        exact⟨.mk h2 e1,by rw [e2,EK];omega⟩
    · rw [Jx h1 rfl h2] at h0;exact absurd h0 h2
theorem K3 {t:Dt} (h:(yv rs nx t).1=0):OkT rs nx t∧ndT t≤200∧(tw rs nx t 1 0 0 0).2.1≤12:=by
  by_cases h0:(tw rs nx t 1 0 0 0).2.2.1=0
  · by_cases h1:12 < (tw rs nx t 1 0 0 0).2.1
    · rw [NQ h0 h1] at h;cases h
    · obtain⟨e1,e2⟩:=tw_okT (SizeOf.sizeOf t + 1) t (Nat.lt_succ_self _) 1 0 0 0 h0
      obtain⟨_,e3,_⟩:=tw_z (Nat.le_refl _) h0;exact⟨e1,by omega,by omega⟩
  · rw [C0 h0] at h;exact absurd h h0
theorem KY {t:Dt} (h:trC rs nx t=0) (hr:t.rule < 0):t.rule= -1∧0≤t.lex∧t.lex < nx∧t.kids= []:=by
  unfold trC at h
  split at h
  · cases h
  · rename_i h1
    split at h
    · cases h
    · split at h
      · cases h
      · rename_i h3
        have h4:=Classical.not_not.1 h3;rw [kdN_lf hr] at h4;have h5:t.kids= []:=List.length_eq_zero_iff.1 om;have h6:t.rule= -1:=by omega
        refine⟨h6,?_,?_,h5⟩ <;> (refine Classical.byContradiction (fun e=>h1 (.inr (.inr ⟨h6,?_⟩)))) <;> omega
theorem KW {t:Dt} (h:trC rs nx t=0) (hr:¬t.rule < 0):t.rule < rs.length∧t.lex=0∧(t.kids.length:Int)=kdN rs t:=by
  unfold trC at h
  split at h
  · cases h
  · rename_i h1
    split at h
    · cases h
    · rename_i h2
      split at h
      · cases h
      · rename_i h3
        refine⟨?_,?_,Classical.not_not.1 h3⟩
        · omega
        · exact Classical.byContradiction (fun e=>h2 ⟨by omega,e⟩)
end
section wt
variable {rs:List Rl} {xs:List Lx}
theorem Cw {i:Nat} (hi:i < rs.length) {r:Int} (h:r=(i:Int)):rlWt rs r=(rs[i]).wt:=by
  unfold rlWt;rw [h];simp [hi]
theorem L4 {i:Nat} (hi:i < xs.length) {r:Int} (h:r=(i:Int)):lxWt xs r=(xs[i]).wt:=by
  unfold lxWt;rw [h];simp [hi]
theorem BQ (hwr:∀ r ∈ rs,0≤r.wt∧r.wt≤1000000) (hwx:∀ x ∈ xs,0≤x.wt∧x.wt≤1000000):∀ (k:Nat) (t:Dt),SizeOf.sizeOf t < k→OkT rs xs.length t→0≤wtT rs xs t∧wtT rs xs t≤1000000 * (ndT t:Int):=by
  intro k
  induction k with
  | zero=>intro t h;omega
  | succ k ih=>
    intro t ht hok;obtain⟨h1,h2⟩:=hok.at_;have key:∀ (ks:List Dt),(∀ x ∈ ks,SizeOf.sizeOf x < k)→(∀ x ∈ ks,OkT rs xs.length x)→0≤Yy rs xs ks∧Yy rs xs ks≤1000000 * (Qx ks:Int):=by
      intro ks
      induction ks with
      | nil=>intro _ _;rw [Yy,Qx];exact⟨Int.le_refl _,Int.le_refl _⟩
      | cons x r ihr=>
        intro hsz hk;obtain⟨a1,a2⟩:=ih x (hsz x (List.mem_cons_self ..)) (hk x (List.mem_cons_self ..));obtain⟨b1,b2⟩:=ihr (fun y hy=>hsz y (List.mem_cons_of_mem _ hy)) (fun y hy=>hk y (List.mem_cons_of_mem _ hy));rw [Yy,Qx];refine⟨by omega,?_⟩;rw [Int.natCast_add,Int.mul_add];omega
    have hn:=EK t;by_cases hr:t.rule < 0
    · obtain⟨_,q1,q2,_⟩:=KY h1 hr
      obtain⟨i,hi⟩:=Int.eq_ofNat_of_zero_le q1;have hil:i < xs.length:=by omega
      rw [wtT_lf hr,L4 hil hi];obtain⟨a1,a2⟩:=hwx _ (List.getElem_mem hil);refine⟨a1,?_⟩;rw [hn,Int.natCast_add,Int.mul_add];omega
    · obtain⟨q1,_,_⟩:=KW h1 hr
      obtain⟨i,hi⟩:=Int.eq_ofNat_of_zero_le (Int.not_lt.1 hr);have hil:i < rs.length:=by omega
      rw [Rx hr,Cw hil hi];obtain⟨a1,a2⟩:=hwr _ (List.getElem_mem hil)
      obtain⟨b1,b2⟩:=key t.kids (fun x hx=>by
        have:=List.sizeOf_lt_of_mem hx;cases t with
        | mk r x ks=>simp only [Dt.mk.sizeOf_spec,Dt.kids] at ht this;omega) h2
      refine⟨by omega,?_⟩;rw [hn,Int.natCast_add,Int.mul_add];omega
theorem JW {ks:List Dt} {j:Nat} (hj:j < ks.length):Yy rs xs (ks.drop j)=wtT rs xs ks[j] + Yy rs xs (ks.drop (j + 1)):=by
  rw [List.drop_eq_getElem_cons hj,Yy]
theorem Rq (hwr:∀ r ∈ rs,0≤r.wt∧r.wt≤1000000) (hwx:∀ x ∈ xs,0≤x.wt∧x.wt≤1000000):∀ (ks:List Dt),(∀ x ∈ ks,OkT rs xs.length x)→0≤Yy rs xs ks
  | [],_=>by rw [Yy];exact Int.le_refl _
  | x :: r,h=>by
    rw [Yy]
    have a:=(BQ hwr hwx (SizeOf.sizeOf x + 1) x (Nat.lt_succ_self _) (h x (List.mem_cons_self ..))).1
    have b:=Rq hwr hwx r (fun y hy=>h y (List.mem_cons_of_mem _ hy))
    omega
theorem HY {t x:Dt} (h:x ∈ t.kids):ndT x < ndT t:=by
  have key:∀ (ks:List Dt),x ∈ ks→ndT x≤Qx ks:=by
    intro ks
    induction ks with
    | nil=>intro h;cases h
    | cons y r ih=>
      intro h;rw [Qx];rcases List.mem_cons.1 h with rfl | h
      · omega
      · have:=ih h;omega
  have:=key _ h;rw [EK t];omega
end wt
section
variable {rs:List Rl} {xs:List Lx} {nx:Nat}
end
end Go.Proofs.YtdgnllfbooklcaaDoor
namespace Go.Proofs.YtdgnllfbooklcaaDoor
open Go.RowKit
theorem r_cvU {P:Program} {n:Nat} {f:Fr} {w:World} {dst:Option Tmp} {gd:Option (Nat×Bool)} {ty:TypeId} {pos:String} {af:Array Edge} {x:Operand} {k':IntKind} {a:Int} {t t':TypeId} {dd:TypeDesc} (hs:P.underlying t=some dd) (hd:P.underlying t'=some (.int .u64)) (hx:ev n f x= .int k' a) (ha:0≤a∧a≤18446744073709551615):
    RV P n f w ⟨dst,.convert t t' x,ty,pos,af,gd⟩ (.int .u64 a) w:=by
  have:=IntWalk.u64_in a ha;simp [RV,execOp,hx,convert,run_underlying hs,run_underlying hd,Conv.intToInt,this]
def Iz (a b:Int):Int:=if a < b then -1 else if b < a then 1 else 0
theorem cmpI_lt {a b:Int}:Iz a b < 0 ↔ a < b:=by unfold Iz;split <;> (try split) <;> omega
theorem cmpI_eq {a b:Int}:Iz a b=0 ↔ a=b:=by unfold Iz;split <;> (try split) <;> omega
theorem fn69:zZ Tryd.prog 69=true:=by kernel_rfl
theorem fn72:zZ Tryd.prog 72=true:=by kernel_rfl
theorem fn85:zZ Tryd.prog 85=true:=by kernel_rfl
theorem xq:(Tryd.prog.info? 3).map (·.size)=some 1:=by kernel_rfl
theorem qX:(Tryd.prog.info? 95).map (·.size)=some 2:=by kernel_rfl
theorem L0 (a:Int) (w:World):Calls Tryd.prog 85 #[.int .i64 a] w fun e w'=>e= .returned (.bool false)∧Bel w w':=by
 refine enter Tryd.func85 Tryd.ntmps85 rfl (Nat.le_of_ble_eq_true rfl) ?_;have hB:Bel w w:=Below.refl _ _;refine Ow ?_;exact⟨jx (decide_eq_false (fun h=>h rfl)).symm,hB⟩
theorem N7 (a b:Int) (w:World):Calls Tryd.prog 69 #[.int .i64 a,.int .i64 b] w fun e w'=>e= .returned (.int .i64 (Iz a b))∧Bel w w':=by
 refine enter Tryd.func69 Tryd.ntmps69 rfl (Nat.le_of_ble_eq_true rfl) ?_;have hB:Bel w w:=Below.refl _ _;refine zn8 ?_;refine zX fn85 (L0 _ _) rfl (fun e' w1 hr=>?_);obtain⟨rfl,s1⟩:=hr;replace s1:=sB s1;refine⟨_,rfl,?_⟩;refine zn6 ?_;refine zX fn85 (L0 _ _) rfl (fun e' w2 hr=>?_);obtain⟨rfl,s2⟩:=hr;replace s2:=sB s2;refine⟨_,rfl,?_⟩;refine zn9 ?_;refine kv rfl (fun c11=>?_) (fun c11=>?_)
 ·exact absurd c11 dE
 refine zn8 ?_;refine kv rfl (fun c13=>?_) (fun c13=>?_)
 ·exact absurd c13 dE
 refine jy ?_;replace hB:=hB.tr0 (s1.trans s2);refine zJ rfl (fun c16=>?_) (fun c16=>?_)
 ·refine zn8 ?_;exact⟨XW (by unfold Iz;rw [if_pos c16]),hB⟩
 refine jy ?_;refine zJ rfl (fun c19=>?_) (fun c19=>?_)
 ·refine zn8 ?_;exact⟨XW (by unfold Iz;rw [if_neg c16];exact if_pos c19),hB⟩
 refine zn9 ?_;exact⟨XW (by unfold Iz;rw [if_neg c16];exact if_neg c19),hB⟩
theorem H9 (a b f:Int) (w:World):Calls Tryd.prog 72 #[.agg #[.int .i64 a,.int .i64 b],.int .i64 f] w fun e w'=>e= .returned (.int .i64 (Iz a f))∧Bel w w':=by
 refine enter Tryd.func72 Tryd.ntmps72 rfl (Nat.le_of_ble_eq_true rfl) ?_;have hB:Bel w w:=Below.refl _ _;refine zn2 ?_;refine xz (v:= .agg #[_,_]) (cs:=#[_,_]) rfl rfl (fun b2 w1 hb2 s1 hr=>?_);refine zn8 ?_;refine zX fn69 (N7 _ _ _) rfl (fun e' w2 hr=>?_);obtain⟨rfl,s2⟩:=hr;replace s2:=sB s2;refine⟨_,rfl,?_⟩;refine zn5 ?_;replace hB:=hB.tr0 (s1.trans s2);exact⟨rfl,hB⟩
theorem bsf_any (A:Option Addr) (c:Nat) (xs:List (Int×Int)) (f:Int) (w:World) (hX:LinksIn w A xs) (hl:xs.length≤1000) (hmono:∀ i j (hi:i < xs.length) (hj:j < xs.length),i≤j→(xs[i]).1≤(xs[j]).1):Calls Tryd.prog 71 #[.slice A xs.length c,.int .i64 f,.func (.func 72) #[] #[]] w fun e w'=>(∃ (i:Nat) (b:Bool),i≤xs.length∧e= .returned (.tuple #[.int .i64 i,.bool b])∧(∀ j (hj:j < xs.length),j < i→(xs[j]).1 < f)∧(∀ j (hj:j < xs.length),i≤j→f≤(xs[j]).1)∧(b=true ↔ ∃ h:i < xs.length,(xs[i]).1=f))∧Bel w w':=by
 refine enter Tryd.func71 Tryd.ntmps71 rfl (Nat.le_of_ble_eq_true rfl) ?_;have hB:Bel w w:=Below.refl _ _;refine zn22 ?_;refine qJ [9,10,11,15,16,17,18,19,20,21,22,23,24,25,26,27,28,29,30,31,32,33,34] (fun m g w'=>∃ i j:Nat,i≤j∧j≤xs.length∧m=j - i∧g 9= .int .i64 i∧g 10= .int .i64 j∧Bel w w'∧(∀ x (hx:x < xs.length),x < i→(xs[x]).1 < f)∧(∀ x (hx:x < xs.length),j≤x→f≤(xs[x]).1)) (xs.length) ?_ (fun m g3 w1 hI=>?_)
 ·exact⟨0,xs.length,Nat.zero_le _,Nat.le_refl _,rfl,rfl,rfl,hB,fun x _ h=>by omega,fun x h1 h2=>by omega⟩
 obtain⟨i,j,hij,hj,hm,h9,h10,hB,hlo,hhi⟩:=hI;refine zQ 9 _ h9 nu (zQ 10 _ h10 nu (zn8 ?_));refine zJ rfl (fun c17=>?_) (fun c17=>?_)
 ·obtain⟨h,hh⟩:∃ h,h=(i + j) / 2:=⟨_,rfl⟩
  have hhl:h < xs.length:=by omega
  obtain⟨lb,lof,rfl,hlb,hlr⟩:=hX.at_ hB hhl;refine zn7 ?_;refine wl (Q5 (c:=((i + j:Nat):Int)) rfl rfl om om) (wl (r_cvU U3 Tryd.underlying153 rfl om) (wl (HQ (b:=1) (c:=h) rfl rfl om (by rw [hh,Nat.shiftRight_eq_div_pow])) (wl (r_cvI Tryd.underlying153 U3 rfl om) (zn9 ?_))));refine wl (qW U95 rfl rfl hlr qX) (wmI rfl ?_);refine xv rfl fn72 (H9 _ _ f _) rfl rfl (fun e' w2 hr=>?_);obtain⟨rfl,hs⟩:=hr;replace hB:=hB.tr0 (sB hs);refine⟨_,rfl,?_⟩;refine zn3 ?_;refine zJ rfl (fun c31=>?_) (fun c31=>?_)
  ·have hlt:=cmpI_lt.1 c31;obtain⟨i2,hi2⟩:∃ i2,i2=h + 1:=⟨_,rfl⟩
   obtain⟨j2,hj2⟩:∃ j2,j2=j:=⟨_,rfl⟩
   have hlo2:∀ x (hx:x < xs.length),x < i2→(xs[x]).1 < f:=fun x hx hxi=>by
     by_cases e:x=h
     · subst e;exact hlt
     · have hsx:(xs[x]).1≤(xs[h]).1:=hmono x h hx hhl om
       omega
   have hhi2:∀ x (hx:x < xs.length),j2≤x→f≤(xs[x]).1:=fun x hx hxj=>hhi x hx om
   refine zn6 ?_;refine yq (j2 - i2) om agA ?_;exact⟨i2,j2,by omega,by omega,rfl,by subst hi2;rfl,by subst hj2;rfl,hB,hlo2,hhi2⟩
  have hge:¬(xs[h]).1 < f:=fun h=>c31 (cmpI_lt.2 h)
  obtain⟨i2,hi2⟩:∃ i2,i2=i:=⟨_,rfl⟩
  obtain⟨j2,hj2⟩:∃ j2,j2=h:=⟨_,rfl⟩
  have hlo2:∀ x (hx:x < xs.length),x < i2→(xs[x]).1 < f:=fun x hx hxi=>hlo x hx om
  have hhi2:∀ x (hx:x < xs.length),j2≤x→f≤(xs[x]).1:=fun x hx hxj=>by
    have hsx:(xs[h]).1≤(xs[x]).1:=hmono h x hhl hx om;omega
  refine zn5 ?_;refine yq (j2 - i2) om agA ?_;exact⟨i2,j2,by omega,by omega,rfl,by subst hi2;rfl,by subst hj2;rfl,hB,hlo2,hhi2⟩
 have hije:i=j:=by omega
 subst hije;refine vQ ?_;refine zV 39 rfl (fun g39=>?_) (fun g39=>?_)
 ·refine zn6 ?_;have hiN:i < xs.length:=by omega
  obtain⟨lb,lof,rfl,hlb,hlr⟩:=hX.at_ hB hiN;refine zn3 ?_;refine wl (qW U95 rfl rfl hlr qX) (zn3 ?_);refine xv rfl fn72 (H9 _ _ f _) rfl rfl (fun e' w3 hr=>?_);obtain⟨rfl,hs⟩:=hr;replace hB:=hB.tr0 (sB hs);refine⟨_,rfl,?_⟩;refine zn8 ?_;refine ZK (.inl rfl) rfl rfl rfl ?_
  first
    | exact⟨⟨i,false,by omega,rfl,hlo,hhi,⟨fun h=>(Bool.noConfusion h),fun hh=>absurd hh.1 om⟩⟩,hB⟩
    | exact⟨⟨i,decide (Iz (xs[i]'hiN).1 f=0),by omega,rfl,hlo,hhi,by rw [decide_eq_true_iff,cmpI_eq];exact⟨fun h=>⟨hiN,h⟩,fun⟨_,h⟩=>h⟩⟩,hB⟩
 refine Yq ?_;refine ZK (.inl rfl) rfl rfl rfl ?_
 first
   | exact⟨⟨i,false,by omega,rfl,hlo,hhi,⟨fun h=>(Bool.noConfusion h),fun hh=>absurd hh.1 om⟩⟩,hB⟩
   | exact⟨⟨i,decide (Iz (xs[i]'hiN).1 f=0),by omega,rfl,hlo,hhi,by rw [decide_eq_true_iff,cmpI_eq];exact⟨fun h=>⟨hiN,h⟩,fun⟨_,h⟩=>h⟩⟩,hB⟩
end Go.Proofs.YtdgnllfbooklcaaDoor
namespace Go.Proofs.YtdgnllfbooklcaaDoor
open Go.RowKit
theorem fn71:zZ Tryd.prog 71=true:=by kernel_rfl
theorem IK:(Tryd.prog.info? 28).map (·.size)=some 1:=by kernel_rfl
theorem uv:(Tryd.prog.info? 91).map (·.size)=some 1:=by kernel_rfl
theorem oQ:(Tryd.prog.info? 93).map (·.size)=some 2:=by kernel_rfl
theorem Jj (G:Option Addr) (cg nf:Nat) (gr:List Nd) (i:Nat) (f:Int) (w:World) (hG:NodesIn w G gr) (hi:i < gr.length) (hl:y6 nf gr.length (-1) (gr[i]'hi).ln=0) (hw:(gr[i]'hi).ln.length≤1000):Calls Tryd.prog 59 #[.agg #[.slice G gr.length cg],.int .i64 i,.int .i64 f] w fun e w'=>e= .returned (.int .i64 (tgt (gr[i]'hi).ln f))∧Bel w w':=by
 obtain⟨nb,no,LA,lc,rfl,hnb,hnr,hln⟩:=hG.at_ (Below.refl _ _:Bel w w) hi;have hso:=(J1 hl).2;refine enter Tryd.func59 Tryd.ntmps59 rfl (Nat.le_of_ble_eq_true rfl) ?_;have hB:Bel w w:=Below.refl _ _;refine zn2 ?_;refine xz (v:= .agg #[_]) (cs:=#[_]) rfl rfl (fun b3 w1 hb3 s1 hr=>?_);refine zn8 ?_;refine wl (yJ (i:=i) U28 oQ rfl rfl hi rfl) (zn1 ?_);replace hB:=hB.tr0 s1;refine wl (qK (v:= .slice _ _ _) U91 rfl rfl (hB.cell hnb (hnr 1 _ rfl))) (wmI rfl ?_)
 refine zX fn71 (bsf_any LA lc (gr[i]'hi).ln f _ (hln.mono hB) hw (fun x y hx hy hxy=>by
       by_cases e:x=y
       · subst e;exact Int.le_refl _
       · exact Int.le_of_lt (hso x y hx hy om))) rfl (fun e' w2 hr=>?_)
 obtain⟨⟨ix,b,hix,rfl,hlo,hhi,hbt⟩,s2⟩:=hr;replace s2:=sB s2;obtain⟨hy,hn⟩:=tgt_bs hl hlo hhi;refine⟨_,rfl,?_⟩;refine wmT rfl (wl (yk (v:= .int _ _) rfl rfl) (wl (yk (v:= .bool _) rfl rfl) (gj ?_)));replace hB:=hB.tr0 s2;refine kv rfl (fun c21=>?_) (fun c21=>?_)
 ·have hbf:¬b=true:=by simpa using c21
  have hno:=hn (fun h=>hbf (hbt.2 h));refine zn8 ?_;exact⟨XW hno,hB⟩
 have hbt2:b=true:=by simpa using c21
 obtain⟨hxl,hxe⟩:=hbt.1 hbt2;have hyes:=hy hxl hxe;obtain⟨lb,lof,rfl,hlb,hlr⟩:=hln.at_ hB hxl;refine zn7 ?_;refine wl (yJ (i:=i) U28 oQ rfl rfl hi rfl) (zn1 ?_);refine wl (qK (v:= .slice _ _ _) U91 rfl rfl (hB.cell hnb (hnr 1 _ rfl))) (zn3 ?_);refine wl (qK (v:= .int _ _) U3 rfl rfl (hlr 1 _ rfl)) (zn5 ?_);exact⟨XW hyes,hB⟩
end Go.Proofs.YtdgnllfbooklcaaDoor
namespace Go.Proofs.YtdgnllfbooklcaaDoor
open Go.RowKit
def trN (σ:Nat→Nat) (x:Nd):Nd:=⟨x.ty,x.ln.map (fun y=>(y.1,(σ y.2.toNat:Int)))⟩
theorem N1 {nf n m:Nat} {σ:Nat→Nat}:∀ {xs:List (Int×Int)} {last:Int},y6 nf n last xs=0→(∀ x ∈ xs,σ x.2.toNat < m)→y6 nf m last (xs.map (fun y=>(y.1,(σ y.2.toNat:Int))))=0
  | [],_,_,_=>rfl
  | y :: ys,last,h,hm=>by
    unfold y6 at h
    by_cases h1:oJ nf n y
    · rw [if_pos h1] at h;cases h
    rw [if_neg h1] at h
    by_cases h2:y.1≤last
    · rw [if_pos h2] at h;cases h
    rw [if_neg h2] at h
    have h3:=hm y (by simp)
    have h4:¬oJ nf m (y.1,(σ y.2.toNat:Int)):=by
      unfold oJ at h1 ⊢;omega
    rw [List.map_cons];unfold y6;rw [if_neg h4,if_neg h2];exact N1 h (fun x hx=>hm x (List.mem_cons_of_mem _ hx))
theorem gv_img {l:List Ty} {fs:List Ft} {g gt:List Nd} {σ τ:Nat→Nat} (h:GV l fs g) (hp:0 < gt.length) (hle:gt.length≤60)
    (hτ:∀ j,j < gt.length→τ j < g.length∧nd gt j=trN σ (nd g (τ j))∧∀ x ∈ (nd g (τ j)).ln,σ x.2.toNat < gt.length∧(nd gt (σ x.2.toNat)).ty=(nd g x.2.toNat).ty)
    (hR:∀ j,j < gt.length→Rch gt j):(kj l fs gt).1=0:=by
  have hl:vw l.length fs.length gt=(0,0):=by
    unfold vw;rw [if_neg om];refine Z7 (fun k _ hk=>?_);have hk':k < gt.length:=by omega
    obtain⟨hτ1,hτ2,hτ3⟩:=hτ k hk';rw [yy hk',yy hτ1] at hτ2;rw [yy hτ1] at hτ3;have hty:=h.gok.ty _ hτ1;have hln:=Vw h.lo _ hτ1;have e:¬((gt[k]).ty < 0∨(l.length:Int)≤(gt[k]).ty):=by rw [hτ2];simp only [trN];omega
    rw [Xj hk' e,List.drop_zero,hτ2];exact N1 hln (fun x hx=>(hτ3 x hx).1)
  have ht:tyF l fs gt=(0,0):=by
    refine Z7 (fun k _ hk=>?_);have hk':k < gt.length:=by omega
    obtain⟨hτ1,hτ2,hτ3⟩:=hτ k hk';refine RY hk' (fun j hj=>?_);have h0:tyN l fs g (τ k)=0:=jW (by rw [show qv (tyN l fs g) 0 g.length=tyF l fs g from rfl,h.t]) _ (Nat.zero_le _) om;rw [yy hk',yy hτ1] at hτ2;rw [yy hτ1] at hτ3;have hex:∃ y ∈ (g[τ k]).ln,(gt[k]).ln[j]=(y.1,(σ y.2.toNat:Int)):=by
      have hm:(gt[k]).ln[j] ∈ (trN σ (g[τ k])).ln:=by rw [← hτ2];exact List.getElem_mem hj
      simp only [trN,List.mem_map] at hm;obtain⟨y,hy,e⟩:=hm;exact⟨y,hy,e.symm⟩
    obtain⟨y,hy,ey⟩:=hex;have h1:Mz l fs g (g[τ k]).ty y=false:=by
      simp only [tyN,List.getElem?_eq_getElem hτ1] at h0;cases hb:Mz l fs g (g[τ k]).ty y with
      | false=>rfl
      | true=>rw [if_pos (List.any_eq_true.2 ⟨y,hy,hb⟩)] at h0;cases h0
    have e3:=(hτ3 y hy).2;have e2:(gt[k]).ty=(g[τ k]).ty:=by rw [hτ2];rfl
    rw [ey,e2];unfold Mz at h1 ⊢;have e4:(I0 gt ((σ y.2.toNat:Nat):Int)).ty=(I0 g y.2).ty:=by
      unfold nd at e3;unfold I0;rw [Int.toNat_natCast];exact e3
    rw [e4];exact h1
  have hu:(-1:Int)=Jz gt:=IQ (.inl ⟨rfl,hR⟩);rw [Dj h.h,JY (by rw [hl]) ht om]
theorem unr_ex (g:List Nd):∃ r,UnrIs g r:=by
  have h:∀ n:Nat,(∀ i,i < n→Rch g i)∨∃ k,k < n∧¬Rch g k∧∀ i,i < k→Rch g i:=by
    intro n
    induction n with
    | zero=>exact .inl (fun i hi=>absurd hi om)
    | succ n ih=>
      rcases ih with h | ⟨k,h1,h2,h3⟩
      · by_cases hn:Rch g n
        · refine .inl (fun i hi=>?_)
          by_cases e:i=n
          · rw [e];exact hn
          · exact h i om
        · exact .inr ⟨n,by omega,hn,h⟩
      · exact .inr ⟨k,by omega,h2,h3⟩
  rcases h g.length with h | ⟨k,h1,h2,h3⟩
  · exact⟨-1,.inl ⟨rfl,h⟩⟩
  · exact⟨k,.inr ⟨k,rfl,h1,h2,h3⟩⟩
theorem GV.rch {l:List Ty} {fs:List Ft} {g:List Nd} (h:GV l fs g):∀ i,i < g.length→Rch g i:=by
  obtain⟨r,hr⟩:=unr_ex g;have hu:=h.u;rw [← IQ hr] at hu;rcases hr with ⟨_,h3⟩ | ⟨k,h3,_⟩
  · exact h3
  · exact absurd (show 0≤r by omega) hu
structure Turn (g gt:List Nd) (σ ρ:Nat→Nat):Prop where
  len:gt.length=g.length
  z:σ 0=0
  lt:∀ i,i < g.length→σ i < g.length
  rl:∀ j,j < g.length→ρ j < g.length∧σ (ρ j)=j
  lr:∀ i,i < g.length→ρ (σ i)=i
  nd:∀ i,i < g.length→nd gt (σ i)=trN σ (nd g i)
section turn
variable {g gt:List Nd} {σ ρ:Nat→Nat}
theorem Turn.inj (t:Turn g gt σ ρ) {x y:Nat} (hx:x < g.length) (hy:y < g.length) (h:σ x=σ y):x=y:=by rw [← t.lr x hx,← t.lr y hy,h]
theorem Turn.succ (t:Turn g gt σ ρ) {i:Nat} (hi:i < g.length):yZ gt (σ i)=(yZ g i).map σ:=by
  unfold yZ;rw [t.nd i hi];simp [trN]
theorem Turn.dl (t:Turn g gt σ ρ) (hr:∀ i,i < g.length→∀ y ∈ yZ g i,y < g.length) {is a b:List Nat} (h:DL g is a b):(∀ i ∈ is,i < g.length)→(∀ x ∈ b,x < g.length)→DL gt (is.map σ) (a.map σ) (b.map σ):=by
  induction h with
  | nil=>exact fun _ _=> .nil
  | old h _ ih=>exact fun hi hb=> .old (List.mem_map_of_mem h) (ih (fun i h=>hi i (List.mem_cons_of_mem _ h)) hb)
  | new h s u ihs iht=>
    intro hi hb
    rename_i i is o o1 o'
    have hil:=hi i (List.mem_cons_self ..);have ho1:∀ x ∈ o1,x < g.length:=fun x hx=>hb x (u.sub _ hx)
    refine .new (fun hm=>?_) ?_ (iht (fun i h=>hi i (List.mem_cons_of_mem _ h)) hb)
    · obtain⟨y,hy,e⟩:=List.mem_map.1 hm
      have hyl:=ho1 y (s.sub _ (List.mem_append_left _ hy));exact h (t.inj hyl hil e ▸ hy)
    · have:=ihs (hr i hil) ho1
      rw [List.map_append] at this;rw [t.succ hil];exact this
theorem Turn.rch (t:Turn g gt σ ρ) (hr:∀ i,i < g.length→∀ y ∈ yZ g i,y < g.length) (hp:0 < g.length) {i:Nat} (h:Rch g i):i < g.length∧Rch gt (σ i):=by
  induction h with
  | zero=>exact⟨hp,by rw [t.z];exact .zero⟩
  | step h hi hx ih=>
    rename_i i x
    refine⟨hr i hi _ (by simp only [yZ,yy hi,List.mem_map];exact⟨x,hx,rfl⟩),?_⟩;have hlt:σ i < gt.length:=by rw [t.len];exact t.lt i hi
    have e:=t.nd i hi;rw [yy hlt,yy hi] at e;have:=Rch.step (x:=(x.1,((σ x.2.toNat:Nat):Int))) ih.2 hlt (by rw [e];exact List.mem_map.2 ⟨x,hx,rfl⟩)
    simpa using this
theorem Lz {g:List Nd} {σ:Nat→Nat} {x:Nat} (hx:x < g.length) (inj:∀ y,y < g.length→σ y=σ x→y=x):∀ {o:List Nat},(∀ y ∈ o,y < g.length)→(o.map σ).idxOf (σ x)=o.idxOf x
  | [],_=>rfl
  | y :: o,h=>by
    rw [List.map_cons,List.idxOf_cons,List.idxOf_cons,Lz hx inj (fun z hz=>h z (List.mem_cons_of_mem _ hz))]
    by_cases e:y=x
    · subst e;simp
    · have e2:¬σ y=σ x:=fun h2=>e (inj y (h y (List.mem_cons_self ..)) h2)
      have b1:(y == x)=false:=by simp [e]
      have b2:(σ y == σ x)=false:=by simp [e2]
      rw [b1,b2]
theorem Turn.num (t:Turn g gt σ ρ) {x:Nat} (hx:x < g.length) {o:List Nat} (ho:∀ y ∈ o,y < g.length):u7 (o.map σ) (σ x)=u7 o x:=by
  unfold u7
  have e:σ x ∈ o.map σ ↔ x ∈ o:=⟨fun h=>by
    obtain⟨y,hy,e⟩:=List.mem_map.1 h
    exact t.inj (ho y hy) hx e ▸ hy,fun h=>List.mem_map_of_mem h⟩
  by_cases h:x ∈ o
  · rw [if_pos (e.2 h),if_pos h,Lz hx (fun y hy h=>t.inj hy hx h) ho]
  · rw [if_neg (fun k=>h (e.1 k)),if_neg h]
theorem Turn.can (t:Turn g gt σ ρ) (hr:∀ i,i < g.length→∀ y ∈ yZ g i,y < g.length) {o:List Nat} (ho:∀ y ∈ o,y < g.length):y5 gt (o.map σ)=y5 g o:=by
  unfold y5;rw [List.map_map];refine List.map_congr_left (fun x hx=>?_);have hxl:=ho x hx;simp only [Function.comp];unfold Pj;rw [t.nd x hxl];refine Y0 rfl ?_;simp only [trN,List.map_map];refine List.map_congr_left (fun y hy=>?_);have hyl:=hr x hxl y.2.toNat (by simp only [yZ,List.mem_map];exact⟨y,hy,rfl⟩);simp only [Function.comp,JK,Int.toNat_natCast];rw [t.num hyl ho]
end turn
theorem SJ {m i:Nat} {f h:Nat→Value} {a b:Value}:C6 (jJ m f h) (0 + i * 2) [a,b]=jJ m (fun j=>if j=i then a else f j) (fun j=>if j=i then b else h j):=by
  show ((jJ m f h).setIfInBounds (0 + i * 2 + 0) a).setIfInBounds (0 + i * 2 + 1) b=_;rw [D3,D2]
end Go.Proofs.YtdgnllfbooklcaaDoor
