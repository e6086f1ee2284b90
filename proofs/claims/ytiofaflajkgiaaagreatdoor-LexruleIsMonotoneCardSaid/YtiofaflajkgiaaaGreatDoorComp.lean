/- What these functions compute, at every world: cmp.isNaN[int], cmp.Compare[int], graph.Target$1, slices.BinarySearchFunc[[]api.Link,api.Link,int], graph.Target, ref3.Target; and plain laws. -/
import Derived.Test.YtiofaflajkgiaaaGreatDoorRng
import Derived.Lib.RuneCount
import Derived.Lib.DecodeNEq
import Derived.Test.YtiofaflajkgiaaaGreatDoorMeet
import Derived.Test.YtiofaflajkgiaaaGreatDoorU
import Derived.Test.YtiofaflajkgiaaaGreatDoorZst
namespace Go.Proofs.YtiofaflajkgiaaaGreatDoor
open Go.RowKit Go.Proofs.Tryz
def gb(s:ByteArray)(k:Nat):Nat:=(s.get! k).toNat
theorem uJ(s:ByteArray)(k:Nat):gb s k<256:=(s.get! k).toNat_lt
theorem gb_at{s:ByteArray}{k:Nat}(h:k<s.size):(s[k]'h).toNat=gb s k:=by
 unfold gb;rw[show s.get! k=s[k]'h from get_at s k h]
theorem gb_bl(s:ByteArray)(k:Nat):gb s k=((bl s).getD k 0).toNat:=by
 unfold gb bl
 congr 1
 simp only[ByteArray.get!,List.getD];rw[Array.getElem?_toList];cases h:s.data[k]? with
 | none=>rw[getElem!_def,h];rfl
 | some c=>rw[getElem!_def,h];rfl
theorem Yw(p:Nat)(s:ByteArray)(k:Nat):gb (sdr p s) k=gb s (p+k):=by
 rw[gb_bl,gb_bl,I0];simp[List.getD]
def wdt(s:ByteArray)(p:Nat):Nat:=(Utf8.decode s p).2
def Xw(s:ByteArray)(p:Nat):Bool:=decide (gb s p<128)||decide (2<=wdt s p)
theorem ZK(s:ByteArray)(p:Nat):Utf8.decode s p=Lib.decodeN (s.size-p) (gb s p) (gb s (p+1)) (gb s (p+2)) (gb s (p+3)):=Lib.decode_at s p
theorem MX{s:ByteArray}{p:Nat}(h:gb s p<128):wdt s p=1/\(Utf8.decode s p).1=gb s p:=by
 unfold wdt;rw[ZK];unfold Lib.decodeN;rw[if_pos h];exact⟨rfl,rfl⟩
theorem QW{s:ByteArray}{p:Nat}(h:p<s.size):1<=wdt s p:=Lib.decode_width_pos s p h
theorem dec_high{s:ByteArray}{p:Nat}(h:p<s.size)(hb:128<=gb s p):128<=(Utf8.decode s p).1:=(decode_high s p h (by rw[gb_at h];exact hb)).1
theorem RX{s:ByteArray}{p j:Nat}(h1:0<j)(h2:j<wdt s p):128<=gb s (p+j)/\p+j<s.size:=by
 unfold wdt at h2;rw[ZK]at h2;unfold Lib.decodeN at h2
 split at h2
 ·simp at h2;omega
 ·split at h2
  ·rename_i _ q
   split at h2
   ·obtain rfl:j=1:=by simp at h2;omega
    omega
   ·simp at h2;omega
  ·split at h2
   ·rename_i _ _ q
    split at h2
    ·have:j=1\/j=2:=by simp at h2;omega
     rcases this with rfl|rfl<;>omega
    ·simp at h2;omega
   ·split at h2
    ·rename_i _ _ _ q
     split at h2
     ·have:j=1\/j=2\/j=3:=by simp at h2;omega
      rcases this with rfl|rfl|rfl<;>omega
     ·simp at h2;omega
    ·simp at h2;omega
theorem SK{s:ByteArray}{p:Nat}(h:p<s.size):p+wdt s p<=s.size:=by
 by_cases e:wdt s p<=1
 ·omega
 ·have:=(RX (s:=s) (p:=p) (j:=wdt s p-1) oG oG).2
  omega
def chF(s:ByteArray):Nat->Nat->List Nat
 | 0,_=>[]
 | f+1,p=>if p<s.size then p::chF s f (p+wdt s p)else []
theorem J6{s:ByteArray}{f p:Nat}(h:¬p<s.size):chF s f p= []:=by cases f<;>simp[chF,h]
theorem HZ{s:ByteArray}:∀ {f g p:Nat},s.size-p<=f->s.size-p<=g->chF s f p=chF s g p
 | 0,g,p,hf,_=>by rw[J6 oG,J6 oG]
 | f+1,0,p,_,hg=>by rw[J6 oG,J6 oG]
 | f+1,g+1,p,hf,hg=>by
  by_cases h:p<s.size
  ·have:=QW h
   simp only[chF,if_pos h]
   rw[HZ (f:=f) (g:=g) oG oG]
  ·rw[J6 h,J6 h]
def ch(s:ByteArray)(p:Nat):List Nat:=chF s (s.size-p) p
theorem R9{s:ByteArray}{p:Nat}(h:¬p<s.size):ch s p= []:=J6 h
theorem Ik{s:ByteArray}{p:Nat}(h:p<s.size):ch s p=p::ch s (p+wdt s p):=by
 have hw:=QW h;unfold ch;obtain⟨k,hk⟩:∃ k,s.size-p=k+1:=⟨s.size-p-1,by omega⟩
 rw[hk];simp only[chF,if_pos h];rw[HZ (g:=s.size-(p+wdt s p)) oG (Nat.le_refl _)]
def vq(s:ByteArray)(p:Nat):Bool:=(ch s p).all (Xw s)
theorem vq_end{s:ByteArray}{p:Nat}(h:¬p<s.size):vq s p=true:=by unfold vq;rw[R9 h];rfl
theorem RK{s:ByteArray}{p:Nat}(h:p<s.size)(ho:Xw s p=true):vq s p=vq s (p+wdt s p):=by
 unfold vq;rw[Ik h,List.all_cons,ho,Bool.true_and]
theorem RJ{s:ByteArray}{p:Nat}(h:p<s.size)(ho:Xw s p=false):vq s p=false:=by
 unfold vq;rw[Ik h,List.all_cons,ho,Bool.false_and]
theorem vq_low{s:ByteArray}{p:Nat}(h:p<s.size)(hb:gb s p<128):vq s p=vq s (p+1):=by
 rw[RK h (by unfold Xw;rw[decide_eq_true hb];rfl),(MX hb).1]
theorem P6{s:ByteArray}:∀ {k p:Nat},p+k<=s.size->(∀ j,j<k->gb s (p+j)<128)->vq s p=vq s (p+k)
 | 0,_,_,_=>rfl
 | k+1,p,h,hb=>by
  rw[vq_low (p:=p) oG (hb 0 oG),P6 (k:=k) (p:=p+1) oG (fun j hj=>by have:=hb (j+1) oG;rwa[show p+(j+1)=p+1+j by omega]at this)]
  congr 1;omega
def spc(c:Nat):Bool:=decide (c=32)||decide (c=9)||decide (c=10)||decide (c=40)||decide (c=41)||decide (c=91)||decide (c=93)||decide (c=44)||decide (c=59)
theorem T7{c:Nat}(h:spc c=true):c<128:=by
 unfold spc at h;simp only[Bool.or_eq_true,decide_eq_true_eq]at h;omega
def brd(s:ByteArray)(p:Nat):Bool:=(ch s p).any (fun q=>spc (Utf8.decode s q).1)
theorem Pw{s:ByteArray}{p:Nat}(h:¬p<s.size):brd s p=false:=by unfold brd;rw[R9 h];rfl
theorem V9{s:ByteArray}{p:Nat}(h:p<s.size):brd s p=(spc (Utf8.decode s p).1||brd s (p+wdt s p)):=by
 unfold brd;rw[Ik h,List.any_cons]
theorem brd_byte{s:ByteArray}:∀ {m p k:Nat},s.size-p<=m->p<=k->k<s.size->spc (gb s k)=true->brd s p=true:=by
 intro m
 induction m with
 | zero=>intro p k h1 h2 h3;omega
 | succ m ih=>
  intro p k h1 h2 h3 h4;have hp:p<s.size:=by omega
  have hw:=QW hp;rw[V9 hp];by_cases e:p=k
  ·subst e
   have hl:=T7 h4;rw[(MX hl).2,h4];rfl
  ·by_cases e2:p+wdt s p<=k
   ·rw[ih (p:=p+wdt s p) (k:=k) oG e2 h3 h4,Bool.or_true]
   ·have:=(RX (s:=s) (p:=p) (j:=k-p) oG oG).1
    rw[show p+(k-p)=k by omega]at this;have:=T7 h4;omega
theorem byte_brd{s:ByteArray}:∀ {m p:Nat},s.size-p<=m->brd s p=true->∃ k,p<=k/\k<s.size/\spc (gb s k)=true:=by
 intro m
 induction m with
 | zero=>intro p h1 h;rw[Pw oG]at h;cases h
 | succ m ih=>
  intro p h1 h;by_cases hp:p<s.size
  ·have hw:=QW hp
   rw[V9 hp,Bool.or_eq_true]at h;rcases h with h|h
   ·refine⟨p,ae _,hp,?_⟩
    by_cases hl:gb s p<128
    ·rwa[(MX hl).2]at h
    ·have:=dec_high hp oG
     have:=T7 h;omega
   ·obtain⟨k,h2,h3,h4⟩:=ih oG h
    exact⟨k,by omega,h3,h4⟩
  ·rw[Pw hp]at h;cases h
def yX(s:ByteArray):Bool:=decide (1<=(ch s 0).length)&&decide ((ch s 0).length<=30)&&vq s 0 && !brd s 0
theorem ok_bad{s:ByteArray}{p:Nat}(hb:128<=gb s p)(h:Lib.firstT (gb s p)%8≠2)(h3:Lib.firstT (gb s p)%8≠3)(h4:Lib.firstT (gb s p)%8≠4):Xw s p=false:=by
 have hc:Lib.firstT (gb s p)=241\/Lib.firstT (gb s p)<240:=by
  generalize gb s p=b at hb
  unfold Lib.firstT;rw[if_neg oG]
  repeat' split
  all_goals omega
 have ht:Lib.firstT (gb s p)=241:=by
  rcases hc with ht|hl
  ·exact ht
  ·exfalso
   rcases Lib.firstT_low hl with q|q|q|q|q|q|q
   ·rw[Lib.firstT_C2 q]at h;exact h rfl
   ·rw[Lib.firstT_E0 q]at h3;exact h3 rfl
   ·rw[Lib.firstT_E1 q]at h3;exact h3 rfl
   ·rw[Lib.firstT_ED q]at h3;exact h3 rfl
   ·rw[Lib.firstT_F0 q]at h4;exact h4 rfl
   ·rw[Lib.firstT_F1 q]at h4;exact h4 rfl
   ·rw[Lib.firstT_F4 q]at h4;exact h4 rfl
 have:wdt s p=1:=by
  unfold wdt;rw[ZK,Lib.bad_eq _ _ _ _ _ (uJ s p) ht]
 unfold Xw;rw[this,decide_eq_false oG];rfl
theorem first_256(b:Nat):Lib.firstT b<256:=by
 unfold Lib.firstT
 repeat' split
 all_goals omega
theorem first_lt{s:ByteArray}{p:Nat}(h:Lib.firstT (gb s p)%8=2\/Lib.firstT (gb s p)%8=3\/Lib.firstT (gb s p)%8=4):Lib.firstT (gb s p)<240:=by
 have hc:Lib.firstT (gb s p)=240\/Lib.firstT (gb s p)=241\/Lib.firstT (gb s p)<240:=by
  generalize gb s p=b
  unfold Lib.firstT
  repeat' split
  all_goals omega
 omega
def vY(s:ByteArray)(p n:Nat):Prop:=s.size-p<n\/gb s (p+1)<Lib.accLo (Lib.firstT (gb s p)/16)\/Lib.accHi (Lib.firstT (gb s p)/16)<gb s (p+1)\/(3<=n/\(gb s (p+2)<128\/191<gb s (p+2)))\/(4<=n/\(gb s (p+3)<128\/191<gb s (p+3)))
instance(s:ByteArray)(p n:Nat):Decidable (vY s p n):=by unfold vY;infer_instance
theorem ok_n{s:ByteArray}{p n:Nat}(hp:p<s.size)(hn:n=2\/n=3\/n=4)(h:Lib.firstT (gb s p)%8=n):(vY s p n->Xw s p=false)/\(¬vY s p n->Xw s p=true/\wdt s p=n):=by
 have hx:=first_lt (s:=s) (p:=p) oG;have hb:128<=gb s p:=by
  by_cases e:gb s p<128
  ·unfold Lib.firstT at hx;rw[if_pos e]at hx;omega
  ·omega
 have he:=Lib.slow_eq (s.size-p) (gb s p) (gb s (p+1)) (gb s (p+2)) (gb s (p+3)) oG (uJ _ _) (uJ _ _) (uJ _ _) hx;rw[h]at he;have hw:wdt s p=(Lib.slowN (s.size-p) (gb s p) (gb s (p+1)) (gb s (p+2)) (gb s (p+3)) n (Lib.accLo (Lib.firstT (gb s p)/16)) (Lib.accHi (Lib.firstT (gb s p)/16))).2:=by
  unfold wdt;rw[ZK,he]
 have hok:Xw s p=decide (2<=wdt s p):=by unfold Xw;rw[decide_eq_false oG,Bool.false_or]
 constructor
 ·intro hbad
  have:wdt s p=1:=by
   rw[hw];unfold Lib.slowN;unfold vY at hbad
   repeat' split
   all_goals first|rfl|(exfalso;omega)
  rw[hok,this];rfl
 ·intro hbad
  have:wdt s p=n:=by
   rw[hw];unfold Lib.slowN;unfold vY at hbad
   repeat' split
   all_goals first|(exfalso;omega)|(simp only;omega)
  rw[hok,this];exact⟨ah oG,rfl⟩
theorem kZ{P:Program}{n:Nw}{f:Fr}{w:World}{dst:Option Tmp}{gd:Option (Nat×Bool)}{ty:TypeId}{pos:String}{af:Array Edge}{x y:Operand}{t:TypeId}{s:ByteArray}{i:Nat}(hu:P.underlying t=some .string)(hx:ev n f x= .string s)(hy:ev n f y= .int .i64 i)(hi:i<s.size):
  RV P n f w ⟨dst,.index t x y,ty,pos,af,gd⟩ (.int .u8 ((gb s i:Nat):Int)) w:=by
 rw[<- gb_at hi];exact Jz hu hx hy hi
theorem O9{a:Nat}(h:a<18446744073709551616):IntKind.u64.wrap (a:Int)=a:=by rw[IntKind.wrap_u64];omega
def hiB:Nat:=9259542123273814144
def wo:Nat->ByteArray->Nat
 | 0,s=>gb s 0
 | k+1,s=>wo k s|||(gb s (k+1)*2^(8*(k+1)))
theorem uq(s:ByteArray):∀ {k:Nat},k<8->wo k s<18446744073709551616
 | 0,_=>by have:=uJ s 0;unfold wo;omega
 | k+1,h=>by
  have h1:=uq s (k:=k) oG
  have h2:=uJ s (k+1)
  have h3:gb s (k+1)*2^(8*(k+1))<2^64:=by
   have:(2:Nat)^64=2^(64-8*(k+1))*2^(8*(k+1)):=by rw[<- Nat.pow_add];congr 1;omega
   rw[this];refine Nat.mul_lt_mul_of_pos_right ?_ (Nat.pow_pos dE);have:(2:Nat)^8<=2^(64-8*(k+1)):=Nat.pow_le_pow_right dE oG;omega
  exact aQ (n:=64) h1 h3
theorem C6{a b c:Nat}(h:(a|||b)&&&c=0):a&&&c=0/\b&&&c=0:=by
 constructor<;>refine Nat.eq_of_testBit_eq (fun i=>?_)<;>(have:=congrArg (fun z=>z.testBit i) h;simp at this ⊢;grind)
theorem wo_z(s:ByteArray):∀ {k:Nat},k<8->wo k s&&&hiB=0->∀ j,j<=k->gb s j<128
 | 0,_,h,j,hj=>by
  obtain rfl:j=0:=by omega
  have h1:=uJ s 0
  have h2:=congrArg (fun z=>z.testBit 7) h
  simp only[wo,Nat.testBit_and,Nat.zero_testBit]at h2
  have h3:hiB.testBit 7=true:=by decide
  rw[h3,Bool.and_true,Nat.testBit_eq_decide_div_mod_eq]at h2
  simp at h2
  omega
 | k+1,hk,h,j,hj=>by
  obtain⟨h1,h2⟩:=C6 h
  by_cases e:j=k+1
  ·subst e
   have h3:=uJ s (k+1)
   have h4:=congrArg (fun z=>z.testBit (8*(k+1)+7)) h2
   have h5:hiB.testBit (8*(k+1)+7)=true:=by
    have:∀ k,k<8->hiB.testBit (8*k+7)=true:=by decide
    exact this (k+1) hk
   simp only[Nat.testBit_and,Nat.zero_testBit,h5,Bool.and_true,Nat.testBit_mul_two_pow]at h4;rw[Nat.add_sub_cancel_left,Nat.testBit_eq_decide_div_mod_eq]at h4;simp at h4;omega
  ·exact wo_z s oG h1 j oG
theorem Zw(a p:Nat)(s:ByteArray):sdr a (sdr p s)=sdr (p+a) s:=C4 (by rw[I0,I0,I0,List.drop_drop])
theorem asc8{p:Nat}{s:ByteArray}(h:wo 7 (sdr p s)&&&hiB=0):∀ j,j<8->gb s (p+j)<128:=fun j hj=>by
 rw[<- Yw];exact wo_z _ dE h j oG
theorem asc16{p:Nat}{s:ByteArray}(h:(wo 7 (sdr p s)|||wo 7 (sdr 8 (sdr p s)))&&&hiB=0):∀ j,j<16->gb s (p+j)<128:=fun j hj=>by
 obtain⟨h1,h2⟩:=C6 h
 rw[Zw]at h2
 by_cases e:j<8
 ·exact asc8 h1 j e
 ·have:=asc8 h2 (j-8) oG
  rwa[show p+8+(j-8)=p+j by omega]at this
theorem asc32{p:Nat}{s:ByteArray}(h:((wo 7 (sdr p s)|||wo 7 (sdr 8 (sdr p s)))|||(wo 7 (sdr 16 (sdr p s))|||wo 7 (sdr 24 (sdr p s))))&&&hiB=0):∀ j,j<32->gb s (p+j)<128:=fun j hj=>by
 obtain⟨h1,h2⟩:=C6 h
 by_cases e:j<16
 ·exact asc16 h1 j e
 ·have h3:(wo 7 (sdr (p+16) s)|||wo 7 (sdr 8 (sdr (p+16) s)))&&&hiB=0:=by
   rw[Zw,Zw]at h2;rw[Zw];exact h2
  have:=asc16 h3 (j-16) oG
  rwa[show p+16+(j-16)=p+j by omega]at this
def U8In(w:World):Prop:=(0<w.heap.size/\∀ k,k<256->w.cell? ⟨0,0+k*1,none⟩=some (.int .u8 ((Lib.firstT k:Nat):Int)))/\1<w.heap.size/\∀ k,k<16->w.rangeAt 1 (0+k*2) [.int .u8 ((Lib.accLo k:Nat):Int),.int .u8 ((Lib.accHi k:Nat):Int)]
theorem U8In.mono{w w':World}(h:U8In w)(hb:Bel w w'):U8In w':=⟨⟨nLL h.1.1 hb.size,fun k hk=>hb.cell h.1.1 (h.1.2 k hk)⟩,nLL h.2.1 hb.size,fun k hk=>hb.range h.2.1 (h.2.2 k hk)⟩
def CH:ByteArray:=⟨#[32,9,10,40,41,91,93,44,59]⟩
theorem ch_lt:∀ i,i<9->gb CH i<128:=by decide +kernel
theorem ch_ix:∀ c,c<256->decide (0<=Lib.indexByte (bl CH) c.toUInt8)=spc c:=by decide +kernel
def chs(k x:Nat):Bool:=(List.range k).any (fun j=>decide (gb CH j=x))
theorem chs_all:∀ x,x<256->chs 9 x=spc x:=by decide +kernel
theorem chs_step(k x:Nat):chs (k+1) x=if x=gb CH k then true else chs k x:=by
 unfold chs;rw[List.range_succ,List.any_append];by_cases h:x=gb CH k
 ·simp[h]
 ·simp[h,Ne.symm h]
theorem run_ixb {P:Program} {F:FuncId} {fn:Func} {s:ByteArray} {c:Int} {w:World} (hf:P.funcs[F]? =some fn) (a1:(fn.name == "runtime.NumGoroutine")=false) (hb:fn.body.isNone=true) (hn:Extern.findNext fn=none) (he:Extern.find fn=some Extern.BytealgIndexByte.indexByte):
  (callFunc F #[.string s,.int .u8 c]).run P w= .ok (.value (.int .i64 (Lib.indexByte (bl s) c.toNat.toUInt8))) w:=by
 rw[run_callFunc_extern hf a1 hb hn he,Lib.run_indexByteString];rfl
theorem ixb_none{l:List UInt8}{c:UInt8}(h:¬c∈l):Lib.indexByte l c<0:=by
 by_cases e:Lib.indexByte l c<0
 ·exact e
 ·obtain⟨m,hm⟩:∃ m:Nat,Lib.indexByte l c=m:=⟨(Lib.indexByte l c).toNat,by omega⟩
  obtain⟨_,_,h3⟩:=ixb_pos hm;exact absurd (by rw[h3];simp) h
theorem enc_hi{r:Nat}(h:128<=r):2<=(Utf8.encode (r:Int)).size/\(Utf8.encode (r:Int)).size<=4/\∀ i,i<(Utf8.encode (r:Int)).size->128<=gb (Utf8.encode (r:Int)) i:=by
 have key:∀ c:Nat,128<=c->c<=1114111->∀ e:ByteArray,e=(if c<0x80 then ⟨#[UInt8.ofNat c]⟩else if c<0x800 then ⟨#[UInt8.ofNat (0xC0+c/64),UInt8.ofNat (0x80+c%64)]⟩else if c<0x10000 then ⟨#[UInt8.ofNat (0xE0+c/4096),UInt8.ofNat (0x80+c/64%64),UInt8.ofNat (0x80+c%64)]⟩else ⟨#[UInt8.ofNat (0xF0+c/262144),UInt8.ofNat (0x80+c/4096%64),UInt8.ofNat (0x80+c/64%64),UInt8.ofNat (0x80+c%64)]⟩)->2<=e.size/\e.size<=4/\∀ i,i<e.size->128<=gb e i:=by
  intro c h1 h2 e he;have u8:∀ n:Nat,128<=n->n<256->128<=(UInt8.ofNat n).toNat:=fun n a b=>by rw[UInt8.toNat_ofNat_of_lt' (by exact b)];exact a
  rw[if_neg oG]at he
  split at he
  ·subst he
   refine⟨ae _,by show 2<=4;decide,fun i hi=>?_⟩
   match i,hi with
   | 0,_=>exact u8 _ oG oG
   | 1,_=>exact u8 _ oG oG
  ·split at he
   ·subst he
    refine⟨by show 2<=3;decide,by show 3<=4;decide,fun i hi=>?_⟩
    match i,hi with
    | 0,_=>exact u8 _ oG oG
    | 1,_=>exact u8 _ oG oG
    | 2,_=>exact u8 _ oG oG
   ·subst he
    refine⟨by show 2<=4;decide,ae _,fun i hi=>?_⟩
    match i,hi with
    | 0,_=>exact u8 _ oG oG
    | 1,_=>exact u8 _ oG oG
    | 2,_=>exact u8 _ oG oG
    | 3,_=>exact u8 _ oG oG
 refine key (if Utf8.valid (r:Int)then (r:Int).toNat else Utf8.runeError) ?_ ?_ _ rfl
 ·split
  ·exact h
  ·decide
 ·split
  ·rename_i hv
   unfold Utf8.valid at hv;simp at hv;omega
  ·decide
def Hd(b n:Nat)(v l:Int):Prop:=(194<=b/\b<=223/\n=2/\v=(b:Int)-192/\l=128)\/(224<=b/\b<=239/\n=3/\v=(b:Int)-224/\l=2048)\/(240<=b/\b<=244/\n=4/\v=(b:Int)-240/\l=65536)
def vv(x:ByteArray)(v:Int):Nat->Int
 | 0=>v
 | k+1=>64*vv x v k+gb x (k+1)-128
def Ny(x:ByteArray):Int:=if Xw x 0=true then ((wdt x 0:Nat):Int)else 0
theorem rlen_low{x:ByteArray}(h:gb x 0<128):Ny x=1:=by
 unfold Ny Xw;rw[decide_eq_true h,(MX h).1];rfl
theorem rlen_no{x:ByteArray}(h:128<=gb x 0)(hn:¬(194<=gb x 0/\gb x 0<=244)):Ny x=0:=by
 have h0:=uJ x 0;have:wdt x 0=1:=by
  unfold wdt;rw[ZK];unfold Lib.decodeN
  repeat' split
  all_goals first|rfl|(exfalso;omega)|(simp only;omega)
 unfold Ny Xw;rw[this,decide_eq_false oG];rfl
theorem TQ{x:ByteArray}{n:Nat}(h:128<=gb x 0)(hn:2<=n)(h1:wdt x 0=n):Ny x=n:=by
 unfold Ny Xw;rw[h1,decide_eq_true hn,Bool.or_true];rfl
theorem G3{x:ByteArray}(h:128<=gb x 0)(h1:wdt x 0=1):Ny x=0:=by
 unfold Ny Xw;rw[h1,decide_eq_false oG];rfl
theorem hd_rl{x:ByteArray}{n:Nat}{v l:Int}(hd:Hd (gb x 0) n v l):(n<=x.size->(∀ j,1<=j->j<n->128<=gb x j/\gb x j<=191)->¬(vv x v (n-1)<l\/1114111<vv x v (n-1)\/(55296<=vv x v (n-1)/\vv x v (n-1)<=57343))->Ny x=n)/\((x.size<n\/(∃ j,1<=j/\j<n/\¬(128<=gb x j/\gb x j<=191))\/(vv x v (n-1)<l\/1114111<vv x v (n-1)\/(55296<=vv x v (n-1)/\vv x v (n-1)<=57343))/\(∀ j,1<=j->j<n->128<=gb x j/\gb x j<=191))->Ny x=0):=by
 have b1:=uJ x 1;have b2:=uJ x 2;have b3:=uJ x 3;rcases hd with ⟨h1,h2,rfl,rfl,rfl⟩|⟨h1,h2,rfl,rfl,rfl⟩|⟨h1,h2,rfl,rfl,rfl⟩
 ·refine⟨fun hs hj hz=>TQ oG oG ?_,fun hs=>G3 oG ?_⟩
  ·have q1:=hj 1 oG oG
   simp only[vv,Nat.zero_add,Nat.reduceAdd,Nat.add_one_sub_one,Nat.reduceSub]at hz;unfold wdt;rw[ZK];simp only[Nat.zero_add,Nat.sub_zero];unfold Lib.decodeN
   repeat' split
   all_goals first|rfl|(exfalso;omega)
  ·have a1:x.size<2\/¬(128<=gb x 1/\gb x 1<=191)\/((64*((gb x 0:Int)-192)+gb x 1-128<128\/1114111<64*((gb x 0:Int)-192)+gb x 1-128\/(55296<=64*((gb x 0:Int)-192)+gb x 1-128/\64*((gb x 0:Int)-192)+gb x 1-128<=57343))/\128<=gb x 1/\gb x 1<=191):=by
    rcases hs with h|⟨j,p1,p2,p3⟩|⟨hz,hj⟩
    ·exact .inl h
    ·obtain rfl:j=1:=by omega
     exact .inr (.inl p3)
    ·exact .inr (.inr ⟨hz,hj 1 oG oG⟩)
   unfold wdt;rw[ZK];simp only[Nat.zero_add,Nat.sub_zero];unfold Lib.decodeN
   repeat' split
   all_goals first|rfl|(exfalso;omega)
 ·refine⟨fun hs hj hz=>TQ oG oG ?_,fun hs=>G3 oG ?_⟩
  ·have q1:=hj 1 oG oG
   have q2:=hj 2 oG oG;simp only[vv,Nat.zero_add,Nat.reduceAdd,Nat.add_one_sub_one,Nat.reduceSub]at hz;unfold wdt;rw[ZK];simp only[Nat.zero_add,Nat.sub_zero];unfold Lib.decodeN
   repeat' split
   all_goals first|rfl|(exfalso;omega)
  ·have a1:x.size<3\/¬(128<=gb x 1/\gb x 1<=191)\/¬(128<=gb x 2/\gb x 2<=191)\/((vv x ((gb x 0:Int)-224) 2<2048\/1114111<vv x ((gb x 0:Int)-224) 2\/(55296<=vv x ((gb x 0:Int)-224) 2/\vv x ((gb x 0:Int)-224) 2<=57343))/\(128<=gb x 1/\gb x 1<=191)/\128<=gb x 2/\gb x 2<=191):=by
    rcases hs with h|⟨j,p1,p2,p3⟩|⟨hz,hj⟩
    ·exact .inl h
    ·have:j=1\/j=2:=by omega
     rcases this with rfl|rfl
     ·exact .inr (.inl p3)
     ·exact .inr (.inr (.inl p3))
    ·exact .inr (.inr (.inr ⟨hz,hj 1 oG oG,hj 2 oG oG⟩))
   simp only[vv,Nat.zero_add,Nat.reduceAdd,Nat.reduceSub]at a1;unfold wdt;rw[ZK];simp only[Nat.zero_add,Nat.sub_zero];unfold Lib.decodeN
   repeat' split
   all_goals first|rfl|(exfalso;omega)
 ·refine⟨fun hs hj hz=>TQ oG oG ?_,fun hs=>G3 oG ?_⟩
  ·have q1:=hj 1 oG oG
   have q2:=hj 2 oG oG;have q3:=hj 3 oG oG;simp only[vv,Nat.zero_add,Nat.reduceAdd,Nat.add_one_sub_one,Nat.reduceSub]at hz;unfold wdt;rw[ZK];simp only[Nat.zero_add,Nat.sub_zero];unfold Lib.decodeN
   repeat' split
   all_goals first|rfl|(exfalso;omega)
  ·have a1:x.size<4\/¬(128<=gb x 1/\gb x 1<=191)\/¬(128<=gb x 2/\gb x 2<=191)\/¬(128<=gb x 3/\gb x 3<=191)\/((vv x ((gb x 0:Int)-240) 3<65536\/1114111<vv x ((gb x 0:Int)-240) 3\/(55296<=vv x ((gb x 0:Int)-240) 3/\vv x ((gb x 0:Int)-240) 3<=57343))/\(128<=gb x 1/\gb x 1<=191)/\(128<=gb x 2/\gb x 2<=191)/\128<=gb x 3/\gb x 3<=191):=by
    rcases hs with h|⟨j,p1,p2,p3⟩|⟨hz,hj⟩
    ·exact .inl h
    ·have:j=1\/j=2\/j=3:=by omega
     rcases this with rfl|rfl|rfl
     ·exact .inr (.inl p3)
     ·exact .inr (.inr (.inl p3))
     ·exact .inr (.inr (.inr (.inl p3)))
    ·exact .inr (.inr (.inr (.inr ⟨hz,hj 1 oG oG,hj 2 oG oG,hj 3 oG oG⟩)))
   simp only[vv,Nat.zero_add,Nat.reduceAdd,Nat.reduceSub]at a1;unfold wdt;rw[ZK];simp only[Nat.zero_add,Nat.sub_zero];unfold Lib.decodeN
   repeat' split
   all_goals first|rfl|(exfalso;omega)
theorem wdt_sdr(p:Nat)(s:ByteArray):wdt (sdr p s) 0=wdt s p:=by
 unfold wdt;rw[ZK,ZK,Yw,Yw,Yw,Yw,yq];rfl
theorem rlen_sdr(p:Nat)(s:ByteArray):Ny (sdr p s)=if Xw s p=true then ((wdt s p:Nat):Int)else 0:=by
 have e:Xw (sdr p s) 0=Xw s p:=by unfold Xw;rw[wdt_sdr,Yw];rfl
 unfold Ny;rw[e,wdt_sdr]
theorem spc_iff(c:Nat):spc c=true↔(c=32\/c=9\/c=10\/c=40\/c=41\/c=91\/c=93\/c=44\/c=59):=by
 unfold spc;simp only[Bool.or_eq_true,decide_eq_true_eq];omega
section
structure Rl where
 name:ByteArray
 gr:List Nd
 kids:Int
 wt:Int
 mean:Tm
structure Lx where
 word:ByteArray
 gr:List Nd
 wt:Int
 mean:Tm
def RlIn(w:World)(b o:Nat)(r:Rl):Prop:=∃ G cg S cs B m,w.rangeAt b o [.string r.name,.slice G r.gr.length cg,.int .i64 r.kids,.int .i64 r.wt,.int .i64 r.mean.kind,.string r.mean.name,.int .i64 r.mean.index,.string r.mean.type.base,.slice S r.mean.type.args.length cs,.slice B r.mean.args.length m]/\NodesIn w G r.gr/\SimsIn w S r.mean.type.args/\TmsIn w B r.mean.args
def RulesIn(w:World)(A:Option Addr)(l:List Rl):Prop:=
 l.length<=jx/\(l≠[]->∃ b o,A=some ⟨b,o,none⟩/\b<w.heap.size/\∀ k (h:k<l.length),RlIn w b (o+k*10) l[k])
def LxIn(w:World)(b o:Nat)(r:Lx):Prop:=r.word.size<9223372036854775807/\∃ G cg S cs B m,w.rangeAt b o [.string r.word,.slice G r.gr.length cg,.int .i64 r.wt,.int .i64 r.mean.kind,.string r.mean.name,.int .i64 r.mean.index,.string r.mean.type.base,.slice S r.mean.type.args.length cs,.slice B r.mean.args.length m]/\NodesIn w G r.gr/\SimsIn w S r.mean.type.args/\TmsIn w B r.mean.args
def LexesIn(w:World)(A:Option Addr)(l:List Lx):Prop:=
 l.length<=jx/\(l≠[]->∃ b o,A=some ⟨b,o,none⟩/\b<w.heap.size/\∀ k (h:k<l.length),LxIn w b (o+k*9) l[k])
theorem RlIn.mono{w w':World}{b o:Nat}{r:Rl}(h:RlIn w b o r)(hb:Bel w w')(hl:b<w.heap.size):RlIn w' b o r:=by
 obtain⟨G,cg,S,cs,B,m,h1,h2,h3,h4⟩:=h;exact⟨G,cg,S,cs,B,m,hb.range hl h1,h2.mono hb,h3.mono hb,h4.mono hb⟩
theorem LxIn.mono{w w':World}{b o:Nat}{r:Lx}(h:LxIn w b o r)(hb:Bel w w')(hl:b<w.heap.size):LxIn w' b o r:=by
 obtain⟨h0,G,cg,S,cs,B,m,h1,h2,h3,h4⟩:=h;exact⟨h0,G,cg,S,cs,B,m,hb.range hl h1,h2.mono hb,h3.mono hb,h4.mono hb⟩
theorem RulesIn.mono{w w':World}{A:Option Addr}{l:List Rl}(h:RulesIn w A l)(hb:Bel w w'):RulesIn w' A l:=
 ⟨h.1,fun hn=>by
  obtain⟨b,o,e,hl,hc⟩:=h.2 hn
  exact⟨b,o,e,nLL hl hb.size,fun k hk=>(hc k hk).mono hb hl⟩⟩
theorem LexesIn.mono{w w':World}{A:Option Addr}{l:List Lx}(h:LexesIn w A l)(hb:Bel w w'):LexesIn w' A l:=
 ⟨h.1,fun hn=>by
  obtain⟨b,o,e,hl,hc⟩:=h.2 hn
  exact⟨b,o,e,nLL hl hb.size,fun k hk=>(hc k hk).mono hb hl⟩⟩
theorem RulesIn.at_{w w':World}{A:Option Addr}{l:List Rl}(h:RulesIn w A l)(hb:Bel w w'){k:Nat}(hk:k<l.length):
  ∃ b o G cg S cs B m,A=some ⟨b,o,none⟩/\b<w.heap.size/\w'.rangeAt b (o+k*10) [Value.string (l[k]).name,.slice G (l[k]).gr.length cg,.int .i64 (l[k]).kids,.int .i64 (l[k]).wt,.int .i64 (l[k]).mean.kind,.string (l[k]).mean.name,.int .i64 (l[k]).mean.index,.string (l[k]).mean.type.base,.slice S (l[k]).mean.type.args.length cs,.slice B (l[k]).mean.args.length m]/\NodesIn w G (l[k]).gr/\SimsIn w S (l[k]).mean.type.args/\TmsIn w B (l[k]).mean.args:=by
 obtain⟨b,o,e,hl,hc⟩:=h.2 (by rintro rfl;simp at hk);obtain⟨G,cg,S,cs,B,m,h1,h2,h3,h4⟩:=hc k hk;exact⟨b,o,G,cg,S,cs,B,m,e,hl,hb.range hl h1,h2,h3,h4⟩
theorem LexesIn.at_{w w':World}{A:Option Addr}{l:List Lx}(h:LexesIn w A l)(hb:Bel w w'){k:Nat}(hk:k<l.length):
  ∃ b o G cg S cs B m,A=some ⟨b,o,none⟩/\b<w.heap.size/\(l[k]).word.size<9223372036854775807/\w'.rangeAt b (o+k*9) [Value.string (l[k]).word,.slice G (l[k]).gr.length cg,.int .i64 (l[k]).wt,.int .i64 (l[k]).mean.kind,.string (l[k]).mean.name,.int .i64 (l[k]).mean.index,.string (l[k]).mean.type.base,.slice S (l[k]).mean.type.args.length cs,.slice B (l[k]).mean.args.length m]/\NodesIn w G (l[k]).gr/\SimsIn w S (l[k]).mean.type.args/\TmsIn w B (l[k]).mean.args:=by
 obtain⟨b,o,e,hl,hc⟩:=h.2 (by rintro rfl;simp at hk);obtain⟨h0,G,cg,S,cs,B,m,h1,h2,h3,h4⟩:=hc k hk;exact⟨b,o,G,cg,S,cs,B,m,e,hl,h0,hb.range hl h1,h2,h3,h4⟩
def plN(g:List Nd)(k:Int)(f:Nat):Bool:=decide ((0:Int)<=tgt (NK g 0).ln (f:Int))==decide ((f:Int)<=k)
def gj(g:List Nd)(k:Int):Bool:=(List.range 4).all (plN g k)
theorem nd_zero{g:List Nd}(h:0<g.length):NK g 0=g[0]:=by simp[NK,List.getD,h]
theorem pl_yes{g:List Nd}{k:Int}(h:∀ f,f<4->plN g k f=true):gj g k=true:=aD.2 fun f hf=>h f (ax.1 hf)
theorem pl_no{g:List Nd}{k:Int}{f:Nat}(hf:f<4)(h:plN g k f=false):gj g k=false:=by
 cases e:gj g k with
 | false=>rfl
 | true=>rw[List.all_eq_true.1 e f (List.mem_range.2 hf)]at h;cases h
theorem plN_of{g:List Nd}{k:Int}{f:Nat}(h:0<g.length):plN g k f=(decide ((0:Int)<=tgt (g[0]).ln (f:Int))==decide ((f:Int)<=k)):=by unfold plN;rw[nd_zero h]
def rlBad(r:Rl):Prop:=r.kids<1\/3<r.kids\/r.wt<0\/1000000<r.wt
instance(r:Rl):Decidable (rlBad r):=by unfold rlBad;infer_instance
def IY(r:Lx):Prop:=r.wt<0\/1000000<r.wt
instance(r:Lx):Decidable (IY r):=by unfold IY;infer_instance
noncomputable def KK(l:List Ty)(fs:List Ft)(r:Lx):Int:=if yX r.word=false then 10 else if IY r then 3 else if (x7 l fs r.gr).1≠0 then (x7 l fs r.gr).1 else (tmF r.mean).1
theorem TV{l:List Ty}{fs:List Ft}{r:Lx}(h:yX r.word=false):KK l fs r=10:=if_pos h
theorem GZ{l:List Ty}{fs:List Ft}{r:Lx}(h0:yX r.word=true)(h:IY r):KK l fs r=3:=by unfold KK;rw[h0,if_neg dE,if_pos h]
theorem lx_gr{l:List Ty}{fs:List Ft}{r:Lx}(h0:yX r.word=true)(h:¬IY r)(h2:¬(x7 l fs r.gr).1=0):KK l fs r=(x7 l fs r.gr).1:=by unfold KK;rw[h0,if_neg dE,if_neg h,if_pos h2]
theorem Wy{l:List Ty}{fs:List Ft}{r:Lx}(h0:yX r.word=true)(h:¬IY r)(h2:(x7 l fs r.gr).1=0):KK l fs r=(tmF r.mean).1:=by unfold KK;rw[h0,if_neg dE,if_neg h,if_neg (fun e=>e h2)]
theorem L0{l:List Ty}{fs:List Ft}{g:List Nd}(h:(x7 l fs g).1=0):(vJ l.length fs.length g).1=0:=by
 by_cases h1:(vJ l.length fs.length g).1=0
 ·exact h1
 ·rw[MQ h1]at h;exact h
variable {l:List Ty} {fs:List Ft} {rs:List Rl} {xs:List Lx} {st:List Nd}
theorem feats_few(h:(zY l fs).1=0):fs.length<=40:=by
 unfold zY at h;by_cases h4:40<fs.length
 ·rw[if_pos h4]at h;cases h
 ·omega
end
theorem r_cvU{P:Program}{n:Nw}{f:Fr}{w:World}{dst:Option Tmp}{gd:Option (Nat×Bool)}{ty:TypeId}{pos:String}{af:Array Edge}{x:Operand}{k':IntKind}{a:Int}{t t':TypeId}{dd:TypeDesc}(hs:P.underlying t=some dd)(hd:P.underlying t'=some (.int .u64))(hx:ev n f x= .int k' a)(ha:0<=a/\a<=18446744073709551615):
  RV P n f w ⟨dst,.convert t t' x,ty,pos,af,gd⟩ (.int .u64 a) w:=by
 have:=IntWalk.u64_in a ha;simp[RV,execOp,hx,convert,run_underlying hs,run_underlying hd,Conv.intToInt,this]
def E4(a b:Int):Int:=if a<b then -1 else if b<a then 1 else 0
theorem cmpI_lt{a b:Int}:E4 a b<0↔a<b:=by unfold E4;split<;>(try split)<;>omega
theorem cmpI_eq{a b:Int}:E4 a b=0↔a=b:=by unfold E4;split<;>(try split)<;>omega
theorem qV:(prog.info? 3).map (·.size)=some 1:=by kernel_rfl
theorem qJ:(prog.info? 90).map (·.size)=some 2:=by kernel_rfl
theorem nan_any(a:Int)(w:World):Calls prog 120 #[.int .i64 a] w fun e w'=>e= .returned (.bool false)/\Bel w w':=by
 refine enT func120 ntmps120 rfl rfl fun hB=>?_;refine My ?_;exact⟨Zy (ao (fun h=>h rfl)).symm,hB⟩
theorem OX(a b:Int)(w:World):Calls prog 100 #[.int .i64 a,.int .i64 b] w fun e w'=>e= .returned (.int .i64 (E4 a b))/\Bel w w':=by
 refine enT func100 ntmps100 rfl rfl fun hB=>?_;refine zn8 ?_;refine aY kR (nan_any _ _) rfl (fun w1 s1=>?_);refine zn6 ?_;refine aY kR (nan_any _ _) rfl (fun w2 s2=>?_);refine zn9 ?_;refine ky rfl (fun c11=>?_) (fun c11=>?_)
 ·exact absurd c11 dE
 refine zn8 ?_;refine ky rfl (fun c13=>?_) (fun c13=>?_)
 ·exact absurd c13 dE
 refine vy ?_;refine zV rfl (fun a1=>?_) (fun a1=>?_)
 ·refine zn8 ?_;replace hB:=hB.tr0 (s1.t s2);exact⟨Y0 (by unfold E4;rw[if_pos a1]),hB⟩
 refine vy ?_;refine zV rfl (fun a2=>?_) (fun a2=>?_)
 ·refine zn8 ?_;replace hB:=hB.tr0 (s1.t s2);exact⟨Y0 (by unfold E4;rw[if_neg a1];exact if_pos a2),hB⟩
 refine zn9 ?_;replace hB:=hB.tr0 (s1.t s2);exact⟨Y0 (by unfold E4;rw[if_neg a1];exact if_neg a2),hB⟩
theorem tcl_any(a b f:Int)(w:World):Calls prog 103 #[.agg #[.int .i64 a,.int .i64 b],.int .i64 f] w fun e w'=>e= .returned (.int .i64 (E4 a f))/\Bel w w':=by
 refine enT func103 ntmps103 rfl rfl fun hB=>?_;refine zn2 ?_;refine qY (v:= .agg #[_,_]) (cs:=#[_,_]) rfl rfl (fun b2 w1 hb2 s1 hr=>?_);refine zn8 ?_;refine aY kR (OX _ _ _) rfl (fun w2 s2=>?_);refine zn5 ?_;exact⟨rfl,hB.u⟩
theorem bsf_any(A:Option Addr)(c:Nat)(xs:List (Int×Int))(f:Int)(w:World)(hX:LinksIn w A xs)(hl:xs.length<=1000)(a1:∀ i j (hi:i<xs.length) (hj:j<xs.length),i<=j->(xs[i]).1<=(xs[j]).1):Calls prog 102 #[.slice A xs.length c,.int .i64 f,.func (.func 103) #[] #[]] w fun e w'=>(∃(i:Nat) (b:Bool),i<=xs.length/\e= .returned (.tuple #[.int .i64 i,.bool b])/\(∀ j (hj:j<xs.length),j<i->(xs[j]).1<f)/\(∀ j (hj:j<xs.length),i<=j->f<=(xs[j]).1)/\(b=true↔∃ h:i<xs.length,(xs[i]).1=f))/\Bel w w':=by
 refine enT func102 ntmps102 rfl rfl fun hB=>?_;refine zn22 ?_;refine qj (rg [9,10,11] 15 20) (fun m g w'=>∃ i j:Nat,i<=j/\j<=xs.length/\m=j-i/\g 9= .int .i64 i/\g 10= .int .i64 j/\Bel w w'/\(∀ x (hx:x<xs.length),x<i->(xs[x]).1<f)/\(∀ x (hx:x<xs.length),j<=x->f<=(xs[x]).1)) (xs.length) ?_ (fun m g3 w1 hI=>?_)
 ·exact⟨0,xs.length,ag _,ae _,rfl,rfl,rfl,hB,fun x _ h=>by omega,fun x h1 h2=>by omega⟩
 obtain⟨i,j,hij,hj,hm,h9,h10,hB,a4,a6⟩:=hI;refine zK 9 _ h9 nu (zK 10 _ h10 nu (zn8 ?_));refine zV rfl (fun c17=>?_) (fun c17=>?_)
 ·obtain⟨h,hh⟩:∃ h,h=(i+j)/2:=⟨_,rfl⟩
  have an:h<xs.length:=by omega
  obtain⟨lb,lof,rfl,hlb,a7⟩:=hX.at_ hB an;refine zn7 ?_;refine wl (QZ (c:=((i+j:Nat):Int)) rfl rfl oG oG) (wl (r_cvU U3 underlying181 rfl oG) (wl (r_shr (b:=1) (c:=h) rfl rfl oG (by rw[hh,Nat.shiftRight_eq_div_pow])) (wl (Dk underlying181 U3 rfl oG) (zn9 ?_))));refine wl (qZ U90 rfl rfl a7 qJ) (wmI rfl ?_);refine y9 rfl kR (tcl_any _ _ f _) rfl rfl (fun e' w2 hr=>?_);obtain⟨rfl,hs⟩:=hr;replace hB:=hB.tr0 (sB hs);refine⟨_,rfl,?_⟩;refine zn3 ?_;refine zV rfl (fun b1=>?_) (fun b1=>?_)
  ·have hlt:=cmpI_lt.1 b1;obtain⟨i2,ad⟩:∃ i2,i2=h+1:=⟨_,rfl⟩
   obtain⟨j2,a8⟩:∃ j2,j2=j:=⟨_,rfl⟩
   have a2:∀ x (hx:x<xs.length),x<i2->(xs[x]).1<f:=fun x hx hxi=>by
     by_cases e:x=h
     ·subst e;exact hlt
     ·have hsx:(xs[x]).1<=(xs[h]).1:=a1 x h hx an oG
      omega
   have a3:∀ x (hx:x<xs.length),j2<=x->f<=(xs[x]).1:=fun x hx hxj=>a6 x hx oG
   refine zn6 ?_;refine xK (j2-i2) oG agA ?_;exact⟨i2,j2,by omega,by omega,rfl,by subst ad;rfl,by subst a8;rfl,hB,a2,a3⟩
  have hge:¬(xs[h]).1<f:=fun h=>b1 (cmpI_lt.2 h)
  obtain⟨i2,ad⟩:∃ i2,i2=i:=⟨_,rfl⟩
  obtain⟨j2,a8⟩:∃ j2,j2=h:=⟨_,rfl⟩
  have a2:∀ x (hx:x<xs.length),x<i2->(xs[x]).1<f:=fun x hx hxi=>a4 x hx oG
  have a3:∀ x (hx:x<xs.length),j2<=x->f<=(xs[x]).1:=fun x hx hxj=>by
    have hsx:(xs[h]).1<=(xs[x]).1:=a1 h x an hx oG;omega
  refine zn5 ?_;refine xK (j2-i2) oG agA ?_;exact⟨i2,j2,by omega,by omega,rfl,by subst ad;rfl,by subst a8;rfl,hB,a2,a3⟩
 have a9:i=j:=by omega
 subst a9;refine jz ?_;refine zw 39 rfl (fun g39=>?_) (fun g39=>?_)
 ·refine zn6 ?_;have a5:i<xs.length:=by omega
  obtain⟨lb,lof,rfl,hlb,a7⟩:=hX.at_ hB a5;refine zn3 ?_;refine wl (qZ U90 rfl rfl a7 qJ) (zn3 ?_);refine y9 rfl kR (tcl_any _ _ f _) rfl rfl (fun e' w3 hr=>?_);obtain⟨rfl,hs⟩:=hr;replace hB:=hB.tr0 (sB hs);refine⟨_,rfl,?_⟩;refine zn8 ?_;refine kY (.inl rfl) rfl rfl rfl ?_
  first
    | exact⟨⟨i,false,by omega,rfl,a4,a6,⟨fun h=>(Bool.noConfusion h),fun hh=>absurd hh.1 oG⟩⟩,hB⟩
    | exact⟨⟨i,decide (E4 (xs[i]'a5).1 f=0),by omega,rfl,a4,a6,by rw[decide_eq_true_iff,cmpI_eq];exact⟨fun h=>⟨a5,h⟩,fun⟨_,h⟩=>h⟩⟩,hB⟩
 refine Jj ?_;refine kY (.inl rfl) rfl rfl rfl ?_
 first
   | exact⟨⟨i,false,by omega,rfl,a4,a6,⟨fun h=>(Bool.noConfusion h),fun hh=>absurd hh.1 oG⟩⟩,hB⟩
   | exact⟨⟨i,decide (E4 (xs[i]'a5).1 f=0),by omega,rfl,a4,a6,by rw[decide_eq_true_iff,cmpI_eq];exact⟨fun h=>⟨a5,h⟩,fun⟨_,h⟩=>h⟩⟩,hB⟩
theorem Ej:(prog.info? 26).map (·.size)=some 1:=by kernel_rfl
theorem oW:(prog.info? 91).map (·.size)=some 1:=by kernel_rfl
theorem oK:(prog.info? 93).map (·.size)=some 2:=by kernel_rfl
theorem Q3:(prog.info? 90).map (·.zero)=some (some (.agg #[.int .i64 0,.int .i64 0])):=by kernel_rfl
theorem Vj(G:Option Addr)(cg nf:Nat)(gr:List Nd)(i:Nat)(f:Int)(w:World)(hG:NodesIn w G gr)(hi:i<gr.length)(hl:yw nf gr.length (-1) (gr[i]'hi).ln=0)(hw:(gr[i]'hi).ln.length<=1000):Calls prog 68 #[.agg #[.slice G gr.length cg],.int .i64 i,.int .i64 f] w fun e w'=>e= .returned (.int .i64 (tgt (gr[i]'hi).ln f))/\Bel w w':=by
 obtain⟨nb,no,LA,lc,rfl,hnb,hnr,hln⟩:=hG.at_ (Below.refl _ _:Bel w w) hi;have hso:=(Ix hl).2;refine enT func68 ntmps68 rfl rfl fun hB=>?_;refine zn2 ?_;refine qY (v:= .agg #[_]) (cs:=#[_]) rfl rfl (fun b3 w1 hb3 s1 hr=>?_);refine zn8 ?_;refine wl (xX (i:=i) U26 oK rfl rfl hi rfl) (zn1 ?_);refine wl (qW (v:= .slice _ _ _) U91 rfl rfl (hB.u.cell hnb (hnr 1 _ rfl))) (wmI rfl ?_);replace hB:=hB.tr0 s1
 refine zW kR (bsf_any LA lc (gr[i]'hi).ln f _ (hln.mono hB) hw (fun x y hx hy hxy=>by
   by_cases e:x=y
   ·subst e;exact aK _
   ·exact Int.le_of_lt (hso x y hx hy oG))) rfl (fun e' w2 hr=>?_)
 obtain⟨⟨ix,b,hix,rfl,hlo,hhi,hbt⟩,s2⟩:=hr;replace s2:=sB s2;obtain⟨hy,hn⟩:=tgt_bs hl hlo hhi;refine⟨_,rfl,?_⟩;refine wmT rfl (wl (y8 (v:= .int _ _) rfl rfl) (wl (y8 (v:= .bool _) rfl rfl) (kQ ?_)));refine ky rfl (fun a3=>?_) (fun a3=>?_)
 ·have hbf:¬b=true:=by simpa using a3
  have hno:=hn (fun h=>hbf (hbt.2 h));refine zn8 ?_;exact⟨Y0 hno,hB.u⟩
 have a2:b=true:=by simpa using a3
 obtain⟨hxl,hxe⟩:=hbt.1 a2;have a1:=hy hxl hxe;replace hB:=hB.tr0 s2;obtain⟨lb,lof,rfl,hlb,hlr⟩:=hln.at_ hB hxl;refine zn7 ?_;refine wl (xX (i:=i) U26 oK rfl rfl hi rfl) (zn1 ?_);refine wl (qW (v:= .slice _ _ _) U91 rfl rfl (hB.cell hnb (hnr 1 _ rfl))) (zn3 ?_);refine wl (qW (v:= .int _ _) U3 rfl rfl (hlr 1 _ rfl)) (zn5 ?_);exact⟨Y0 a1,hB⟩
section
def trN(σ:Nat->Nat)(x:Nd):Nd:=⟨x.ty,x.ln.map (fun y=>(y.1,(σ y.2.toNat:Int)))⟩
theorem Ow{nf n m:Nat}{σ:Nat->Nat}:∀ {xs:List (Int×Int)} {a1:Int},yw nf n a1 xs=0->(∀ x∈xs,σ x.2.toNat<m)->yw nf m a1 (xs.map (fun y=>(y.1,(σ y.2.toNat:Int))))=0
 | [],_,_,_=>rfl
 | y::ys,a1,h,hm=>by
  unfold yw at h
  by_cases h1:uX nf n y
  ·rw[if_pos h1]at h;cases h
  rw[if_neg h1]at h
  by_cases h2:y.1<=a1
  ·rw[if_pos h2]at h;cases h
  rw[if_neg h2]at h
  have h3:=hm y (by simp)
  have h4:¬uX nf m (y.1,(σ y.2.toNat:Int)):=by
   unfold uX at h1 ⊢;omega
  rw[List.map_cons];unfold yw;rw[if_neg h4,if_neg h2];exact Ow h (fun x hx=>hm x (aq _ hx))
theorem gv_img{l:List Ty}{fs:List Ft}{g gt:List Nd}{σ τ:Nat->Nat}(h:GV l fs g)(hp:0<gt.length)(hle:gt.length<=60)
  (hτ:∀ j,j<gt.length->τ j<g.length/\nd gt j=trN σ (nd g (τ j))/\∀ x∈(nd g (τ j)).ln,σ x.2.toNat<gt.length/\(nd gt (σ x.2.toNat)).ty=(nd g x.2.toNat).ty)
  (hR:∀ j,j<gt.length->Rch gt j):(yJ l fs gt).1=0:=by
 have hl:vJ l.length fs.length gt=(0,0):=by
  unfold vJ;rw[if_neg oG];refine XV (fun k _ hk=>?_);have a3:k<gt.length:=by omega
  obtain⟨a1,a2,a4⟩:=hτ k a3;rw[yV a3,yV a1]at a2;rw[yV a1]at a4;have hty:=h.gok.ty _ a1;have hln:=V6 h.lo _ a1;have e:¬((gt[k]).ty<0\/(l.length:Int)<=(gt[k]).ty):=by rw[a2];simp only[trN];omega
  rw[Xz a3 e,List.drop_zero,a2];exact Ow hln (fun x hx=>(a4 x hx).1)
 have ht:tyF l fs gt=(0,0):=by
  refine XV (fun k _ hk=>?_);have a3:k<gt.length:=by omega
  obtain⟨a1,a2,a4⟩:=hτ k a3;refine SV a3 (fun j hj=>?_);have h0:tyN l fs g (τ k)=0:=ux (by rw[show vk (tyN l fs g) 0 g.length=tyF l fs g from rfl,h.t]) _ (ag _) oG;rw[yV a3,yV a1]at a2;rw[yV a1]at a4;have hex:∃ y∈(g[τ k]).ln,(gt[k]).ln[j]=(y.1,(σ y.2.toNat:Int)):=by
   have hm:(gt[k]).ln[j]∈(trN σ (g[τ k])).ln:=by rw[<- a2];exact ar hj
   simp only[trN,List.mem_map]at hm;obtain⟨y,hy,e⟩:=hm;exact⟨y,hy,e.symm⟩
  obtain⟨y,hy,ey⟩:=hex;have h1:NY l fs g (g[τ k]).ty y=false:=by
   simp only[tyN,List.getElem?_eq_getElem a1]at h0;cases hb:NY l fs g (g[τ k]).ty y with
   | false=>rfl
   | true=>rw[if_pos (List.any_eq_true.2 ⟨y,hy,hb⟩)]at h0;cases h0
  have e3:=(a4 y hy).2;have e2:(gt[k]).ty=(g[τ k]).ty:=by rw[a2];rfl
  rw[ey,e2];unfold NY at h1 ⊢;have e4:(NK gt ((σ y.2.toNat:Nat):Int)).ty=(NK g y.2).ty:=by
   unfold nd at e3;unfold NK;rw[Int.toNat_natCast];exact e3
  rw[e4];exact h1
 have hu:(-1:Int)=JX gt:=Ez (.inl ⟨rfl,hR⟩);rw[KV h.h,XY (by rw[hl]) ht oG]
theorem unr_ex(g:List Nd):∃ r,UnrIs g r:=by
 have h:∀ n:Nat,(∀ i,i<n->Rch g i)\/∃ k,k<n/\¬Rch g k/\∀ i,i<k->Rch g i:=by
  intro n
  induction n with
  | zero=>exact .inl (fun i hi=>absurd hi oG)
  | succ n ih=>
   rcases ih with h|⟨k,h1,h2,h3⟩
   ·by_cases hn:Rch g n
    ·refine .inl (fun i hi=>?_)
     by_cases e:i=n
     ·rw[e];exact hn
     ·exact h i oG
    ·exact .inr ⟨n,by omega,hn,h⟩
   ·exact .inr ⟨k,by omega,h2,h3⟩
 rcases h g.length with h|⟨k,h1,h2,h3⟩
 ·exact⟨-1,.inl ⟨rfl,h⟩⟩
 ·exact⟨k,.inr ⟨k,rfl,h1,h2,h3⟩⟩
theorem GV.rch{l:List Ty}{fs:List Ft}{g:List Nd}(h:GV l fs g):∀ i,i<g.length->Rch g i:=by
 obtain⟨r,hr⟩:=unr_ex g;have hu:=h.u;rw[<- Ez hr]at hu;rcases hr with ⟨_,h3⟩|⟨k,h3,_⟩
 ·exact h3
 ·exact absurd (show 0<=r by omega) hu
structure Turn(g gt:List Nd)(σ ρ:Nat->Nat):Prop where
 len:gt.length=g.length
 z:σ 0=0
 lt:∀ i,i<g.length->σ i<g.length
 rl:∀ j,j<g.length->ρ j<g.length/\σ (ρ j)=j
 lr:∀ i,i<g.length->ρ (σ i)=i
 nd:∀ i,i<g.length->nd gt (σ i)=trN σ (nd g i)
section turn
variable {g gt:List Nd} {σ ρ:Nat->Nat}
theorem Turn.inj(t:Turn g gt σ ρ){x y:Nat}(hx:x<g.length)(hy:y<g.length)(h:σ x=σ y):x=y:=by rw[<- t.lr x hx,<- t.lr y hy,h]
theorem Turn.succ(t:Turn g gt σ ρ){i:Nat}(hi:i<g.length):vZ gt (σ i)=(vZ g i).map σ:=by
 unfold vZ;rw[t.nd i hi];simp[trN]
theorem Turn.dl(t:Turn g gt σ ρ)(hr:∀ i,i<g.length->∀ y∈vZ g i,y<g.length){is a b:List Nat}(h:DL g is a b):(∀ i∈is,i<g.length)->(∀ x∈b,x<g.length)->DL gt (is.map σ) (a.map σ) (b.map σ):=by
 induction h with
 | nil=>exact fun _ _=> .nil
 | old h _ ih=>exact fun hi hb=> .old (List.mem_map_of_mem h) (ih (fun i h=>hi i (aq _ h)) hb)
 | new h s u ihs iht=>
  intro hi hb
  rename_i i is o o1 o'
  have a1:=hi i (aw ..);have ho1:∀ x∈o1,x<g.length:=fun x hx=>hb x (u.sub _ hx)
  refine .new (fun hm=>?_) ?_ (iht (fun i h=>hi i (aq _ h)) hb)
  ·obtain⟨y,hy,e⟩:=au.1 hm
   have hyl:=ho1 y (s.sub _ (List.mem_append_left _ hy));exact h (t.inj hyl a1 e ▸ hy)
  ·have:=ihs (hr i a1) ho1
   rw[List.map_append]at this;rw[t.succ a1];exact this
theorem Turn.rch(t:Turn g gt σ ρ)(hr:∀ i,i<g.length->∀ y∈vZ g i,y<g.length)(hp:0<g.length){i:Nat}(h:Rch g i):i<g.length/\Rch gt (σ i):=by
 induction h with
 | zero=>exact⟨hp,by rw[t.z];exact .zero⟩
 | step h hi hx ih=>
  rename_i i x
  refine⟨hr i hi _ (by simp only[vZ,yV hi,List.mem_map];exact⟨x,hx,rfl⟩),?_⟩;have hlt:σ i<gt.length:=by rw[t.len];exact t.lt i hi
  have e:=t.nd i hi;rw[yV hlt,yV hi]at e;have:=Rch.step (x:=(x.1,((σ x.2.toNat:Nat):Int))) ih.2 hlt (by rw[e];exact au.2 ⟨x,hx,rfl⟩)
  simpa using this
theorem idx_map{g:List Nd}{σ:Nat->Nat}{x:Nat}(hx:x<g.length)(inj:∀ y,y<g.length->σ y=σ x->y=x):∀ {o:List Nat},(∀ y∈o,y<g.length)->(o.map σ).idxOf (σ x)=o.idxOf x
 | [],_=>rfl
 | y::o,h=>by
  rw[List.map_cons,List.idxOf_cons,List.idxOf_cons,idx_map hx inj (fun z hz=>h z (List.mem_cons_of_mem _ hz))]
  by_cases e:y=x
  ·subst e;simp
  ·have e2:¬σ y=σ x:=fun h2=>e (inj y (h y (aw ..)) h2)
   have b1:(y==x)=false:=by simp[e]
   have b2:(σ y==σ x)=false:=by simp[e2]
   rw[b1,b2]
theorem Turn.num(t:Turn g gt σ ρ){x:Nat}(hx:x<g.length){o:List Nat}(ho:∀ y∈o,y<g.length):o8 (o.map σ) (σ x)=o8 o x:=by
 unfold o8
 have e:σ x∈o.map σ↔x∈o:=⟨fun h=>by
  obtain⟨y,hy,e⟩:=au.1 h
  exact t.inj (ho y hy) hx e ▸ hy,fun h=>List.mem_map_of_mem h⟩
 by_cases h:x∈o
 ·rw[if_pos (e.2 h),if_pos h,idx_map hx (fun y hy h=>t.inj hy hx h) ho]
 ·rw[if_neg (fun k=>h (e.1 k)),if_neg h]
theorem Turn.can(t:Turn g gt σ ρ)(hr:∀ i,i<g.length->∀ y∈vZ g i,y<g.length){o:List Nat}(ho:∀ y∈o,y<g.length):yQ gt (o.map σ)=yQ g o:=by
 unfold yQ;rw[List.map_map];refine aI (fun x hx=>?_);have hxl:=ho x hx;simp only[Function.comp];unfold CV;rw[t.nd x hxl];refine VW rfl ?_;simp only[trN,List.map_map];refine aI (fun y hy=>?_);have hyl:=hr x hxl y.2.toNat (by simp only[vZ,List.mem_map];exact⟨y,hy,rfl⟩);simp only[Function.comp,Mw,Int.toNat_natCast];rw[t.num hyl ho]
end turn
theorem W3{m i:Nat}{f h:Nat->Value}{a b:Value}:D4 (kX m f h) (0+i*2) [a,b]=kX m (fun j=>if j=i then a else f j) (fun j=>if j=i then b else h j):=by
 show ((kX m f h).setIfInBounds (0+i*2+0) a).setIfInBounds (0+i*2+1) b=_;rw[EQ,EZ]
end
section
structure TrR(g:List Nd)(r:Nat)(o:List Nat):Prop where
 dl:DL g [r] [] o
 ok:OOk g.length o
 nodup:o.Nodup
 has:r∈o
 zero:o.idxOf r=0
 clo:∀ x∈o,∀ t∈vZ g x,t∈o
theorem DL.within{g:List Nd}{o:List Nat}(hc:∀ x∈o,∀ t∈vZ g x,t∈o){is a b:List Nat}(h:DL g is a b):(∀ i∈is,i∈o)->(∀ x∈a,x∈o)->∀ x∈b,x∈o:=by
 induction h with
 | nil=>exact fun _ h=>h
 | old h t ih=>exact fun hi ha=>ih (fun i h=>hi i (aq _ h)) ha
 | new h s t ihs iht=>
  intro hi ha;have hio:=hi _ (aw ..);refine iht (fun i h=>hi i (aq _ h)) (ihs (hc _ hio) (fun x hx=>?_));rcases az.1 hx with hx|hx
  ·exact ha x hx
  ·rw[List.mem_singleton.1 hx];exact hio
theorem idx_inj{o:List Nat}{x y:Nat}(hx:x∈o)(hy:y∈o)(e:o.idxOf x=o.idxOf y):x=y:=by
 obtain⟨h1,h2⟩:=u6 hx;obtain⟨h3,h4⟩:=u6 hy;rw[<- h2,<- h4];simp only[e]
theorem H1{o:List Nat}{x:Nat}(hx:x∈o):∀ {o2:List Nat},(∀ y∈o2,y∈o)->(o2.map (o.idxOf ·)).idxOf (o.idxOf x)=o2.idxOf x
 | [],_=>rfl
 | y::o2,h=>by
  rw[List.map_cons,List.idxOf_cons,List.idxOf_cons,H1 hx (fun z hz=>h z (List.mem_cons_of_mem _ hz))]
  by_cases e:y=x
  ·subst e;simp
  ·have e2:¬o.idxOf y=o.idxOf x:=fun h2=>e (idx_inj (h y (aw ..)) hx h2)
   have b1:(y==x)=false:=by simp[e]
   have b2:(o.idxOf y==o.idxOf x)=false:=by simp[e2]
   rw[b1,b2]
theorem num_map2{o o2:List Nat}{x:Nat}(hx:x∈o)(h:∀ y∈o2,y∈o):o8 (o2.map (o.idxOf ·)) (o.idxOf x)=o8 o2 x:=by
 unfold o8
 have e:o.idxOf x∈o2.map (o.idxOf ·)↔x∈o2:=⟨fun hm=>by
  obtain⟨y,hy,e⟩:=au.1 hm
  exact idx_inj (h y hy) hx e ▸ hy,fun h=>List.mem_map_of_mem h⟩
 by_cases h2:x∈o2
 ·rw[if_pos h2,if_pos (e.2 h2),H1 hx h]
 ·rw[if_neg h2,if_neg (fun h3=>h2 (e.1 h3))]
section sub
variable {g:List Nd} {r:Nat} {o:List Nat}
theorem TrR.mem(t:TrR g r o){x:Nat}(hx:x∈o){y:Int×Int}(hy:y∈(nd g x).ln):y.2.toNat∈o:=t.clo x hx _ (by simp only[vZ,List.mem_map];exact⟨y,hy,rfl⟩)
theorem TrR.lt(t:TrR g r o){x:Nat}(hx:x∈o):x<g.length:=t.ok.lt x hx
theorem TrR.can2(t:TrR g r o){c:Nat}{o2:List Nat}(hc:c∈o)(h2:DL g [c] [] o2):yQ (yQ g o) (o2.map (o.idxOf ·))=yQ g o2:=by
 have hw:=h2.within t.clo (fun i hi=>by rw[List.mem_singleton.1 hi];exact hc) (fun x hx=>by cases hx);have hcl:=h2.clo;unfold yQ;rw[List.map_map];refine aI (fun x hx=>?_);have hxo:=hw x hx;have e:=E5 (g:=g) hxo;unfold yQ at e;show CV _ _ (o.idxOf x)=CV g o2 x;unfold CV at e ⊢;rw[e];refine VW rfl ?_;simp only[List.map_map];refine aI (fun y hy=>?_);have hyo:=t.mem hxo hy;simp only[Function.comp,Mw,Pq hyo,Int.toNat_natCast];rw[num_map2 hyo hw]
theorem TrR.dl2(t:TrR g r o){c:Nat}{o2:List Nat}(hc:c∈o)(h2:DL g [c] [] o2):DL (yQ g o) [o.idxOf c] [] (o2.map (o.idxOf ·)):=
 h2.map t.clo (h2.within t.clo (fun i hi=>by rw[List.mem_singleton.1 hi];exact hc) (fun x hx=>by cases hx))
theorem TrR.valid{l:List Ty}{fs:List Ft}(t:TrR g r o)(h:GV l fs g):(yJ l fs (yQ g o)).1=0:=by
 have a1:=oQ g o;have hole:o.length<=g.length:=by have:=t.ok.cnt;omega
 have hpos:0<o.length:=List.length_pos_of_mem t.has;have hle:=h.gok.le;have a2:∀ j (hj:j<o.length),o.idxOf o[j]=j:=fun j hj=>E1 t.nodup hj
 have hrg:∀ i,i<(yQ g o).length->∀ y∈vZ (yQ g o) i,y<(yQ g o).length:=fun i hi y hy=>by
  rw[a1]at hi ⊢;rw[<- a2 i hi,Sy t.clo (List.getElem_mem hi)]at hy;obtain⟨z,hz,rfl⟩:=au.1 hy;exact(u6 (t.clo _ (ar hi) z hz)).1
 refine gv_img (σ:=(o.idxOf ·)) (τ:=fun j=>o.getD j 0) h oG oG (fun j hj=>?_) (fun j hj=>?_)
 ·have a3:j<o.length:=by omega
  have eg:o.getD j 0=o[j]:=by simp[List.getD,a3]
  have hm:o[j]∈o:=ar a3;have en:=E5 (g:=g) hm;rw[a2 j a3]at en;simp only[eg];refine⟨t.lt hm,?_,fun x hx=>?_⟩
  ·rw[en]
   refine VW rfl ?_;simp only[CV,trN];refine aI (fun y hy=>?_);simp only[Mw,Pq (t.mem hm hy)]
  ·have hxo:=t.mem hm hx
   rw[E5 hxo,a1];exact⟨(u6 hxo).1,rfl⟩
 ·have hd:=t.dl2 t.has t.dl
  rw[t.zero,TK t.nodup]at hd;have hR:=hd.rch hrg (fun i hi=>by rw[List.mem_singleton.1 hi];omega) (fun i hi=>by rw[List.mem_singleton.1 hi];exact .zero) (fun x hx=>by cases hx);exact hR j (ax.2 oG)
end sub
section comp
variable {l:List Ty} {fs:List Ft} {g:List Nd} {p q:List Int}
end comp
end
end Go.Proofs.YtiofaflajkgiaaaGreatDoor
