/- What these functions compute, at every world: math/bits.TrailingZeros64, (hierarchy.Table).Meet, (hierarchy.Table).Sub, hierarchy.Tables, hierarchy.Validate, ref3.Unmet, ref3.HierarchyFault; and plain laws. -/
import Derived.Test.YtndbjnkilegebaaGreatDoorSub
import Derived.Lib.TrailingZeros
import Derived.Test.YtndbjnkilegebaaGreatDoorU
import Derived.Test.YtndbjnkilegebaaGreatDoorZst
namespace Go.Proofs.YtndbjnkilegebaaGreatDoor
open Go.RowKit Go.Proofs.Tryz
variable {a b bd bu c i j k n x:Nat}{fs:List Ft}{l:List Ty}{m:Int}{p:Nat->Bool}{w w':World}
def kW(p:Nat->Bool):Nat->Nat
 | 0=>0
 | n+1=>kW p n|||(if p n then 2^n else 0)
theorem kV(p:Nat->Bool):∀(n j:Nat),(kW p n).testBit j=(decide (j<n)&&p j)
 | 0,j=>by simp[kW]
 | n+1,j=>by
  rw[kW,Nat.testBit_or,kV p n j]
  by_cases h:j=n
  ·subst h
   cases hp:p j<;>simp[Nat.testBit_two_pow_self]
  ·have h1:(if p n then 2^n else 0:Nat).testBit j=false:=by
    cases hp:p n
    ·simp
    ·simp[Ne.symm h]
   have h2:decide (j<n+1)=decide (j<n):=by simp;omega
   rw[h1,h2];simp
theorem mask_lt(p:Nat->Bool)(n:Nat):kW p n<2^n:=by
 apply Nat.lt_pow_two_of_testBit
 intro i hi;rw[kV];simp;omega
theorem XV(p:Nat->Bool)(h:n<=60):kW p n<18446744073709551616:=by
 have h1:=mask_lt p n;have h2:2^n<=2^60:=Nat.pow_le_pow_right dE h;have h3:(2:Nat)^60=1152921504606846976:=by decide
 omega
theorem Ik(h:∀ j,x.testBit j=(decide (j<n)&&p j)):x=kW p n:=
 Nat.eq_of_testBit_eq (fun j=>by rw[h,kV])
theorem kK{q:Nat->Bool}(h:∀ j,j<n->p j=q j):kW p n=kW q n:=by
 apply Ik
 intro j;rw[kV];by_cases hj:j<n
 ·rw[h j hj]
 ·simp[hj]
theorem mask_or(p q:Nat->Bool)(n:Nat):kW p n|||kW q n=kW (fun j=>p j||q j) n:=
 Ik (fun j=>by rw[Nat.testBit_or,kV,kV];cases decide (j<n)<;>simp)
theorem mask_and(p q:Nat->Bool)(n:Nat):kW p n&&&kW q n=kW (fun j=>p j&&q j) n:=
 Ik (fun j=>by rw[Nat.testBit_and,kV,kV];cases decide (j<n)<;>simp)
theorem mask_one(h:k<n):2^k=kW (fun j=>decide (j=k)) n:=by
 apply Ik
 intro j;rw[Nat.testBit_two_pow];by_cases e:k=j
 ·subst e;simp[h]
 ·simp[e,Ne.symm e]
theorem mask_zero(n:Nat):kW (fun _=>false) n=0:=by
 symm;apply Ik;intro j;simp
theorem mask_eq_zero:kW p n=0↔∀ j,j<n->p j=false:=by
 constructor
 ·intro h j hj
  have:=kV p n j;rw[h]at this
  simpa[hj]using this.symm
 ·intro h
  rw[<- mask_zero n];exact kK h
theorem mask_inj{q:Nat->Bool}:kW p n=kW q n↔∀ j,j<n->p j=q j:=by
 constructor
 ·intro h j hj
  have h1:=kV p n j;have h2:=kV q n j;rw[h]at h1;rw[h1]at h2
  simpa[hj]using h2
 ·exact kK
theorem RZ(x j:Nat):decide (((x>>>j)&&&1)=1)=x.testBit j:=by
 rw[Nat.testBit_eq_decide_div_mod_eq,Nat.shiftRight_eq_div_pow,Nat.and_one_is_mod]
theorem IQ(hn:n<=60)(h0:kW p n≠0):Lib.ctz 64 (kW p n)<n/\p (Lib.ctz 64 (kW p n))=true/\∀ j,j<Lib.ctz 64 (kW p n)->p j=false:=by
 have hlt:kW p n<2^64:=by
  have h1:=XV p hn;have h2:(2:Nat)^64=18446744073709551616:=by decide
  omega
 obtain⟨m,hm,hk⟩:=Lib.ctzFrom_spec 64 (kW p n) oG hlt;have e:Lib.ctz 64 (kW p n)=Lib.ctzFrom 64 (kW p n):=by simp[Lib.ctz,h0]
 rw[e]
 generalize hc:Lib.ctzFrom 64 (kW p n)=c at *
 have hb:∀ j,(kW p n).testBit j=(decide (c<=j)&&(2*m+1).testBit (j-c)):=by
  intro j;rw[hm,Nat.mul_comm,Nat.testBit_mul_two_pow]
 have a1:(kW p n).testBit c=true:=by rw[hb];simp
 rw[kV]at a1;simp only[Bool.and_eq_true,decide_eq_true_eq]at a1;refine⟨a1.1,a1.2,fun j hj=>?_⟩;have:=hb j;rw[kV]at this;have hcj:¬c<=j:=by omega
 simp only[hcj,decide_false,Bool.false_and]at this;have hjn:j<n:=by omega
 simpa[hjn]using this
def TabIn(w:World):Prop:=2<w.heap.size/\∀ k,k<64->w.cell? ⟨2,0+k*1,none⟩=some (.int .u8 ((Lib.deBruijn64tab.getD k 0:Nat):Int))
theorem TabIn.mono(h:TabIn w)(hb:Bel w w'):TabIn w':=⟨nLL h.1 hb.size,fun k hk=>hb.cell h.1 (h.2 k hk)⟩
theorem ctz_eq(h0:x≠0)(hx:x<18446744073709551616)(hc:18446744073709551616-x=c):x&&&c=2^Lib.ctz 64 x/\Lib.ctz 64 x<64:=by
 subst hc
 exact Lib.lowest_bit 64 x h0 (by
  have:(2:Nat)^64=18446744073709551616 := by decide
  omega)
def tzI(x:Nat):Nat:=((x&&&(18446744073709551616-x))*285870213051353865%18446744073709551616)>>>58
theorem tzI_spec(h0:x≠0)(hx:x<18446744073709551616):tzI x<64/\Lib.deBruijn64tab.getD (tzI x) 0=Lib.ctz 64 x:=by
 have h:=ctz_eq h0 hx rfl;have h2:=Lib.deBruijn64_at (Lib.ctz 64 x) h.2;unfold tzI;rw[h.1,Nat.shiftRight_eq_div_pow];exact h2
def upN(l:List Ty)(i:Nat):Nat:=kW (fun j=>sub l i j) l.length
def Q8(l:List Ty)(j:Nat):Nat:=kW (fun i=>sub l i j) l.length
def rU(n:Nat)(g:Nat->Nat):Array Value:=row n (fun i=> .int .u64 (g i))
def TableIn(w:World)(l:List Ty)(bu bd:Nat):Prop:=Blk w bu 103 (rU l.length (upN l))/\Blk w bd 103 (rU l.length (Q8 l))
theorem Blk.bel{t:TypeId}{cs:Array Value}(h:Blk w b t cs)(hb:Bel w w'):Blk w' b t cs:=(hb.block b h.lt).trans h
theorem TableIn.mono(h:TableIn w l bu bd)(hb:Bel w w'):TableIn w' l bu bd:=⟨h.1.bel hb,h.2.bel hb⟩
theorem TableIn.up(h:TableIn w l bu bd)(hi:i<l.length):w.cell? ⟨bu,0+i*1,none⟩=some (.int .u64 (upN l i)):=h.1.cell (j5 hi)
theorem TableIn.down(h:TableIn w l bu bd)(hi:i<l.length):w.cell? ⟨bd,0+i*1,none⟩=some (.int .u64 (Q8 l i)):=h.2.cell (j5 hi)
theorem upN_lt(h:l.length<=60)(i:Nat):upN l i<18446744073709551616:=XV _ h
theorem downN_lt(h:l.length<=60)(i:Nat):Q8 l i<18446744073709551616:=XV _ h
def tabV(n bu bd:Nat):Value:= .agg #[.slice (some ⟨bu,0,none⟩) n n,.slice (some ⟨bd,0,none⟩) n n]
def jV(l:List Ty)(a b:Nat)(i:Nat):Bool:=sub l i a&&sub l i b
def vK(l:List Ty)(a b:Nat):Nat:=kW (jV l a b) l.length
theorem comm_and(l:List Ty)(a b:Nat):Q8 l a&&&Q8 l b=vK l a b:=mask_and _ _ _
def meet(l:List Ty)(a b:Nat):Nat×Bool×Bool:=
 if vK l a b=0 then (0,false,false)
 else if Q8 l (Lib.ctz 64 (vK l a b))≠vK l a b then (0,false,true)
 else (Lib.ctz 64 (vK l a b),true,false)
def meetV(r:Nat×Bool×Bool):Value:= .tuple #[.int .i64 r.1,.bool r.2.1,.bool r.2.2]
theorem BX{m:Nat}{p q:Bool}{r:Nat×Bool×Bool}(h:r=(m,p,q)):Ending.returned (.tuple #[.int .i64 (m:Int),.bool p,.bool q])= .returned (meetV r):=by rw[h];rfl
theorem sz103:(prog.info? 103).map (·.size)=some 1:=by kernel_rfl
theorem sz5_Meet:(prog.info? 5).map (·.size)=some 1:=by kernel_rfl
theorem tz_any(x:Nat)(w:World)(h0:x≠0)(hx:x<18446744073709551616)(a1:TabIn w):Calls prog 111 #[.int .u64 x] w fun e w'=>e= .returned (.int .i64 (Lib.ctz 64 x:Nat))/\w=w':=by
 have hz:=tzI_spec h0 hx;have hgd:=a1.2 (tzI x) hz.1;rw[hz.2]at hgd;refine enter func111 ntmps111 rfl (aA rfl) (yZ ?_);refine zZ rfl (fun c4=>?_) (fun c4=>?_)
 ·exact absurd c4 oG
 refine zn6 ?_;refine wl (r_negU rfl oG hx rfl) (wl (N5 (b:=18446744073709551616-x) rfl rfl hx oG) (wl (r_mulU (b:=285870213051353865) rfl rfl rfl) (wl (r_shr (b:=58) rfl rfl dE rfl) (wl (BW (i:=tzI x) underlying189 sz5_Meet rfl rfl hz.1 rfl) (wl (qj (v:= .int _ _) U5 rfl rfl hgd) (wl (S5 U5 U3 rfl (by have:=(ctz_eq h0 hx rfl).2;omega)) (zn5 ?_)))))));exact⟨rfl,rfl⟩
theorem meet_any(l:List Ty)(bu bd a b:Nat)(w:World)(a4:TabIn w)(hI:TableIn w l bu bd)(_hv:VT l)(a2:l.length<=60)(ha:a<l.length)(hb:b<l.length):Calls prog 88 #[tabV l.length bu bd,.int .i64 a,.int .i64 b] w fun e w'=>e= .returned (meetV (meet l a b))/\Bel w w':=by
 have hca:=downN_lt a2 a;have hcb:=downN_lt a2 b;have hcc:vK l a b<18446744073709551616:=XV _ a2;refine enT func88 ntmps88 rfl rfl fun hB=>?_;refine zn2 ?_;refine qv (cs:=#[_,_]) rfl (fun b3 w1 hb3 s1 hr=>?_);refine zn6 ?_;refine oJ kR kR (fun w2 s2=>?_);refine zn4 ?_;refine ws (qj (v:= .int _ _) KX rfl rfl ((hI.mono hB.u).down ha)) (zn4 ?_);refine ws (qj (v:= .int _ _) KX rfl rfl ((hI.mono hB.u).down hb)) (ws (N5 rfl rfl hca hcb) (ws (oz (v:= .int .u64 (vK l a b:Nat)) (congrArg (fun z:Nat=>Value.int .u64 (z:Int)) (comm_and l a b))) (uz (zn8 ?_))));refine zZ rfl (fun c22=>?_) (fun c22=>?_)
 ·have hz0:vK l a b=0:=by omega
  refine zn9 ?_;refine fin3 (.inl rfl) rfl rfl rfl rfl ?_;replace hB:=hB.tr0 (s1.t s2);exact⟨BX (by simp only[meet,if_pos hz0]),hB⟩
 have a1:vK l a b≠0:=fun h=>c22 (by rw[h];rfl)
 have hz:=IQ a2 a1;refine zn5 ?_;refine zW kR (tz_any _ _ a1 hcc (a4.mono hB.u)) rfl (fun e' w3 hr=>?_);obtain⟨rfl,rfl⟩:=hr;refine⟨_,rfl,?_⟩;refine zn9 ?_;refine wl (x7 (i:=Lib.ctz 64 (vK l a b)) U76 sz103 rfl rfl hz.1 rfl) (wl (qj (v:= .int _ _) KX rfl rfl ((hI.mono hB.u).down hz.1)) (zn4 ?_));refine zZ rfl (fun c31=>?_) (fun c31=>?_)
 ·have a3:Q8 l (Lib.ctz 64 (vK l a b))≠vK l a b:=by omega
  refine zn9 ?_;refine fin3 (.inl rfl) rfl rfl rfl rfl ?_;replace hB:=hB.tr0 (s1.t s2);exact⟨BX (by simp only[meet,if_neg a1,if_pos a3]),hB⟩
 have heq:Q8 l (Lib.ctz 64 (vK l a b))=vK l a b:=by omega
 refine vJ ?_;refine fin3 (.inl rfl) rfl rfl rfl rfl ?_;replace hB:=hB.tr0 (s1.t s2);exact⟨BX (by simp only[meet,if_neg a1,heq,ne_eq,not_true_eq_false,if_false]),hB⟩
theorem LK(l:List Ty)(bu bd a b:Nat)(w:World)(hI:TableIn w l bu bd)(h60:l.length<=60)(ha:a<l.length)(hb:b<l.length):Calls prog 72 #[tabV l.length bu bd,.int .i64 a,.int .i64 b] w fun e w'=>e= .returned (.bool (sub l a b))/\Bel w w':=by
 have hca:=upN_lt h60 a;refine enT func72 ntmps72 rfl rfl fun hB=>?_;refine zn2 ?_;refine qv (cs:=#[_,_]) rfl (fun b3 w1 hb3 s1 hr=>?_);refine zn9 ?_;refine wl (qj (v:= .int _ _) KX rfl rfl ((hI.mono hB.u).up ha)) (wmI rfl (wl (r_shr (b:=b) rfl rfl oG rfl) (wl (N5 (b:=1) rfl rfl (Nat.lt_of_le_of_lt (Nat.shiftRight_le _ _) hca) dE) (zn6 ?_))));refine⟨jQ ?_,hB.u⟩;have h1:=RZ (upN l a) b;unfold upN at h1;rw[kV]at h1;simp only[hb,decide_true,Bool.true_and]at h1;rw[<- h1];exact am.2 (by unfold upN;omega)
def N6(l:List Ty)(k:Nat)(ps:List Int)(x:Nat):Bool:=decide (x=k)||ps.any (fun p=>sub l p.toNat x)
theorem parM_zero(hk:k<l.length):kW (N6 l k []) l.length=2^k:=by
 rw[mask_one hk];exact kK (fun j _=>by simp[N6])
theorem parM_snoc{ps:List Int}(hj:j<ps.length):kW (N6 l k (ps.take j)) l.length|||upN l (ps[j]).toNat=kW (N6 l k (ps.take (j+1))) l.length:=by
 unfold upN;rw[mask_or];refine kK (fun x _=>?_);simp only[N6];rw[List.take_succ_eq_append_getElem hj,List.any_append];simp[Bool.or_assoc]
theorem parM_end(hv:VT l)(hk:k<l.length):kW (N6 l k (l[k]).par) l.length=upN l k:=by
 unfold upN;refine kK (fun x _=>?_);rw[sub_eq hv];have e1:decide (x=k)=decide (k=x):=by simp only[eq_comm]
 simp only[N6,e1]
 congr 1
 simp only[Dw,List.getElem?_eq_getElem hk,List.any_map];rfl
def upP(l:List Ty)(k i:Nat):Nat:=if i<k then upN l i else 0
def uS(l:List Ty)(k X i:Nat):Nat:=if i=k then X else upP l k i
theorem uS_k(l:List Ty)(k X:Nat):uS l k X k=X:=by simp[uS]
theorem uS_lt{X p:Nat}(h:p<k):uS l k X p=upN l p:=by
 have:p≠k:=by omega
 simp[uS,upP,this,h]
theorem uS_end(l:List Ty)(k i:Nat):uS l k (upN l k) i=upP l (k+1) i:=by
 unfold uS upP;by_cases h:i=k
 ·subst h;simp
 ·have:(i<k+1)↔(i<k):=by omega
  simp[h,this]
def dnP(l:List Ty)(k j:Nat):Nat:=kW (fun i=>decide (i<k)&&sub l i j) l.length
theorem dnP_zero(l:List Ty)(j:Nat):dnP l 0 j=0:=mask_eq_zero.2 (fun i _=>by simp)
theorem dnP_yes(hk:k<l.length)(h:sub l k j=true):dnP l k j|||2^k=dnP l (k+1) j:=by
 unfold dnP;rw[mask_one hk,mask_or];refine kK (fun i _=>?_);by_cases e:i=k
 ·subst e;simp[h]
 ·have e1:decide (i<k+1)=decide (i<k):=am.2 oG
  simp[e,e1]
theorem dnP_no(h:sub l k j=false):dnP l k j=dnP l (k+1) j:=by
 unfold dnP;refine kK (fun i _=>?_);by_cases e:i=k
 ·subst e;simp[h]
 ·have e1:decide (i<k+1)=decide (i<k):=am.2 oG
  simp[e1]
theorem dnP_end(l:List Ty)(j:Nat):dnP l l.length j=Q8 l j:=by
 unfold dnP Q8;exact kK (fun i hi=>by simp[hi])
theorem upP_end(h:i<l.length):upP l l.length i=upN l i:=by simp[upP,h]
def dS(l:List Ty)(k j x:Nat):Nat:=if x<j then dnP l (k+1) x else dnP l k x
theorem dS_j(l:List Ty)(k j:Nat):dS l k j j=dnP l k j:=by simp[dS]
theorem dS_yes(hk:k<l.length)(h:sub l k j=true)(x:Nat):(if x=j then dS l k j j|||2^k else dS l k j x)=dS l k (j+1) x:=by
 by_cases e:x=j
 ·subst e;simp only[if_true,dS_j,dnP_yes hk h];simp[dS]
 ·have e1:(x<j+1)↔(x<j):=by omega
  simp[e,dS,e1]
theorem dS_no(h:sub l k j=false)(x:Nat):dS l k j x=dS l k (j+1) x:=by
 by_cases e:x=j
 ·subst e;rw[dS_j,dnP_no h];simp[dS]
 ·have e1:(x<j+1)↔(x<j):=by omega
  simp[dS,e1]
theorem dS_lt(h:l.length<=60)(k j x:Nat):dS l k j x<18446744073709551616:=by
 unfold dS dnP;split<;>exact XV _ h
theorem uS_bd(h:l.length<=60){X:Nat}(hX:X<18446744073709551616):uS l k X x<18446744073709551616:=by
 unfold uS upP;split
 ·exact hX
 ·split
  ·exact upN_lt h _
  ·decide
theorem I9{g:Nat->Nat}{f:Nat->Nat}(h:∀ j,j<n->g j=f j):row n (fun j=>Value.int .u64 ((g j:Nat):Int))=row n (fun j=>Value.int .u64 ((f j:Nat):Int)):=xy (fun j hj=>by rw[h j hj])
theorem row_ui{g:Nat->Nat}:row n (fun j=>if j=k then Value.int .u64 (c:Int)else Value.int .u64 ((g j:Nat):Int))=row n (fun j=>Value.int .u64 ((if j=k then c else g j:Nat):Int)):=xy (fun j _=>by split<;>rfl)
theorem in103:(prog.info? 103).map (fun i=>(i.zero,i.size,i.bytes))=some (some (.int .u64 0),1,8):=by kernel_rfl
theorem W8:(prog.info? 102).map (·.size)=some 2:=by kernel_rfl
theorem sz78:(prog.info? 78).map (·.size)=some 2:=by kernel_rfl
theorem FQ:(prog.info? 102).map (·.zero)=some (some (.agg #[.string ⟨#[]⟩,.slice none 0 0])):=by kernel_rfl
theorem ze78:(prog.info? 78).map (·.zero)=some (some (.agg #[.slice none 0 0,.slice none 0 0])):=by kernel_rfl
theorem N0(A:Option Addr)(c:Nat)(l:List Ty)(w:World)(hT:TypesIn w A l)(hv:VT l)(bb:l.length<=60):Calls prog 25 #[.slice A l.length c] w fun e w'=>∃ bu bd,e= .returned (tabV l.length bu bd)/\TableIn w' l bu bd/\Bel w w':=by
 refine enT func25 ntmps25 rfl rfl fun hB=>?_;refine zn2 ?_;refine qQ (cs:=#[.slice none 0 0,.slice none 0 0]) ze78 rfl (fun b2 w1 a9 s1 hr=>?_);have lo2:=hB.ob hr;refine zn3 ?_;have z2:=a9.lt;replace hB:=hB.tr0 s1;have hsz:=Bel.size hB;refine uX 8 [9,10,11,12,13,14,15,3] (fun ix=>Nat.beq ix 2||Nat.beq ix 5||Nat.beq ix 7) (fun ix v wv=>match ix with|0=>v= .slice A l.length c|1=>v= .int .i64 l.length|2=>∃ bu,v= .slice (some ⟨bu,0,none⟩) l.length l.length/\w1.heap.size<=bu/\Blk wv bu 103 (row l.length (fun _=> .int .u64 0))|3=>v= .slice A l.length c|4=>v= .int .i64 l.length|5=>∃ bd,v= .slice (some ⟨bd,0,none⟩) l.length l.length/\w1.heap.size<=bd/\Blk wv bd 103 (row l.length (fun _=> .int .u64 0))|6=>∃ bu bd,v= .agg #[.slice (some ⟨bu,0,none⟩) l.length l.length,.slice (some ⟨bd,0,none⟩) l.length l.length]/\w1.heap.size<=bu/\Blk wv bu 103 (row l.length (fun _=> .int .u64 0))/\w1.heap.size<=bd/\Blk wv bd 103 (row l.length (fun _=> .int .u64 0))/\bu≠bd|7=>∃ b,v= .pointer (some ⟨b,0,none⟩)/\w1.heap.size<=b/\Blk wv b 78 #[.slice none 0 0,.slice none 0 0]|_=>True) kR kR ?_ ?_ ?_
 ·intro ix v wv wv2 h s2
  match ix,h with
  | 0,h=>exact h
  | 1,h=>exact h
  | 2,h=>
   obtain⟨bu,bg,a5,a1⟩:=(show ∃ bu,v= .slice (some ⟨bu,0,none⟩) l.length l.length/\w1.heap.size<=bu/\Blk wv bu 103 (row l.length (fun _=> .int .u64 0))from h)
   exact⟨bu,bg,a5,a1.tr0 s2⟩
  | 3,h=>exact h
  | 4,h=>exact h
  | 5,h=>
   obtain⟨bd,bf,a8,a2⟩:=(show ∃ bd,v= .slice (some ⟨bd,0,none⟩) l.length l.length/\w1.heap.size<=bd/\Blk wv bd 103 (row l.length (fun _=> .int .u64 0))from h)
   exact⟨bd,bf,a8,a2.tr0 s2⟩
  | 6,h=>
   obtain⟨bu,bd,bo,a5,a1,a8,a2,be⟩:=(show ∃ bu bd,v= .agg #[.slice (some ⟨bu,0,none⟩) l.length l.length,.slice (some ⟨bd,0,none⟩) l.length l.length]/\w1.heap.size<=bu/\Blk wv bu 103 (row l.length (fun _=> .int .u64 0))/\w1.heap.size<=bd/\Blk wv bd 103 (row l.length (fun _=> .int .u64 0))/\bu≠bd from h)
   exact⟨bu,bd,bo,a5,a1.tr0 s2,a8,a2.tr0 s2,be⟩
  | 7,h=>
   obtain⟨b3,e3,b4,a4⟩:=(show ∃ b,v= .pointer (some ⟨b,0,none⟩)/\w1.heap.size<=b/\Blk wv b 78 #[.slice none 0 0,.slice none 0 0]from h)
   exact⟨b3,e3,b4,a4.tr0 s2⟩
  | _+8,h=>exact trivial
 ·intro ix o hix hoq gg wx s3 hd b8
  match ix,hix,hoq with
  | 0,_,hoq=>
   cases sI hoq;exact oVq (x6 (v:= .slice _ _ _) rfl) rfl
  | 1,_,hoq=>
   cases sI hoq;have d0:gg 9= .slice A l.length c:=hd 0 (zj kR);have e9:=d0;refine zq 9 _ e9 nu ?_;exact oVq (D4 U22 rfl) rfl
  | 2,_,hoq=>
   cases sI hoq;have b6:=s3;have d1:gg 10= .int .i64 l.length:=hd 1 (zj kR);have e10:=d1;refine zq 10 _ e10 nu ?_;refine jq (fun ops Q K=>?_);refine Y5 U76 in103 rfl rfl rfl oG oG (fun b11 w2 ba s4 hr=>?_);exact K _ _ ⟨s4,⟨_,rfl,nLT b6.size hr,ba⟩,fRq hr ba.lt⟩
  | 3,_,hoq=>
   cases sI hoq;exact oVq (x6 (v:= .slice _ _ _) rfl) rfl
  | 4,_,hoq=>
   cases sI hoq;have d3:gg 12= .slice A l.length c:=hd 3 (zj kR);have e12:=d3;refine zq 12 _ e12 nu ?_;exact oVq (D4 U22 rfl) rfl
  | 5,_,hoq=>
   cases sI hoq;have b6:=s3;have d4:gg 13= .int .i64 l.length:=hd 4 (zj kR);have e13:=d4;refine zq 13 _ e13 nu ?_;refine jq (fun ops Q K=>?_);refine Y5 U76 in103 rfl rfl rfl oG oG (fun b14 w3 b9 s5 hr=>?_);exact K _ _ ⟨s5,⟨_,rfl,nLT b6.size hr,b9⟩,fRq hr b9.lt⟩
  | 6,_,hoq=>
   cases sI hoq;have d2:∃ bu,gg 11= .slice (some ⟨bu,0,none⟩) l.length l.length/\w1.heap.size<=bu/\Blk wx bu 103 (row l.length (fun _=> .int .u64 0)):=hd 2 (zj kR);obtain⟨bu,bg,a5,a1⟩:=d2;have d5:∃ bd,gg 14= .slice (some ⟨bd,0,none⟩) l.length l.length/\w1.heap.size<=bd/\Blk wx bd 103 (row l.length (fun _=> .int .u64 0)):=hd 5 (zj kR);obtain⟨bd,bf,a8,a2⟩:=d5;have be:bu≠bd:=fun h=>b8 2 5 bu (zj kR) (zj kR) dE rfl rfl (show ky (gg 11)=some bu by rw[bg];rfl) (show ky (gg 14)=some bu by rw[bf,h];rfl)
   refine zq 11 _ bg nu (zq 14 _ bf nu ?_);exact oVq (Q5 (v0:= .slice _ _ _) (v1:= .slice _ _ _) (fun v0 v1=>#[v0,v1]) rfl rfl kR) ⟨_,_,rfl,a5,a1,a8,a2,be⟩
  | 7,_,hoq=>
   cases sI hoq;have b6:=s3;refine jq (fun ops Q K=>?_);refine qQ (cs:=#[.slice none 0 0,.slice none 0 0]) ze78 rfl (fun b3 w4 a4 s6 hr=>?_);exact K _ _ ⟨s6,⟨_,rfl,nLT b6.size hr,a4⟩,fRq hr a4.lt⟩
  | _+8,hix,_=>exact absurd hix oG
 intro gg w5 s7 hR b8;have d6:∃ bu bd,gg 15= .agg #[.slice (some ⟨bu,0,none⟩) l.length l.length,.slice (some ⟨bd,0,none⟩) l.length l.length]/\w1.heap.size<=bu/\Blk w5 bu 103 (row l.length (fun _=> .int .u64 0))/\w1.heap.size<=bd/\Blk w5 bd 103 (row l.length (fun _=> .int .u64 0))/\bu≠bd:=hR 6 dE;obtain⟨bu,bd,bo,a5,a1,a8,a2,be⟩:=d6;have d7:∃ b,gg 3= .pointer (some ⟨b,0,none⟩)/\w1.heap.size<=b/\Blk w5 b 78 #[.slice none 0 0,.slice none 0 0]:=hR 7 dE;obtain⟨b3,e3,b4,a4⟩:=d7;have h3u:b3≠bu:=fun h=>absurd (jz (h ▸ a4) a1) dE
 have h3d:b3≠bd:=fun h=>absurd (jz (h ▸ a4) a2) dE
 have bj:b2<b3:=nLL z2 b4;have bh:b2<bu:=nLL z2 a5;have bi:b2<bd:=nLL z2 a8;replace b4:=nLT hsz b4;replace a5:=nLT hsz a5;replace a8:=nLT hsz a8;refine x8 15 _ bo nu (x8 3 _ e3 nu ?_);refine zV a4 (fun w6 hq s8=>?_);replace a4:=hq;refine vJ ?_;replace a1:=a1.tr1 s8 oG;replace a2:=a2.tr1 s8 oG;refine qz (rg [4,5,7,8] 18 56) (fun m g w'=>∃(k:Nat),k<=l.length/\m=l.length-k/\g 18= .int .i64 k/\Bel w w'/\Blk w' b2 78 #[.slice none 0 0,.slice none 0 0]/\Blk w' b3 78 #[.slice (some ⟨bu,0,none⟩) l.length l.length,.slice (some ⟨bd,0,none⟩) l.length l.length]/\Blk w' bu 103 (row l.length (fun i=> .int .u64 ((upP l k i:Nat):Int)))/\Blk w' bd 103 (row l.length (fun i=> .int .u64 ((dnP l k i:Nat):Int)))) (l.length) ?_ (fun m g3 w7 hI=>?_)
 ·refine⟨0,ah _,rfl,rfl,hB.u,a9.u,a4,?_,?_⟩
  · rw[I9 (f:=fun _=>0) (fun j _=>by simp[upP])];exact a1
  · rw[I9 (f:=fun _=>0) (fun j _=>dnP_zero l j)];exact a2
 obtain⟨k,hk,hm,h18,hB,a9,a4,a1,a2⟩:=hI;refine zQ 18 _ h18 nu (zn6 ?_);refine zZ rfl (fun c19=>?_) (fun c19=>?_)
 ·have a3:k<l.length:=by omega
  obtain⟨tb,to,A',cp,rfl,htb,htr,b7⟩:=hT.at_ hB a3;have hmx:=b7.1;unfold vX at hmx;refine zn8 ?_;refine wl (qw L9 rfl rfl htr W8) ?_;refine qQ (cs:=#[.string ⟨#[]⟩,.slice none 0 0]) FQ rfl (fun b5 w8 ac s9 hr=>?_);have:=a9.ob hr;have:=a1.ob hr;have:=a2.ob hr;have:=a4.ob hr;have lo5:=hB.ob hr;refine waI rfl ?_;refine zV ac (fun w9 hq b1=>?_);replace ac:=hq;refine zn3 ?_;refine Qz 6 kR kR (fun w10 ad=>?_);refine zn4 ?_;refine ws (r_shl1 rfl rfl oG rfl) (zn1 ?_);refine Q4 ?_;replace a1:=((a1.tr0 s9).tr1 b1 oG).tr0 ad;refine xx (v:= .int _ _) a1 rfl rfl sz103 (by rw[row_size];omega) rfl kv (fun w11 hq ao=>?_);replace a1:=hq;replace hB:=(((hB.tr0 s9).tr1 b1 lo5).tr0 ad).tr1 ao a5;replace a9:=(((a9.tr0 s9).tr1 b1 oG).tr0 ad).tr1 ao oG;replace a2:=(((a2.tr0 s9).tr1 b1 oG).tr0 ad).tr1 ao oG;replace a4:=(((a4.tr0 s9).tr1 b1 oG).tr0 ad).tr1 ao oG;replace ac:=(ac.tr0 ad).tr1 ao oG;replace a1:Blk w11 bu 103 (row l.length (fun i=> .int .u64 ((uS l k (kW (N6 l k ((l[k]'a3).par.take 0)) l.length) i:Nat):Int))):=by
    rw[row_ui (g:=fun i=>upP l k i)]at a1;rw[I9 (f:=fun i=>if i=k then 2^k else upP l k i) (fun j _=>by rw[List.take_zero,parM_zero a3];rfl)];exact a1
  refine yZ ?_;refine qz (rg [7] 32 17) (fun m g w'=>∃(j:Nat),j<=(l[k]'a3).par.length/\m=(l[k]'a3).par.length-j/\g 32= .int .i64 j/\Bel w w'/\Blk w' b2 78 #[.slice none 0 0,.slice none 0 0]/\Blk w' b3 78 #[.slice (some ⟨bu,0,none⟩) l.length l.length,.slice (some ⟨bd,0,none⟩) l.length l.length]/\Blk w' bu 103 (row l.length (fun i=> .int .u64 ((uS l k (kW (N6 l k ((l[k]'a3).par.take j)) l.length) i:Nat):Int)))/\Blk w' bd 103 (row l.length (fun i=> .int .u64 ((dnP l k i:Nat):Int)))/\Blk w' b5 102 #[.string (l[k]'a3).name,.slice A' (l[k]'a3).par.length cp]) ((l[k]'a3).par.length) ?_ (fun m g7 w12 hI=>?_)
  ·exact⟨0,ah _,rfl,rfl,hB,a9,a4,a1,a2,ac⟩
  obtain⟨j,hj,hmj,h32,hB,a9,a4,a1,a2,ac⟩:=hI;refine zQ 32 _ h32 nu (zn6 ?_);refine zZ rfl (fun c33=>?_) (fun c33=>?_)
  ·have an:j<(l[k]'a3).par.length:=by omega
   obtain⟨pb,po,rfl,hpb,bc⟩:=b7.at_ an;replace bc:=hB.cell hpb bc;have hpr:=hv k a3 _ (aq an);obtain⟨pn,hpn⟩:∃ pn:Nat,pn=((l[k]'a3).par[j]).toNat:=⟨_,rfl⟩
   have hpi:(l[k]'a3).par[j]=(pn:Int):=by rw[hpn];exact(Int.toNat_of_nonneg hpr.1).symm
   rw[hpi]at bc hpr;have hXl:=XV (N6 l k ((l[k]'a3).par.take j)) bb;refine zn7 ?_;refine wl (qj (v:= .int _ _) U3 rfl rfl bc) (zn3 ?_);refine Qz 12 kR kR (fun w13 s13=>?_);refine zn4 ?_;replace a1:=a1.tr0 s13;refine ws (qj (v:= .int _ _) KX rfl rfl (a1.cell (j5 a3))) (zn4 ?_);refine ws (qj (v:= .int _ _) KX rfl rfl (a1.cell (j5 oG))) (ws (J1 rfl rfl (uS_bd bb hXl) (uS_bd bb hXl)) (zn1 ?_));refine Q4 ?_;refine xx (v:= .int _ _) a1 rfl rfl sz103 (by rw[row_size];omega) rfl kv (fun w14 hq s14=>?_);replace a1:=hq;replace a1:Blk w14 bu 103 (row l.length (fun i=> .int .u64 ((uS l k (kW (N6 l k ((l[k]'a3).par.take (j+1))) l.length) i:Nat):Int))):=by
     rw[row_ui (g:=fun i=>uS l k (kW (N6 l k ((l[k]'a3).par.take j)) l.length) i)]at a1
     rw[I9 (f:=fun i=>if i=k then uS l k (kW (N6 l k ((l[k]'a3).par.take j)) l.length) k|||uS l k (kW (N6 l k ((l[k]'a3).par.take j)) l.length) pn else uS l k (kW (N6 l k ((l[k]'a3).par.take j)) l.length) i) (fun i _=>by
       rw[uS_k,uS_lt (show pn<k by omega),hpn,parM_snoc an];by_cases e:i=k
       · simp[e,uS_k]
       · simp[e,uS])]
     exact a1
   refine zn7 ?_;refine x9 ((l[k]'a3).par.length-(j+1)) oG agA ?_;replace a2:=(a2.tr0 s13).tr1 s14 oG;exact⟨j+1,by omega,rfl,rfl,hB.u,a9.u,a4.u,a1,a2,ac.u⟩
  have bn:j=(l[k]'a3).par.length:=by omega
  rw[bn,List.take_length,parM_end hv a3,I9 (f:=fun i=>upP l (k+1) i) (fun i _=>uS_end l k i)]at a1;refine uJ ?_;refine qz (rg [8] 51 22) (fun m g w'=>∃(j:Nat),j<=l.length/\m=l.length-j/\g 51= .int .i64 j/\Bel w w'/\Blk w' b2 78 #[.slice none 0 0,.slice none 0 0]/\Blk w' b3 78 #[.slice (some ⟨bu,0,none⟩) l.length l.length,.slice (some ⟨bd,0,none⟩) l.length l.length]/\Blk w' bu 103 (row l.length (fun i=> .int .u64 ((upP l (k+1) i:Nat):Int)))/\Blk w' bd 103 (row l.length (fun i=> .int .u64 ((dS l k j i:Nat):Int)))) (l.length) ?_ (fun m g12 w15 hI=>?_)
  ·refine⟨0,ah _,rfl,rfl,hB,a9,a4,a1,?_⟩;rw[I9 (f:=fun i=>dnP l k i) (fun i _=>by simp[dS])];exact a2
  obtain⟨j,hj,hmj,h51,hB,a9,a4,a1,a2⟩:=hI;refine zQ 51 _ h51 nu (zn6 ?_);refine zZ rfl (fun c52=>?_) (fun c52=>?_)
  ·have an:j<l.length:=by omega
   have bk:upP l (k+1) k=upN l k:=by simp[upP]
   have huv:=upN_lt bb k;have ab:=RZ (upN l k) j;have hbt:(upN l k).testBit j=sub l k j:=by unfold upN;rw[kV];simp[an]
   rw[hbt]at ab;refine Jq ?_;refine wl (qj (v:= .int _ _) KX rfl rfl (a1.cell (j5 a3))) (wmI rfl (wl (r_shr (b:=j) rfl rfl oG rfl) (wl (N5 (b:=1) rfl rfl (by rw[bk];exact Nat.lt_of_le_of_lt (Nat.shiftRight_le _ _) huv) dE) (zn3 ?_))));refine zZ rfl (fun bq=>?_) (fun bq=>?_)
   ·have bm:sub l k j=true:=by rw[<- ab];exact aj (by rw[bk]at bq;omega)
    refine Qz 9 kR kR (fun w16 s15=>?_);refine zn4 ?_;replace a2:=a2.tr0 s15;refine ws (qj (v:= .int _ _) KX rfl rfl (a2.cell (j5 an))) (zn1 ?_);refine ws (r_shl1 rfl rfl oG rfl) (ws (J1 rfl rfl (dS_lt bb _ _ _) (nLL (Nat.pow_lt_pow_right dE (show k<60 by omega)) dE)) (zn1 ?_));refine Q4 ?_;refine xx (v:= .int _ _) a2 rfl rfl sz103 (by rw[row_size];omega) rfl kv (fun w17 hq s16=>?_);replace a2:=hq;rw[row_ui (g:=fun i=>dS l k j i),I9 (f:=fun i=>dS l k (j+1) i) (fun i _=>dS_yes a3 bm i)]at a2;refine zn7 ?_;refine x9 (l.length-(j+1)) oG agA ?_;replace a1:=(a1.tr0 s15).tr1 s16 oG;exact⟨j+1,by omega,rfl,rfl,hB.u,a9.u,a4.u,a1,a2⟩
   have bm:sub l k j=false:=by rw[<- ab];exact ap (by rw[bk]at bq;omega)
   rw[I9 (f:=fun i=>dS l k (j+1) i) (fun i _=>dS_no bm i)]at a2;refine zn7 ?_;refine x9 (l.length-(j+1)) oG agA ?_;exact⟨j+1,by omega,rfl,rfl,hB,a9,a4,a1,a2⟩
  have bn:j=l.length:=by omega
  rw[bn,I9 (f:=fun i=>dnP l (k+1) i) (fun i hi=>by simp[dS,hi])]at a2;refine yj ?_;refine x9 (l.length-(k+1)) oG agA ?_;exact⟨k+1,by omega,rfl,rfl,hB,a9,a4,a1,a2⟩
 have hkl:k=l.length:=by omega
 subst hkl;refine zn8 ?_;refine zV a9 (fun w18 hq s17=>?_);replace a9:=hq;refine zn3 ?_;refine xK (.inl rfl) rfl (zX U78 rfl rfl a9.range0 sz78) ?_;refine⟨bu,bd,rfl,⟨?_,?_⟩,hB.u⟩;replace a1:=a1.tr1 s17 oG
 · rw[I9 (f:=upN l) (fun i hi=>upP_end hi)]at a1;exact a1
 replace a2:=a2.tr1 s17 oG
 · rw[I9 (f:=Q8 l) (fun i _=>dnP_end l i)]at a2;exact a2
theorem D5{i:Int}:∀ {ps:List Int} {a1:Int},kj i a1 ps=0->∀ p∈ps,0<=p/\p<i
 | [],_,_,p,hp=>by cases hp
 | q::ps,a1,h,p,hp=>by
  unfold kj at h
  by_cases h1:q<0\/i<=q
  ·rw[if_pos h1]at h;cases h
  rw[if_neg h1]at h
  by_cases h2:q<=a1
  ·rw[if_pos h2]at h;cases h
  rw[if_neg h2]at h
  rcases av.1 hp with rfl|hp
  ·omega
  ·exact D5 h p hp
theorem tyFault_ok(hk:k<l.length)(h:j6 l k=0):vY (l[k]).name=true/\seen ((l.take k).map (·.name)) (l[k]).name=false/\(decide (k=0)==(l[k]).par.isEmpty)=true/\kj k (-1) (l[k]).par=0:=by
 cases h1:vY (l[k]).name with
 | false=>rw[ty10 l k hk h1]at h;cases h
 | true=>
  cases h2:seen ((l.take k).map (·.name)) (l[k]).name with
  | true=>rw[ty7 l k hk h1 h2]at h;cases h
  | false=>
   cases h3:(decide (k=0)==(l[k]).par.isEmpty)with
   | false=>rw[ty5 l k hk h1 h2 h3]at h;cases h
   | true=>
    rw[FW l k hk h1 h2 h3,List.drop_zero]at h;exact⟨rfl,rfl,rfl,h⟩
theorem uY{f:Nat->Int}:∀ {m i:Nat},(yX f i m).1=0->∀ j,i<=j->j<i+m->f j=0
 | 0,i,_,j,h1,h2=>by omega
 | m+1,i,h,j,h1,h2=>by
  unfold yX at h
  by_cases h3:f i≠0
  ·rw[if_pos h3]at h;exact absurd h h3
  rw[if_neg h3]at h
  by_cases e:j=i
  ·subst e;exact ak.1 h3
  ·exact uY h j oG oG
theorem OJ(h:(xk l).1=0):¬(l.length=0\/60<l.length):=by
 intro hb;simp only[xk,if_pos hb]at h;cases h
theorem types_ok(h:(xk l).1=0)(hk:k<l.length):j6 l k=0:=by
 have hb:=OJ h;simp only[xk,if_neg hb]at h;exact uY h k (ah _) oG
theorem vt_of(h:(xk l).1=0):VT l:=fun _ hi p hp=>D5 (tyFault_ok hi (types_ok h hi)).2.2.2 p hp
def Dv(l:List Ty)(b:Nat):Int:=if (List.range b).any (fun a=>(meet l a b).2.2)then 16 else 0
theorem CQ(h:a<b)(hm:(meet l a b).2.2=true):Dv l b=16:=by
 unfold Dv;rw[if_pos (List.any_eq_true.2 ⟨a,List.mem_range.2 h,hm⟩)]
theorem unmF_no(h:∀ a,a<b->(meet l a b).2.2=false):Dv l b=0:=by
 unfold Dv;rw[if_neg];intro hc;obtain⟨a,ha,hm⟩:=List.any_eq_true.1 hc;rw[h a (List.mem_range.1 ha)]at hm;cases hm
def F7(n:Nat)(t:Ft):Prop:=t.of<0\/(n:Int)<=t.of\/t.val<0\/(n:Int)<=t.val
instance(n:Nat)(t:Ft):Decidable (F7 n t):=by unfold F7;infer_instance
def Zj(n:Nat)(fs:List Ft)(i:Nat):Int:=match fs[i]? with
 | none=>0
 | some t=>if vY t.name=false then 10 else if seen ((fs.take i).map (·.name)) t.name=true then 7 else if F7 n t then 3 else 0
theorem ft10(n:Nat)(l:List Ft)(k:Nat)(hlt:k<l.length)(h1:vY l[k].name=false):Zj n l k=10:=by
 simp only[Zj,List.getElem?_eq_getElem hlt,h1,if_true]
theorem ft7(n:Nat)(l:List Ft)(k:Nat)(hlt:k<l.length)(h1:vY l[k].name=true)(h2:seen ((l.take k).map (·.name)) l[k].name=true):Zj n l k=7:=by
 simp only[Zj,List.getElem?_eq_getElem hlt,h1,h2,if_true];rfl
theorem ft3(n:Nat)(l:List Ft)(k:Nat)(hlt:k<l.length)(h1:vY l[k].name=true)(h2:seen ((l.take k).map (·.name)) l[k].name=false)(h3:F7 n l[k]):Zj n l k=3:=by
 simp only[Zj,List.getElem?_eq_getElem hlt,h1,h2,if_pos h3];rfl
theorem ft0(n:Nat)(l:List Ft)(k:Nat)(hlt:k<l.length)(h1:vY l[k].name=true)(h2:seen ((l.take k).map (·.name)) l[k].name=false)(h3:¬F7 n l[k]):Zj n l k=0:=by
 simp only[Zj,List.getElem?_eq_getElem hlt,h1,h2,if_neg h3];rfl
def Z3(l:List Ty):Fl:=yX (Dv l) 0 l.length
def qW(l:List Ty)(fs:List Ft):Fl:=
 if 40<fs.length then (2,-1)
 else if (xk l).1≠0 then xk l
 else if (Z3 l).1≠0 then Z3 l
 else yX (Zj l.length fs) 0 fs.length
theorem hf_size(h:l.length=0\/60<l.length\/40<fs.length):qW l fs=(2,-1):=by
 unfold qW;by_cases h4:40<fs.length
 ·rw[if_pos h4]
 ·have hb:l.length=0\/60<l.length:=by omega
  have ht:xk l=(2,-1):=by simp only[xk,if_pos hb]
  rw[if_neg h4,ht];rfl
theorem hf_types(h:¬40<fs.length)(ht:(xk l).1≠0):qW l fs=((xk l).1,(xk l).2):=by
 unfold qW;rw[if_neg h,if_pos ht]
theorem hf_unmet(h:¬40<fs.length)(ht:(xk l).1=0){k:Int}(hu:Z3 l=(16,k)):qW l fs=(16,k):=by
 unfold qW;rw[if_neg h,if_neg (by rw[ht];exact fun h=>h rfl),hu];rfl
theorem hf_rest(h:¬40<fs.length)(ht:(xk l).1=0)(hu:Z3 l=(0,0)):qW l fs=yX (Zj l.length fs) 0 (fs.length-0):=by
 unfold qW;rw[if_neg h,if_neg (by rw[ht];exact fun h=>h rfl),hu];rfl
theorem YZ:zw prog 86=true:=by kernel_rfl
theorem vW:(prog.info? 45).map (·.size)=some 2:=by kernel_rfl
theorem sz64:(prog.info? 64).map (·.size)=some 3:=by kernel_rfl
theorem Rz:(prog.info? 9).map (·.size)=some 1:=by kernel_rfl
theorem ze3_Valid:(prog.info? 3).map (·.zero)=some (some (.int .i64 0)):=by kernel_rfl
theorem Jx:(prog.info? 45).map (·.zero)=some (some (.agg #[.int .i64 0,.int .i64 0])):=by kernel_rfl
theorem ze64:(prog.info? 64).map (·.zero)=some (some (.agg #[.string ⟨#[]⟩,.int .i64 0,.int .i64 0])):=by kernel_rfl
theorem FK(A B:Option Addr)(c d:Nat)(l:List Ty)(fs:List Ft)(w:World)(bh:TabIn w)(hT:TypesIn w A l)(hF:FeatsIn w B fs):Calls prog 49 #[.agg #[.slice A l.length c,.slice B fs.length d]] w fun e w'=>e= .returned (flV (qW l fs))/\Bel w w':=by
 refine enT func49 ntmps49 rfl rfl fun hB=>?_;refine zn2 ?_;refine qv (cs:=#[_,_]) rfl (fun b1 w1 a4 s1 hr=>?_);refine qQ (cs:=#[.int .i64 0,.int .i64 0]) Jx rfl (fun b2 w2 a1 s2 hr=>?_);have lo2:=hB.u.ob hr;refine zn4 ?_;replace hB:=hB.tr0 (s1.t s2);refine xj (rg [] 15 16) 30 (.bool (decide (l.length=0\/60<l.length\/40<fs.length))) nu ?_ (fun gq=>?_)
 ·refine zn6 ?_;refine zk 19 rfl (fun g19=>?_) (fun g19=>?_)
  ·refine vJ ?_;exact xq
  refine yj ?_;refine zk 25 rfl (fun g25=>?_) (fun g25=>?_)
  ·refine zn5 ?_;exact xq
  refine zn9 ?_;exact xq
 refine e_S ?_;refine zZ rfl (fun c30=>?_) (fun c30=>?_)
 ·refine zn2 ?_;refine a7 YZ (uZ _ _ _) rfl (fun w3 s3=>?_);refine zV a1.u (fun w4 hq s4=>?_);replace a1:=hq;refine zn4 ?_;refine xK (.inl rfl) rfl (zX U45 rfl rfl a1.range0 vW) ?_;exact⟨xX (hf_size c30),hB.u⟩
 refine zn7 ?_;refine a7 kR (types_any _ _ _ _ (hT.mono hB)) rfl (fun w5 s5=>?_);refine y8 (cs:=#[.int .i64 0,.int .i64 0]) Jx rfl (fun _=>rfl) (fun _=>rfl) vW rfl xW (fun b3 w7 hb3 s6 hr=>?_);refine zn9 ?_;refine zZ rfl (fun c37=>?_) (fun c37=>?_)
 ·refine zn3 ?_;refine zV a1.u (fun w8 hq s7=>?_);replace a1:=hq;refine zn4 ?_;refine xK (.inl rfl) rfl (zX U45 rfl rfl a1.range0 vW) ?_;exact⟨xX (hf_types oG oG),hB.u⟩
 have bb:(xk l).1=0:=by omega
 have hv:=vt_of bb;refine zn6 ?_;refine zW kR (N0 _ _ _ _ (hT.mono hB.u) hv oG) rfl (fun e' w9 hr=>?_);obtain⟨bu,bd,rfl,⟨a5,a8⟩,s8⟩:=hr;replace s8:=sB s8;have h2u:b2≠bu:=fun h=>absurd (jz (h ▸ a1.u) a5) dE
 have h2d:b2≠bd:=fun h=>absurd (jz (h ▸ a1.u) a8) dE
 refine⟨_,rfl,?_⟩;refine y8 (cs:=#[.slice none 0 0,.slice none 0 0]) ze78 rfl (fun _=>rfl) (fun _=>rfl) sz78 rfl xW (fun b4 w11 a9 s9 hr=>?_);refine yZ ?_;replace a5:=a5.tr0 s9;replace a8:=a8.tr0 s9;refine qz (rg (rg [] 5 5) 45 20) (fun m g w'=>∃(k:Nat),k<=l.length/\m=l.length-k/\g 45= .int .i64 k/\Bel w w'/\Blk w' b1 25 #[.slice A l.length c,.slice B fs.length d]/\Blk w' b2 45 #[.int .i64 0,.int .i64 0]/\Blk w' b4 78 #[.slice (some ⟨bu,0,none⟩) l.length l.length,.slice (some ⟨bd,0,none⟩) l.length l.length]/\Blk w' bu 103 (rU l.length (upN l))/\Blk w' bd 103 (rU l.length (Q8 l))/\Z3 l=yX (Dv l) k (l.length-k)) (l.length) ?_ (fun m g8 w12 hI=>?_)
 ·exact⟨0,ah _,rfl,rfl,hB.u,a4.u,a1.u,a9,a5,a8,rfl⟩
 obtain⟨k,hk,hm,h45,hB,a4,a1,a9,a5,a8,hU⟩:=hI;refine zQ 45 _ h45 nu (zn6 ?_);refine zZ rfl (fun c46=>?_) (fun c46=>?_)
 ·have a3:k<l.length:=by omega
  refine Nk ?_;refine qz (rg [6,7,8,9] 49 15) (fun m g w'=>∃(a:Nat),a<=k/\m=k-a/\g 49= .int .i64 a/\Bel w w'/\Blk w' b1 25 #[.slice A l.length c,.slice B fs.length d]/\Blk w' b2 45 #[.int .i64 0,.int .i64 0]/\Blk w' b4 78 #[.slice (some ⟨bu,0,none⟩) l.length l.length,.slice (some ⟨bd,0,none⟩) l.length l.length]/\Blk w' bu 103 (rU l.length (upN l))/\Blk w' bd 103 (rU l.length (Q8 l))/\(∀ j,j<a->(meet l j k).2.2=false)) (k) ?_ (fun m g11 w13 hI=>?_)
  ·exact⟨0,ah _,rfl,rfl,hB,a4,a1,a9,a5,a8,fun j hj=>by omega⟩
  obtain⟨a,ha,hma,h49,hB,a4,a1,a9,a5,a8,hM⟩:=hI;refine zQ 49 _ h49 nu (zn6 ?_);refine zZ rfl (fun c50=>?_) (fun c50=>?_)
  ·refine Ky ?_;refine a7 kR (meet_any l bu bd a k _ (bh.mono hB) ⟨a5,a8⟩ hv oG oG a3) rfl (fun w14 ad=>?_);refine wmT rfl (wl (yW (v:= .int _ _) rfl rfl) (wl (yW (v:= .bool _) rfl rfl) (wl (yW (v:= .bool _) rfl rfl) (yj ?_))));refine jv rfl (fun bm=>?_) (fun bm=>?_)
   ·have ba:=CQ (show a<k by omega) bm;have bg:=hf_unmet (fs:=fs) oG bb (hU.trans (xZ oG ba dE));refine zn3 ?_;refine a7 YZ (uZ _ _ _) rfl (fun w15 s11=>?_);refine zV a1.u (fun w16 hq s12=>?_);replace a1:=hq;refine yZ ?_;refine xK (.inl rfl) rfl (zX U45 rfl rfl a1.range0 vW) ?_;exact⟨xX bg,hB.u⟩
   refine zn7 ?_;refine x9 (k-(a+1)) oG agA ?_;replace hB:=hB.tr0 ad;replace a4:=a4.tr0 ad;replace a1:=a1.tr0 ad;replace a5:=a5.tr0 ad;replace a8:=a8.tr0 ad;replace a9:=a9.tr0 ad
   exact⟨a+1,by omega,rfl,rfl,hB,a4,a1,a9,a5,a8,fun j hj=>by
     by_cases e:j=a
     ·subst e;exact bm
     ·exact hM j oG⟩
  have ba:Dv l k=0:=unmF_no (fun j hj=>hM j oG);refine yj ?_;refine x9 (l.length-(k+1)) oG agA ?_;exact⟨k+1,by omega,rfl,rfl,hB,a4,a1,a9,a5,a8,hU.trans (kZ a3 ba)⟩
 have hR:=Lib.hid (hf_rest (fs:=fs) oG bb (hU.trans (uk oG)));refine zn7 ?_;refine wl_mm (fun b65 w17 a2 s13 hr=>?_);have:=nLL a4.lt hr;have:=nLL a1.lt hr;have b8:=hB.ob hr;refine wl (oz (v:= .map _) rfl) (yZ ?_);refine qz (rg [11,12,13,14] 69 52) (fun m g w'=>∃(k:Nat) (mp:List (ByteArray×Value)),k<=fs.length/\m=fs.length-k/\g 69= .int .i64 k/\Bel w w'/\Blk w' b1 25 #[.slice A l.length c,.slice B fs.length d]/\Blk w' b2 45 #[.int .i64 0,.int .i64 0]/\MapS w' b65 mp/\(∀ s,lkB mp s=seen ((fs.take k).map (·.name)) s)/\qW l fs=yX (Zj l.length fs) k (fs.length-k)) (fs.length) ?_ (fun m g20 w18 hI=>?_)
 ·exact⟨0,[],ah _,rfl,rfl,hB.u,a4.u,a1.u,a2,fun s=>rfl,hR.out⟩
 obtain⟨k,mp,hk,hm,h69,hB,a4,a1,a2,bf,ao⟩:=hI;refine zQ 69 _ h69 nu (zn6 ?_);refine zZ rfl (fun c70=>?_) (fun c70=>?_)
 ·have a3:k<fs.length:=by omega
  obtain⟨tb,to,rfl,htb,htr⟩:=hF.at_ hB a3;refine zn8 ?_;refine wl (qw U64 rfl rfl htr sz64) ?_;refine qQ (cs:=#[.string ⟨#[]⟩,.int .i64 0,.int .i64 0]) ze64 rfl (fun b12 w19 an b7 hr=>?_);have:=nLL a4.lt hr;have:=nLL a1.lt hr;have:=nLL a2.lt hr;have b9:=hB.ob hr;refine waI rfl ?_;refine zV an (fun w20 hq b6=>?_);replace an:=hq;refine zn7 ?_;refine zW kR (EY _ _) rfl (fun e' w21 hr=>?_);obtain⟨rfl,rfl⟩:=hr;refine⟨_,rfl,?_⟩;refine zn3 ?_;refine jv rfl (fun bk=>?_) (fun bk=>?_)
  ·have ab:=ft10 l.length fs k a3 (by simpa using bk);refine zn3 ?_;refine a7 YZ (uZ _ _ _) rfl (fun w22 s16=>?_);refine zV a1.u (fun w23 hq s17=>?_);replace a1:=hq;refine zn9 ?_;refine xK (.inl rfl) rfl (zX U45 rfl rfl a1.range0 vW) ?_;exact⟨xX (ao.trans (xZ (c:=10) oG ab dE)),hB.u⟩
  have bc:vY (fs[k]'a3).name=true:=by simpa using bk
  refine zn5 ?_;refine wl (x6 (v:= .map _) rfl) (zn2 ?_);replace a2:=(a2.tr0 b7).tr1 b6 oG;refine wl (r_lkS a2 U142 U9 ze3_Valid rfl rfl) (wmT rfl (wl (yW (v:=_) rfl rfl) (wl (yW (v:= .bool _) rfl rfl) (wl (oz (v:=_) rfl) (zn8 ?_)))));refine jv rfl (fun b5=>?_) (fun b5=>?_)
  ·have ab:=ft7 l.length fs k a3 bc ((bf _).symm.trans b5);refine zn3 ?_;refine a7 YZ (uZ _ _ _) rfl (fun w24 s18=>?_);refine zV a1.u (fun w25 hq s19=>?_);replace a1:=hq;refine zn9 ?_;refine xK (.inl rfl) rfl (zX U45 rfl rfl a1.range0 vW) ?_;exact⟨xX (ao.trans (xZ (c:=7) oG ab dE)),hB.u⟩
  have hsn:seen ((fs.take k).map (·.name)) (fs[k]'a3).name=false:=by rw[<- bf];exact b5
  have be:∀ s,lkB (Bv mp (fs[k]'a3).name (.int .i64 k)) s=seen ((fs.take (k+1)).map (·.name)) s:=fun s=>by
    rw[QW _ _ _ b5,XJ fs a3,List.map_append,List.map_cons,List.map_nil,M7,<- bf];simp[lkB]
  refine zn4 ?_;refine wl (x6 (v:= .map _) rfl) (zn3 ?_);refine wl_muS (v:= .int _ _) a2 U142 U9 rfl rfl rfl (fun w26 hq s20=>?_);replace a2:=hq;refine zn3 ?_;replace hB:=((hB.tr0 b7).tr1 b6 b9).tr1 s20 b8;replace a1:=((a1.tr0 b7).tr1 b6 oG).tr1 s20 oG;refine xj (rg [] 94 24) 117 (.bool (decide ((fs[k]'a3).of<0\/(l.length:Int)<=(fs[k]'a3).of\/(fs[k]'a3).val<0\/(l.length:Int)<=(fs[k]'a3).val))) nu ?_ (fun gq=>?_)
  ·refine zn5 ?_;refine zk 97 rfl (fun g97=>?_) (fun g97=>?_)
   ·refine zn20 ?_;exact xq
   refine QY ?_;refine zk 105 rfl (fun bj=>?_) (fun bj=>?_)
   ·refine yZ ?_;exact xq
   refine zn8 ?_;refine zk 110 rfl (fun bi=>?_) (fun bi=>?_)
   ·refine zn7 ?_;exact xq
   refine uJ ?_;exact xq
  refine e_S ?_;refine zZ rfl (fun ac=>?_) (fun ac=>?_)
  ·have ab:=ft3 l.length fs k a3 bc hsn ac;refine zn3 ?_;refine a7 YZ (uZ _ _ _) rfl (fun w27 s21=>?_);refine zV a1.u (fun w28 hq s22=>?_);replace a1:=hq;refine zn8 ?_;refine xK (.inl rfl) rfl (zX U45 rfl rfl a1.range0 vW) ?_;exact⟨xX (ao.trans (xZ (c:=3) oG ab dE)),hB.u⟩
  have ab:=ft0 l.length fs k a3 bc hsn ac;refine zn7 ?_;refine x9 (fs.length-(k+1)) oG agA ?_;exact⟨k+1,Bv mp (fs[k]'a3).name (.int .i64 k),by omega,rfl,rfl,hB,a4.u,a1,a2,be,ao.trans (kZ a3 ab)⟩
 refine zn7 ?_;refine jW (cs:=#[.int .i64 0,.int .i64 0]) ?_;refine zV a1 (fun w29 hq s23=>?_);replace a1:=hq;refine zn3 ?_;refine xK (.inl rfl) rfl (zX U45 rfl rfl a1.range0 vW) ?_;exact⟨xX (ao.trans (uk oG)),hB.u⟩
theorem meet_yes(h60:l.length<=60){m:Nat}(hm:m<l.length)(hcm:jV l a b m=true)(hl:∀ i,i<m->jV l a b i=false)(hc:c<l.length)(hcc:jV l a b c=true)(hs:sub l c m=false):(meet l a b).2.2=true:=by
 have h0:vK l a b≠0:=fun h=>by
  have:=mask_eq_zero.1 h m hm;rw[hcm]at this;cases this
 have hz:=IQ h60 h0;have he:Lib.ctz 64 (vK l a b)=m:=by
  have h1:¬Lib.ctz 64 (vK l a b)<m:=fun h=>by
   have:=hl _ h;rw[show jV l a b (Lib.ctz 64 (vK l a b))=true from hz.2.1]at this;cases this
  have h2:¬m<Lib.ctz 64 (vK l a b):=fun h=>by
   have:=hz.2.2 m h;rw[hcm]at this;cases this
  omega
 have hd:Q8 l (Lib.ctz 64 (vK l a b))≠vK l a b:=fun h=>by
  rw[he]at h;have:=mask_inj.1 h c hc;rw[hs,hcc]at this;cases this
 simp only[meet,if_neg h0,if_pos hd]
theorem meet_none(h:∀ i,i<l.length->jV l a b i=false):(meet l a b).2.2=false:=by
 have h0:vK l a b=0:=mask_eq_zero.2 h;simp only[meet,if_pos h0]
theorem meet_some(hv:VT l)(h60:l.length<=60){m:Nat}(hm:m<l.length)(a1:jV l a b m=true)(hl:∀ i,i<m->jV l a b i=false)(hs:∀ i,i<l.length->jV l a b i=true->sub l i m=true):(meet l a b).2.2=false:=by
 have h0:vK l a b≠0:=fun h=>by
  have:=mask_eq_zero.1 h m hm;rw[a1]at this;cases this
 have hz:=IQ h60 h0;have he:Lib.ctz 64 (vK l a b)=m:=by
  have h1:¬Lib.ctz 64 (vK l a b)<m:=fun h=>by
   have:=hl _ h;rw[show jV l a b (Lib.ctz 64 (vK l a b))=true from hz.2.1]at this;cases this
  have h2:¬m<Lib.ctz 64 (vK l a b):=fun h=>by
   have:=hz.2.2 m h;rw[a1]at this;cases this
  omega
 have hd:Q8 l (Lib.ctz 64 (vK l a b))=vK l a b:=by
  rw[he];refine kK (fun i hi=>?_);cases h1:sub l i m with
  | true=>
   simp only[jV,Bool.and_eq_true]at a1;simp[jV,Y7 hv h1 a1.1,Y7 hv h1 a1.2]
  | false=>
   cases h2:jV l a b i with
   | false=>rfl
   | true=>rw[hs i hi h2]at h1;cases h1
 simp only[meet,if_neg h0,hd,ne_eq,not_true_eq_false,if_false]
inductive MS(l:List Ty)(a b c:Nat)(m:Int):Prop
 | none (h:m= -1) (h0:∀ i,i<c->jV l a b i=false)
 | some (n:Nat) (h:m=n) (hn:n<c) (h1:jV l a b n=true) (h2:∀ i,i<n->jV l a b i=false) (h3:∀ i,i<c->jV l a b i=true->sub l i n=true)
theorem MS.start(l:List Ty)(a b:Nat):MS l a b 0 (-1):= .none rfl (fun i h=>by omega)
theorem MS.skip(h:MS l a b c m)(hc:jV l a b c=false):MS l a b (c+1) m:=by
 cases h with
 | none h h0=>exact .none h (fun i hi=>by
  by_cases e:i=c
  ·subst e;exact hc
  ·exact h0 i oG)
 | some n h hn h1 h2 h3=>exact .some n h oG h1 h2 (fun i hi a1=>by
  by_cases e:i=c
  ·subst e;rw[hc]at a1;cases a1
  ·exact h3 i oG a1)
theorem MS.first(hv:VT l)(h:MS l a b c m)(hm:m<0)(hc:jV l a b c=true):MS l a b (c+1) c:=by
 cases h with
 | none h h0=>exact .some c rfl oG hc h0 (fun i hi hci=>by
  by_cases e:i=c
  ·subst e;exact Y8 hv _
  ·rw[h0 i oG]at hci;cases hci)
 | some n h=>omega
theorem MS.pos(h:MS l a b c m)(hm:¬m<0):∃ n:Nat,m=n/\n<c/\jV l a b n=true/\(∀ i,i<n->jV l a b i=false)/\∀ i,i<c->jV l a b i=true->sub l i n=true:=by
 cases h with
 | none h=>omega
 | some n h hn h1 h2 h3=>exact⟨n,h,hn,h1,h2,h3⟩
theorem MS.end_(hv:VT l)(h60:l.length<=60)(h:MS l a b l.length m):(meet l a b).2.2=false:=by
 cases h with
 | none h h0=>exact meet_none h0
 | some n h hn h1 h2 h3=>exact meet_some hv h60 hn h1 h2 h3
def WK(n:Nat)(r:Nat->Nat)(k i:Nat):Value:=if i<k then .slice (some ⟨r i,0,none⟩) n n else .slice none 0 0
def LQ(l:List Ty):Int:=if (Z3 l).1=0 then -1 else (Z3 l).2
theorem CZ{k:Int}(h:Z3 l=(16,k)):LQ l=k:=by simp[LQ,h]
theorem unmI_no(h:Z3 l=(0,0)):LQ l= -1:=by simp[LQ,h]
theorem Zq{a b:Int}(h:a=b):Ending.returned (.int .i64 b)= .returned (.int .i64 a):=by rw[h]
theorem in126:(prog.info? 126).map (fun i=>(i.zero,i.size,i.bytes))=some (some (.slice none 0 0),1,24):=by kernel_rfl
theorem in4_Unmet:(prog.info? 4).map (fun i=>(i.zero,i.size,i.bytes))=some (some (.bool false),1,1):=by kernel_rfl
theorem sz126:(prog.info? 126).map (·.size)=some 1:=by kernel_rfl
theorem sz4_Unmet:(prog.info? 4).map (·.size)=some 1:=by kernel_rfl
theorem unmetR_any(A:Option Addr)(c:Nat)(l:List Ty)(w:World)(hT:TypesIn w A l)(hv:VT l)(b1:l.length<=60):Calls prog 53 #[.slice A l.length c] w fun e w'=>e= .returned (.int .i64 (LQ l))/\Bel w w':=by
 refine enT func53 ntmps53 rfl rfl fun hB=>?_;refine Ky ?_;refine Y5 (m:=l.length) underlying144 in126 rfl rfl rfl oG oG (fun b14 w1 a1 s1 hr=>?_);have lo14:=hB.ob hr;refine vJ ?_;refine qz (rg [5,6] 16 24) (fun m g w'=>∃(k:Nat) (r:Nat->Nat),k<=l.length/\m=l.length-k/\g 16= .int .i64 k/\Bel w w'/\Blk w' b14 126 (row l.length (fun i=>WK l.length r k i))/\(∀ i,i<k->Blk w' (r i) 4 (row l.length (fun j=> .bool (sub l i j))))) (l.length) ?_ (fun m g4 w2 hI=>?_)
 ·refine⟨0,fun _=>0,ah _,rfl,rfl,hB.u,?_,fun i hi=>by omega⟩;rw[xy (g':=fun _=> .slice none 0 0) (fun j _=>by simp[WK])];exact a1
 obtain⟨k,r,hk,hm,h16,hB,a1,a4⟩:=hI;refine zQ 16 _ h16 nu (zn6 ?_);refine zZ rfl (fun c17=>?_) (fun c17=>?_)
 ·have ab:k<l.length:=by omega
  refine Ky ?_;refine Y5 (m:=l.length) Kz in4_Unmet rfl rfl rfl oG oG (fun a5 w3 a2 s2 hr=>?_);have:=a1.ob hr;have a3:=(fun(i:Nat) (hi:i<k)=>nLL (a4 i hi).lt hr)
  have lo22:=hB.ob hr;replace a4:=fun i hi=>(a4 i hi).tr0 s2
  refine zn1 ?_;replace a1:=a1.tr0 s2;refine xx (v:= .slice _ _ _) a1 rfl rfl sz126 (by rw[row_size];omega) rfl kv (fun w4 hq s3=>?_);replace a4:=fun i hi=>(a4 i hi).tr1 s3 (by first|(have:=a3 i hi;omega)|exact fun h=>absurd (jz (h ▸ a4 i hi) a1) dE)
  replace a1:=hq
  rw[xy (g':=fun i=>WK l.length (fun i=>if i=k then a5 else r i) (k+1) i) (fun j _=>by
    by_cases e:j=k
    · subst e;simp[WK]
    · have e1:(j<k+1)↔(j<k):=by omega
      simp[WK,e,e1])]at a1
  have e14:WK l.length (fun i=>if i=k then a5 else r i) (k+1) k= .slice (some ⟨a5,0,none⟩) l.length l.length:=by simp[WK]
  refine zn9 ?_;refine qz (rg [6] 25 14) (fun m g w'=>∃(j:Nat),j<=l.length/\m=l.length-j/\g 25= .int .i64 j/\Bel w w'/\Blk w' b14 126 (row l.length (fun i=>WK l.length (fun i=>if i=k then a5 else r i) (k+1) i))/\Blk w' a5 4 (row l.length (fun x=> .bool (if x<j then sub l k x else false)))/\(∀ i,i<k->Blk w' (r i) 4 (row l.length (fun j=> .bool (sub l i j))))) (l.length) ?_ (fun m g8 w5 hI=>?_)
  ·refine⟨0,ah _,rfl,rfl,hB.u,a1,?_,a4⟩;replace a2:=a2.tr1 s3 oG;rw[xy (g':=fun _=> .bool false) (fun j _=>by simp)];exact a2
  obtain⟨j,hj,hmj,h25,hB,a1,a2,a4⟩:=hI;refine zQ 25 _ h25 nu (zn6 ?_);refine zZ rfl (fun c26=>?_) (fun c26=>?_)
  ·have hlj:j<l.length:=by omega
   refine yj ?_;refine gY [] [10] [0,1,2,3,4,5,6,7,8,9,10] rfl (fun w6 s4=>?_);replace a4:=fun i hi=>(a4 i hi).tr0 s4
   refine zn3 ?_;replace a1:=a1.tr0 s4;refine hl1 (v:= .slice (some ⟨a5,0,none⟩) l.length l.length) rfl Kz rfl rfl (by rw[<- e14];exact a1.cell (j5 ab)) (zn4 ?_);refine hcl (fun v wv=>v= .bool (sub l k j)) rfl kR (M3 _ _ _ _ _ w6 (hT.mono hB.u) hv b1 ab hlj) rfl (fun e' w2 hr=>?_) (fun v36 w7 s5 d36=>?_)
   ·obtain⟨rfl,s6⟩:=hr;exact⟨_,rfl,sB s6,rfl⟩
   replace a4:=fun i hi=>(a4 i hi).tr0 s5
   have e36:=d36;subst e36;refine zn1 ?_;refine h1 rfl ?_;replace a2:=a2.tr0 (s4.t s5);refine xx (v:= .bool _) a2 rfl rfl sz4_Unmet (by rw[row_size];omega) rfl kv (fun w8 hq s7=>?_);have hsH10:=s7;replace a1:=(a1.tr0 s5).tr1 s7 oG;replace a4:=fun i hi=>(a4 i hi).tr1 s7 (by first|(have:=a3 i hi;omega)|exact fun h=>absurd (jz (h ▸ a4 i hi) a1) dE)
   replace a2:=hq
   rw[xy (g':=fun x=> .bool (if x<j+1 then sub l k x else false)) (fun x _=>by
     by_cases e:x=j
     · subst e;simp
     · have e1:(x<j+1)↔(x<j):=by omega
       simp[e,e1])]at a2
   refine qY (O9 [] (zn7 ?_));refine x9 (l.length-(j+1)) oG agA ?_;exact⟨j+1,by omega,rfl,rfl,hB.u,a1,a2,a4⟩
  have hjl:j=l.length:=by omega
  rw[hjl,xy (g':=fun x=> .bool (sub l k x)) (fun x hx=>by simp[hx])]at a2;replace a4:∀ i,i<k+1->Blk w5 (if i=k then a5 else r i) 4 (row l.length (fun j=> .bool (sub l i j))):=fun i hi=>by
    by_cases e:i=k
    · subst e;simp only[if_true];exact a2
    · simp only[if_neg e];exact a4 i oG
  refine yj ?_;refine x9 (l.length-(k+1)) oG agA ?_;exact⟨k+1,fun i=>if i=k then a5 else r i,by omega,rfl,rfl,hB,a1,a4⟩
 have hkl:k=l.length:=by omega
 rw[hkl,xy (g':=fun i=> .slice (some ⟨r i,0,none⟩) l.length l.length) (fun j hj=>by simp[WK,hj])]at a1;rw[hkl]at a4;refine uJ ?_;refine qz (rg [2,7,8,9,10] 41 42) (fun m g w'=>∃(k:Nat),k<=l.length/\m=l.length-k/\g 41= .int .i64 k/\w2=w'/\Z3 l=yX (Dv l) k (l.length-k)) (l.length) ?_ (fun m g14 w9 hI=>?_)
 ·exact⟨0,ah _,rfl,rfl,rfl,rfl⟩
 obtain⟨k,hk2,hm,h41,rfl,hU⟩:=hI;refine zQ 41 _ h41 nu (zn6 ?_);refine zZ rfl (fun c42=>?_) (fun c42=>?_)
 ·have ab:k<l.length:=by omega
  refine Nk ?_;refine qz (rg [2,8,9,10] 45 37) (fun m g w'=>∃(a:Nat),a<=k/\m=k-a/\g 45= .int .i64 a/\w2=w'/\(∀ j,j<a->(meet l j k).2.2=false)) (k) ?_ (fun m g17 w10 hI=>?_)
  ·exact⟨0,ah _,rfl,rfl,rfl,fun j hj=>by omega⟩
  obtain⟨a,ha,hma,h45,rfl,hM⟩:=hI;refine zQ 45 _ h45 nu (zn6 ?_);refine zZ rfl (fun c46=>?_) (fun c46=>?_)
  ·refine zn22 ?_;refine qz (rg [2,9,10] 49 32) (fun m g w'=>∃(x:Nat) (m9:Int),x<=l.length/\m=l.length-x/\g 49= .int .i64 x/\g 9= .int .i64 m9/\w2=w'/\MS l a k x m9) (l.length) ?_ (fun m g21 w11 hI=>?_)
   ·exact⟨0,-1,ah _,rfl,rfl,rfl,rfl,MS.start l a k⟩
   obtain⟨x,m9,hx,hmx,h49,h9,rfl,hS⟩:=hI;refine zQ 49 _ h49 nu (zQ 9 _ h9 nu (zn6 ?_));refine zZ rfl (fun c50=>?_) (fun c50=>?_)
   ·have a8:x<l.length:=by omega
    refine vJ ?_;refine xj (rg [] 52 16) 67 (.bool (decide (jV l a k x=true))) nu ?_ (fun gq=>?_)
    ·refine zn4 ?_;refine wl (qj (v:= .slice _ _ _) Kz rfl rfl (a1.cell (j5 a8))) (zn2 ?_);refine wl (qj (v:= .bool _) U4 rfl rfl ((a4 x a8).cell (j5 oG))) (wl (x6 (v:= .bool _) rfl) ?_);refine uv 59 rfl (fun b2=>?_) (fun b2=>?_)
     ·refine zn7 ?_;refine wl (qj (v:= .slice _ _ _) Kz rfl rfl (a1.cell (j5 a8))) (zn5 ?_);refine wl (qj (v:= .bool _) U4 rfl rfl ((a4 x a8).cell (j5 ab))) (zn1 ?_);refine gk ?_;exact ag (by simp[jV,b2])
     refine zn8 ?_;refine gk ?_;exact ag (by simp[jV,b2])
    refine e_S ?_;refine zZ rfl (fun ad=>?_) (fun ad=>?_)
    ·refine zn6 ?_;refine zZ rfl (fun b4=>?_) (fun b4=>?_)
     ·have ac:=hS.first hv b4 ad;refine yj ?_;refine x9 (l.length-(x+1)) oG agA ?_;exact⟨x+1,_,by omega,rfl,rfl,rfl,rfl,ac⟩
     obtain⟨mn,rfl,hmn,hq1,hq2,hq3⟩:=hS.pos b4;refine zn5 ?_;refine wl (qj (v:= .slice _ _ _) Kz rfl rfl (a1.cell (j5 a8))) (zn2 ?_);refine wl (qj (v:= .bool _) U4 rfl rfl ((a4 x a8).cell (j5 oG))) (zn3 ?_);refine jv rfl (fun b3=>?_) (fun b3=>?_)
     ·have ao:=meet_yes b1 (show mn<l.length by omega) hq1 hq2 a8 ad (by simpa using b3);have an:=CQ (show a<k by omega) ao;have a9:=CZ (hU.trans (xZ oG an dE));refine zn21 ?_;exact⟨Zq a9,hB⟩
     have ac:MS l a k (x+1) (mn:Int):= .some mn rfl oG hq1 hq2 (fun i hi hci=>by
       by_cases e:i=x
       · subst e;simpa using b3
       · exact hq3 i oG hci)
     refine zn7 ?_;refine x9 (l.length-(x+1)) oG agA ?_;exact⟨x+1,_,by omega,rfl,rfl,rfl,rfl,ac⟩
    have ac:=hS.skip (by simpa using ad);refine zn7 ?_;refine x9 (l.length-(x+1)) oG agA ?_;exact⟨x+1,_,by omega,rfl,rfl,rfl,rfl,ac⟩
   have hxl:x=l.length:=by omega
   subst hxl;have ao:=hS.end_ hv b1;refine yj ?_;refine x9 (k-(a+1)) oG agA ?_
   exact⟨a+1,by omega,rfl,rfl,rfl,fun j hj=>by
     by_cases e:j=a
     · subst e;exact ao
     · exact hM j oG⟩
  have an:Dv l k=0:=unmF_no (fun j hj=>hM j oG);refine yj ?_;refine x9 (l.length-(k+1)) oG agA ?_;exact⟨k+1,by omega,rfl,rfl,rfl,hU.trans (kZ ab an)⟩
 have a9:=unmI_no (hU.trans (uk oG));refine yZ ?_;exact⟨Zq a9,hB⟩
theorem fseen_yes{l:List Ft}{s:ByteArray}(hk:k<l.length)(hj:j<k)(h:(l[j]'oG).name=s):seen ((l.take k).map (·.name)) s=true:=by
 simp only[seen,List.any_eq_true,decide_eq_true_eq,List.mem_map];refine⟨_,⟨l[j]'oG,?_,rfl⟩,h⟩;rw[List.mem_take_iff_getElem];exact⟨j,by omega,rfl⟩
theorem O8(f:Nat->Int):∀(m i:Nat),yX f i m=(0,0)\/∃ j:Nat,yX f i m=(f j,(j:Int))/\f j≠0
 | 0,_=> .inl rfl
 | m+1,i=>by
  unfold yX
  by_cases h:f i≠0
  ·exact .inr ⟨i,by rw[if_pos h],h⟩
  ·rw[if_neg h];exact O8 f m (i+1)
theorem NX(l:List Ty):Z3 l=(0,0)\/∃ j:Nat,Z3 l=(16,(j:Int)):=by
 rcases O8 (Dv l) l.length 0 with h|⟨j,h,hne⟩
 ·exact .inl h
 ·refine .inr ⟨j,?_⟩
  have h16:Dv l j=16:=by
   unfold Dv at hne ⊢
   split
   ·rfl
   ·rename_i hx;rw[if_neg hx]at hne;exact absurd rfl hne
  rw[<- h16];exact h
theorem unmI_geq(h:0<=LQ l):Z3 l=(16,LQ l):=by
 rcases NX l with e|⟨j,e⟩
 ·rw[unmI_no e]at h;omega
 ·rw[CZ e,e]
theorem unmI_lss(h:¬0<=LQ l):Z3 l=(0,0):=by
 rcases NX l with e|⟨j,e⟩
 ·exact e
 ·rw[CZ e]at h;omega
theorem D8:zw Tryz.prog 33=true:=by kernel_rfl
theorem TV(A B:Option Addr)(c d:Nat)(l:List Ty)(fs:List Ft)(w:World)(hc:l.length<=c)(hd:fs.length<=d)(hT:TypesIn w A l)(hF:FeatsIn w B fs):Calls Tryz.prog 32 #[.agg #[.slice A l.length c,.slice B fs.length d]] w fun e w'=>e= .returned (flV (qW l fs))/\Bel w w':=by
 refine enT Tryz.func32 Tryz.ntmps32 rfl rfl fun hB=>?_;refine zn2 ?_;refine qv (cs:=#[_,_]) rfl (fun b1 w1 a4 s1 hr=>?_);refine qQ (cs:=#[.int .i64 0,.int .i64 0]) Jx rfl (fun b2 w2 a1 s2 hr=>?_);have lo2:=hB.u.ob hr;refine vJ ?_;refine zZ rfl (fun c12=>?_) (fun c12=>?_)
 ·refine zn2 ?_;refine vy ?_;refine zV a1 (fun w3 hq s3=>?_);replace a1:=hq;refine zn4 ?_;refine xK (.inl rfl) rfl (zX U45 rfl rfl a1.range0 vW) ?_;exact⟨xX (hf_size (.inr (.inr oG))),hB.u⟩
 refine zn7 ?_;refine a7 kR (CJ _ _ _ _ hc (hT.mono hB.u)) rfl (fun w4 s4=>?_);refine y8 (cs:=#[.int .i64 0,.int .i64 0]) Jx rfl (fun _=>rfl) (fun _=>rfl) vW rfl xW (fun b3 w6 hb3 s5 hr=>?_);refine zn9 ?_;refine zZ rfl (fun c19=>?_) (fun c19=>?_)
 ·refine zn3 ?_;refine zV a1.u (fun w7 hq s6=>?_);replace a1:=hq;refine zn4 ?_;refine xK (.inl rfl) rfl (zX U45 rfl rfl a1.range0 vW) ?_;exact⟨xX (hf_types oG oG),hB.u⟩
 have a9:(xk l).1=0:=by omega
 have hv:=vt_of a9;have htl:=OJ a9;refine zn7 ?_;refine a7 kR (unmetR_any _ _ _ _ (hT.mono hB.u) hv oG) rfl (fun w8 s7=>?_);refine zn9 ?_;refine zZ rfl (fun b5=>?_) (fun b5=>?_)
 ·have ad:=hf_unmet (fs:=fs) oG a9 (unmI_geq b5);refine zn3 ?_;refine vy ?_;refine zV a1.u (fun w9 hq s8=>?_);replace a1:=hq;refine zn4 ?_;refine xK (.inl rfl) rfl (zX U45 rfl rfl a1.range0 vW) ?_;exact⟨xX ad,hB.u⟩
 have hR:=Lib.hid (hf_rest (fs:=fs) oG a9 (unmI_lss b5));refine yZ ?_;refine qz (rg [5,6,8] 31 55) (fun m g w'=>∃(k:Nat),k<=fs.length/\m=fs.length-k/\g 31= .int .i64 k/\Bel w w'/\Blk w' b1 25 #[.slice A l.length c,.slice B fs.length d]/\Blk w' b2 45 #[.int .i64 0,.int .i64 0]/\qW l fs=yX (Zj l.length fs) k (fs.length-k)) (fs.length) ?_ (fun m g10 w10 hI=>?_)
 ·exact⟨0,ah _,rfl,rfl,hB.u,a4.u,a1.u,hR.out⟩
 obtain⟨k,hk,hm,h31,hB,a4,a1,a8⟩:=hI;refine zQ 31 _ h31 nu (zn6 ?_);refine zZ rfl (fun c32=>?_) (fun c32=>?_)
 ·have a2:k<fs.length:=by omega
  obtain⟨tb,to,rfl,htb,htr⟩:=hF.at_ hB a2;refine zn8 ?_;refine wl (qw U64 rfl rfl htr sz64) ?_;refine qQ (cs:=#[.string ⟨#[]⟩,.int .i64 0,.int .i64 0]) ze64 rfl (fun b6 w11 a5 s9 hr=>?_);have:=a4.ob hr;have:=a1.ob hr;have lo6:=hB.ob hr;refine waI rfl ?_;refine zV a5 (fun w12 hq s10=>?_);replace a5:=hq;refine zn7 ?_;refine a7 D8 (P7 _ _) rfl (fun w13 s11=>?_);refine zn3 ?_;refine jv rfl (fun b4=>?_) (fun b4=>?_)
  ·have a3:=ft10 l.length fs k a2 (by simpa using b4);refine zn3 ?_;refine vy ?_;refine zV a1.u (fun w14 hq s12=>?_);replace a1:=hq;refine zn9 ?_;refine xK (.inl rfl) rfl (zX U45 rfl rfl a1.range0 vW) ?_;exact⟨xX (a8.trans (xZ (c:=10) oG a3 dE)),hB.u⟩
  have ac:vY (fs[k]'a2).name=true:=by simpa using b4
  refine zn8 ?_;refine wl (MX (h:=k) U23 sz64 rfl rfl oG) (zn5 ?_);refine qz (rg [8] 47 12) (fun m g w'=>∃(j:Nat),j<=k/\m=k-j/\g 47= .int .i64 j/\Bel w w'/\Blk w' b1 25 #[.slice A l.length c,.slice (some ⟨tb,to,none⟩) fs.length d]/\Blk w' b2 45 #[.int .i64 0,.int .i64 0]/\Blk w' b6 64 #[.string (fs[k]'a2).name,.int .i64 (fs[k]'a2).of,.int .i64 (fs[k]'a2).val]/\seen ((fs.take j).map (·.name)) (fs[k]'a2).name=false) (k) ?_ (fun m g15 w15 hI=>?_)
  ·exact⟨0,ah _,rfl,rfl,hB.u,a4.u,a1.u,a5.u,rfl⟩
  obtain⟨j,hj,hmj,h47,hB,a4,a1,a5,hse⟩:=hI;refine zQ 47 _ h47 nu (zn6 ?_);refine zZ rfl (fun c48=>?_) (fun c48=>?_)
  ·have hjt:j<fs.length:=by omega
   obtain⟨ub,uo,he,hub,hur⟩:=hF.at_ hB hjt;cases he;refine zn7 ?_;refine wl (qw U64 rfl rfl hur sz64) ?_;refine y8 (cs:=#[.string ⟨#[]⟩,.int .i64 0,.int .i64 0]) ze64 rfl (fun _=>rfl) (fun _=>rfl) sz64 rfl xW (fun b8 w17 hb8 s13 hr=>?_);refine vJ ?_;refine zZ rfl (fun ao=>?_) (fun ao=>?_)
   ·have a3:=ft7 l.length fs k a2 ac (fseen_yes a2 oG ao);refine zn3 ?_;refine vy ?_;refine zV a1.u (fun w18 hq s14=>?_);replace a1:=hq;refine uJ ?_;refine xK (.inl rfl) rfl (zX U45 rfl rfl a1.range0 vW) ?_;exact⟨xX (a8.trans (xZ (c:=7) oG a3 dE)),hB.u⟩
   have ab:seen ((fs.take (j+1)).map (·.name)) (fs[k]'a2).name=false:=by rw[XJ fs hjt,List.map_append,List.map_cons,List.map_nil,M7,hse];simp[ao]
   refine zn7 ?_;refine x9 (k-(j+1)) oG agA ?_;exact⟨j+1,by omega,rfl,rfl,hB.u,a4.u,a1.u,a5.u,ab⟩
  have hsn:seen ((fs.take k).map (·.name)) (fs[k]'a2).name=false:=by
    have e:k=j:=by omega
    subst e;exact hse
  refine zn6 ?_;refine xj (rg [] 59 24) 82 (.bool (decide ((fs[k]'a2).of<0\/(l.length:Int)<=(fs[k]'a2).of\/(fs[k]'a2).val<0\/(l.length:Int)<=(fs[k]'a2).val))) nu ?_ (fun gq=>?_)
  ·refine zn5 ?_;refine zk 62 rfl (fun g62=>?_) (fun g62=>?_)
   ·refine zn20 ?_;exact xq
   refine QY ?_;refine zk 70 rfl (fun g70=>?_) (fun g70=>?_)
   ·refine yZ ?_;exact xq
   refine zn8 ?_;refine zk 75 rfl (fun g75=>?_) (fun g75=>?_)
   ·refine zn7 ?_;exact xq
   refine uJ ?_;exact xq
  refine e_S ?_;refine zZ rfl (fun an=>?_) (fun an=>?_)
  ·have a3:=ft3 l.length fs k a2 ac hsn an;refine zn3 ?_;refine vy ?_;refine zV a1 (fun w19 hq s15=>?_);replace a1:=hq;refine zn8 ?_;refine xK (.inl rfl) rfl (zX U45 rfl rfl a1.range0 vW) ?_;exact⟨xX (a8.trans (xZ (c:=3) oG a3 dE)),hB.u⟩
  have a3:=ft0 l.length fs k a2 ac hsn an;refine zn7 ?_;refine x9 (fs.length-(k+1)) oG agA ?_;exact⟨k+1,by omega,rfl,rfl,hB,a4,a1,a8.trans (kZ a2 a3)⟩
 refine zn7 ?_;refine jW (cs:=#[.int .i64 0,.int .i64 0]) ?_;refine zV a1 (fun w20 hq s16=>?_);replace a1:=hq;refine zn3 ?_;refine xK (.inl rfl) rfl (zX U45 rfl rfl a1.range0 vW) ?_;exact⟨xX (a8.trans (uk oG)),hB.u⟩
end Go.Proofs.YtndbjnkilegebaaGreatDoor
