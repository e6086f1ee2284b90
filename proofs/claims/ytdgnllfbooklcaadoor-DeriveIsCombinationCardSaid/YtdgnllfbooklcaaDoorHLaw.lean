/- What these functions of the program compute, at every world: glosswright/hierarchy.Tables. What these functions of the program compute, at every world: glosswright/hierarchy.Validate. What these functions of the program compute, at every world: . Plain laws of the order of types: meets, joins, remainders. No program in sight. -/
import Derived.Test.YtdgnllfbooklcaaDoorU
import Derived.Test.YtdgnllfbooklcaaDoorSim
import Derived.Test.YtdgnllfbooklcaaDoorMeet
namespace Go.Proofs.YtdgnllfbooklcaaDoor
open Go.RowKit
def JZ (l:List Ty) (k:Nat) (ps:List Int) (x:Nat):Bool:=decide (x=k) || ps.any (fun p=>sub l p.toNat x)
theorem parM_zero {l:List Ty} {k:Nat} (hk:k < l.length):j7 (JZ l k []) l.length=2 ^ k:=by
  rw [Tz hk];exact j5 (fun j _=>by simp [JZ])
theorem parM_snoc {l:List Ty} {k j:Nat} {ps:List Int} (hj:j < ps.length):j7 (JZ l k (ps.take j)) l.length ||| upN l (ps[j]).toNat=j7 (JZ l k (ps.take (j + 1))) l.length:=by
  unfold upN;rw [L2];refine j5 (fun x _=>?_);simp only [JZ];rw [List.take_succ_eq_append_getElem hj,List.any_append];simp [Bool.or_assoc]
theorem parM_end {l:List Ty} (hv:VT l) {k:Nat} (hk:k < l.length):j7 (JZ l k (l[k]).par) l.length=upN l k:=by
  unfold upN;refine j5 (fun x _=>?_);rw [F7 hv];have e1:decide (x=k)=decide (k=x):=by simp only [eq_comm]
  simp only [JZ,e1]
  congr 1
  simp only [Nj,List.getElem?_eq_getElem hk,List.any_map];rfl
def upP (l:List Ty) (k i:Nat):Nat:=if i < k then upN l i else 0
def uS (l:List Ty) (k X i:Nat):Nat:=if i=k then X else upP l k i
theorem uS_k (l:List Ty) (k X:Nat):uS l k X k=X:=by simp [uS]
theorem uS_lt {l:List Ty} {k X p:Nat} (h:p < k):uS l k X p=upN l p:=by
  have:p≠k:=by omega
  simp [uS,upP,this,h]
theorem uS_end (l:List Ty) (k i:Nat):uS l k (upN l k) i=upP l (k + 1) i:=by
  unfold uS upP;by_cases h:i=k
  · subst h;simp
  · have:(i < k + 1) ↔ (i < k):=by omega
    simp [h,this]
def dnP (l:List Ty) (k j:Nat):Nat:=j7 (fun i=>decide (i < k) && sub l i j) l.length
theorem dnP_zero (l:List Ty) (j:Nat):dnP l 0 j=0:=mask_eq_zero.2 (fun i _=>by simp)
theorem dnP_yes {l:List Ty} {k j:Nat} (hk:k < l.length) (h:sub l k j=true):dnP l k j ||| 2 ^ k=dnP l (k + 1) j:=by
  unfold dnP;rw [Tz hk,L2];refine j5 (fun i _=>?_);by_cases e:i=k
  · subst e;simp [h]
  · have e1:decide (i < k + 1)=decide (i < k):=decide_eq_decide.2 om
    simp [e,e1]
theorem dnP_no {l:List Ty} {k j:Nat} (h:sub l k j=false):dnP l k j=dnP l (k + 1) j:=by
  unfold dnP;refine j5 (fun i _=>?_);by_cases e:i=k
  · subst e;simp [h]
  · have e1:decide (i < k + 1)=decide (i < k):=decide_eq_decide.2 om
    simp [e1]
theorem dnP_end (l:List Ty) (j:Nat):dnP l l.length j=Z1 l j:=by
  unfold dnP Z1;exact j5 (fun i hi=>by simp [hi])
theorem upP_end {l:List Ty} {i:Nat} (h:i < l.length):upP l l.length i=upN l i:=by simp [upP,h]
def dS (l:List Ty) (k j x:Nat):Nat:=if x < j then dnP l (k + 1) x else dnP l k x
theorem dS_j (l:List Ty) (k j:Nat):dS l k j j=dnP l k j:=by simp [dS]
theorem dS_yes {l:List Ty} {k j:Nat} (hk:k < l.length) (h:sub l k j=true) (x:Nat):(if x=j then dS l k j j ||| 2 ^ k else dS l k j x)=dS l k (j + 1) x:=by
  by_cases e:x=j
  · subst e;simp only [if_true,dS_j,dnP_yes hk h];simp [dS]
  · have e1:(x < j + 1) ↔ (x < j):=by omega
    simp [e,dS,e1]
theorem dS_no {l:List Ty} {k j:Nat} (h:sub l k j=false) (x:Nat):dS l k j x=dS l k (j + 1) x:=by
  by_cases e:x=j
  · subst e;rw [dS_j,dnP_no h];simp [dS]
  · have e1:(x < j + 1) ↔ (x < j):=by omega
    simp [dS,e1]
theorem dS_lt {l:List Ty} (h:l.length≤60) (k j x:Nat):dS l k j x < 18446744073709551616:=by
  unfold dS dnP;split <;> exact ZW _ h
theorem uS_bd {l:List Ty} (h:l.length≤60) {k X x:Nat} (hX:X < 18446744073709551616):uS l k X x < 18446744073709551616:=by
  unfold uS upP;split
  · exact hX
  · split
    · exact RX h _
    · decide
theorem Vz {n:Nat} {g:Nat→Nat} {f:Nat→Nat} (h:∀ j,j < n→g j=f j):row n (fun j=>Value.int .u64 ((g j:Nat):Int))=row n (fun j=>Value.int .u64 ((f j:Nat):Int)):=kX (fun j hj=>by rw [h j hj])
theorem Fk {n k c:Nat} {g:Nat→Nat}:row n (fun j=>if j=k then Value.int .u64 (c:Int) else Value.int .u64 ((g j:Nat):Int))=row n (fun j=>Value.int .u64 ((if j=k then c else g j:Nat):Int)):=kX (fun j _=>by split <;> rfl)
theorem in117:(Tryd.prog.info? 117).map (fun i=>(i.zero,i.size,i.bytes))=some (some (.int .u64 0),1,8):=by kernel_rfl
theorem K5:(Tryd.prog.info? 110).map (·.size)=some 2:=by kernel_rfl
theorem sz86:(Tryd.prog.info? 86).map (·.size)=some 2:=by kernel_rfl
theorem DX:(Tryd.prog.info? 110).map (·.zero)=some (some (.agg #[.string ⟨#[]⟩,.slice none 0 0])):=by kernel_rfl
theorem ze86:(Tryd.prog.info? 86).map (·.zero)=some (some (.agg #[.slice none 0 0,.slice none 0 0])):=by kernel_rfl
theorem XZ (A:Option Addr) (c:Nat) (l:List Ty) (w:World) (hT:TypesIn w A l) (hv:VT l) (h60:l.length≤60):Calls Tryd.prog 29 #[.slice A l.length c] w fun e w'=>∃ bu bd,e= .returned (OQ l.length bu bd)∧TableIn w' l bu bd∧Bel w w':=by
 refine enter Tryd.func29 Tryd.ntmps29 rfl (Nat.le_of_ble_eq_true rfl) ?_;have hB:Bel w w:=Below.refl _ _;refine zn2 ?_;refine qw (cs:=#[.slice none 0 0,.slice none 0 0]) ze86 rfl (fun b2 w1 hb2 s1 hr=>?_);have lo2:=nLT (Bel.size hB) hr;refine zn3 ?_;have z2:=hb2.lt;replace hB:=hB.tr0 s1;have hsz:=Bel.size hB;refine uj 8 [9,10,11,12,13,14,15,3] (fun ix=>Nat.beq ix 2 || Nat.beq ix 5 || Nat.beq ix 7) (fun ix v wv=>match ix with | 0=>v= .slice A l.length c | 1=>v= .int .i64 l.length | 2=>∃ bu,v= .slice (some ⟨bu,0,none⟩) l.length l.length∧w1.heap.size≤bu∧Blk wv bu 117 (row l.length (fun _=> .int .u64 0)) | 3=>v= .slice A l.length c | 4=>v= .int .i64 l.length | 5=>∃ bd,v= .slice (some ⟨bd,0,none⟩) l.length l.length∧w1.heap.size≤bd∧Blk wv bd 117 (row l.length (fun _=> .int .u64 0)) | 6=>∃ bu bd,v= .agg #[.slice (some ⟨bu,0,none⟩) l.length l.length,.slice (some ⟨bd,0,none⟩) l.length l.length]∧w1.heap.size≤bu∧Blk wv bu 117 (row l.length (fun _=> .int .u64 0))∧w1.heap.size≤bd∧Blk wv bd 117 (row l.length (fun _=> .int .u64 0))∧bu≠bd | 7=>∃ b,v= .pointer (some ⟨b,0,none⟩)∧w1.heap.size≤b∧Blk wv b 86 #[.slice none 0 0,.slice none 0 0] | _=>True) kR kR ?_ ?_ ?_
 ·intro ix v wv wv2 h s2
  match ix,h with
  | 0,h=>exact h
  | 1,h=>exact h
  | 2,h=>
   obtain⟨bu,e11,lobu,hbu⟩:=(show ∃ bu,v= .slice (some ⟨bu,0,none⟩) l.length l.length∧w1.heap.size≤bu∧Blk wv bu 117 (row l.length (fun _=> .int .u64 0)) from h)
   exact⟨bu,e11,lobu,hbu.tr0 s2⟩
  | 3,h=>exact h
  | 4,h=>exact h
  | 5,h=>
   obtain⟨bd,e14,lobd,hbd⟩:=(show ∃ bd,v= .slice (some ⟨bd,0,none⟩) l.length l.length∧w1.heap.size≤bd∧Blk wv bd 117 (row l.length (fun _=> .int .u64 0)) from h)
   exact⟨bd,e14,lobd,hbd.tr0 s2⟩
  | 6,h=>
   obtain⟨bu,bd,e15,lobu,hbu,lobd,hbd,hne⟩:=(show ∃ bu bd,v= .agg #[.slice (some ⟨bu,0,none⟩) l.length l.length,.slice (some ⟨bd,0,none⟩) l.length l.length]∧w1.heap.size≤bu∧Blk wv bu 117 (row l.length (fun _=> .int .u64 0))∧w1.heap.size≤bd∧Blk wv bd 117 (row l.length (fun _=> .int .u64 0))∧bu≠bd from h)
   exact⟨bu,bd,e15,lobu,hbu.tr0 s2,lobd,hbd.tr0 s2,hne⟩
  | 7,h=>
   obtain⟨b3,e3,lo3,hb3⟩:=(show ∃ b,v= .pointer (some ⟨b,0,none⟩)∧w1.heap.size≤b∧Blk wv b 86 #[.slice none 0 0,.slice none 0 0] from h)
   exact⟨b3,e3,lo3,hb3.tr0 s2⟩
  | _ + 8,h=>exact trivial
 ·intro ix o hix hoq gg wx s3 hd hdis
  match ix,hix,hoq with
  | 0,_,hoq=>
   cases sI hoq;exact oVq (x5 (v:= .slice _ _ _) rfl) rfl
  | 1,_,hoq=>
   cases sI hoq;have d0:gg 9= .slice A l.length c:=hd 0 (zj kR);have e9:=d0;refine zq 9 _ e9 nu ?_;exact oVq (MW U22 rfl) rfl
  | 2,_,hoq=>
   cases sI hoq;have hs0:=s3;have d1:gg 10= .int .i64 l.length:=hd 1 (zj kR);have e10:=d1;refine zq 10 _ e10 nu ?_;refine vK (fun ops Q K=>?_);refine DJ U84 in117 rfl rfl rfl om om (fun b11 w2 hb11 s4 hr=>?_);exact K _ _ ⟨s4,⟨_,rfl,nLT hs0.size hr,hb11⟩,fRq hr hb11.lt⟩
  | 3,_,hoq=>
   cases sI hoq;exact oVq (x5 (v:= .slice _ _ _) rfl) rfl
  | 4,_,hoq=>
   cases sI hoq;have d3:gg 12= .slice A l.length c:=hd 3 (zj kR);have e12:=d3;refine zq 12 _ e12 nu ?_;exact oVq (MW U22 rfl) rfl
  | 5,_,hoq=>
   cases sI hoq;have hs0:=s3;have d4:gg 13= .int .i64 l.length:=hd 4 (zj kR);have e13:=d4;refine zq 13 _ e13 nu ?_;refine vK (fun ops Q K=>?_);refine DJ U84 in117 rfl rfl rfl om om (fun b14 w3 hb14 s5 hr=>?_);exact K _ _ ⟨s5,⟨_,rfl,nLT hs0.size hr,hb14⟩,fRq hr hb14.lt⟩
  | 6,_,hoq=>
   cases sI hoq;have d2:∃ bu,gg 11= .slice (some ⟨bu,0,none⟩) l.length l.length∧w1.heap.size≤bu∧Blk wx bu 117 (row l.length (fun _=> .int .u64 0)):=hd 2 (zj kR);obtain⟨bu,e11,lobu,hbu⟩:=d2;have d5:∃ bd,gg 14= .slice (some ⟨bd,0,none⟩) l.length l.length∧w1.heap.size≤bd∧Blk wx bd 117 (row l.length (fun _=> .int .u64 0)):=hd 5 (zj kR);obtain⟨bd,e14,lobd,hbd⟩:=d5;have hne:bu≠bd:=fun h=>hdis 2 5 bu (zj kR) (zj kR) dE rfl rfl (show vJ (gg 11)=some bu by rw [e11];rfl) (show vJ (gg 14)=some bu by rw [e14,h];rfl)
   refine zq 11 _ e11 nu (zq 14 _ e14 nu ?_);exact oVq (Z9 (v0:= .slice _ _ _) (v1:= .slice _ _ _) (fun v0 v1=>#[v0,v1]) rfl rfl kR) ⟨_,_,rfl,lobu,hbu,lobd,hbd,hne⟩
  | 7,_,hoq=>
   cases sI hoq;have hs0:=s3;refine vK (fun ops Q K=>?_);refine qw (cs:=#[.slice none 0 0,.slice none 0 0]) ze86 rfl (fun b3 w4 hb3 s6 hr=>?_);exact K _ _ ⟨s6,⟨_,rfl,nLT hs0.size hr,hb3⟩,fRq hr hb3.lt⟩
  | _ + 8,hix,_=>exact absurd hix om
 intro gg w5 s7 hR hdis;have d6:∃ bu bd,gg 15= .agg #[.slice (some ⟨bu,0,none⟩) l.length l.length,.slice (some ⟨bd,0,none⟩) l.length l.length]∧w1.heap.size≤bu∧Blk w5 bu 117 (row l.length (fun _=> .int .u64 0))∧w1.heap.size≤bd∧Blk w5 bd 117 (row l.length (fun _=> .int .u64 0))∧bu≠bd:=hR 6 dE;obtain⟨bu,bd,e15,lobu,hbu,lobd,hbd,hne⟩:=d6;have d7:∃ b,gg 3= .pointer (some ⟨b,0,none⟩)∧w1.heap.size≤b∧Blk w5 b 86 #[.slice none 0 0,.slice none 0 0]:=hR 7 dE;obtain⟨b3,e3,lo3,hb3⟩:=d7;have h3u:b3≠bu:=fun h=>absurd (Zx (h ▸ hb3) hbu) dE
 have h3d:b3≠bd:=fun h=>absurd (Zx (h ▸ hb3) hbd) dE
 have or_2_3:b2 < b3:=nLL z2 lo3;have or_2_u:b2 < bu:=nLL z2 lobu;have or_2_d:b2 < bd:=nLL z2 lobd;replace lo3:=nLT hsz lo3;replace lobu:=nLT hsz lobu;replace lobd:=nLT hsz lobd;refine qY 15 _ e15 nu (qY 3 _ e3 nu ?_);refine zk hb3 rfl rfl sz86 rfl zK (fun w6 hq s8=>?_);replace hb3:=hq;refine gj ?_;replace hB:=(hB.tr0 s7).tr1 s8 lo3;replace hb2:=(hb2.tr0 s7).tr1 s8 om;replace hbu:=hbu.tr1 s8 om;replace hbd:=hbd.tr1 s8 om;refine qJ [4,5,7,8,18,19,20,21,22,23,24,25,26,27,28,29,30,31,32,33,34,35,36,37,38,39,40,41,42,43,44,45,46,47,48,49,50,51,52,53,54,55,56,57,58,59,60,61,62,63,64,65,66,67,68,69,70,71,72,73] (fun m g w'=>∃ (k:Nat),k≤l.length∧m=l.length - k∧g 18= .int .i64 k∧Bel w w'∧Blk w' b2 86 #[.slice none 0 0,.slice none 0 0]∧Blk w' b3 86 #[.slice (some ⟨bu,0,none⟩) l.length l.length,.slice (some ⟨bd,0,none⟩) l.length l.length]∧Blk w' bu 117 (row l.length (fun i=> .int .u64 ((upP l k i:Nat):Int)))∧Blk w' bd 117 (row l.length (fun i=> .int .u64 ((dnP l k i:Nat):Int)))) (l.length) ?_ (fun m g3 w7 hI=>?_)
 ·refine⟨0,Nat.zero_le _,rfl,rfl,hB,hb2,hb3,?_,?_⟩
  · rw [Vz (f:=fun _=>0) (fun j _=>by simp [upP])];exact hbu
  · rw [Vz (f:=fun _=>0) (fun j _=>dnP_zero l j)];exact hbd
 obtain⟨k,hk,hm,h18,hB,hb2,hb3,hbu,hbd⟩:=hI;refine zQ 18 _ h18 nu (zn6 ?_);refine zJ rfl (fun c19=>?_) (fun c19=>?_)
 ·have hlt:k < l.length:=by omega
  obtain⟨tb,to,A',cp,rfl,htb,htr,hpar⟩:=hT.at_ hB hlt;have hmx:=hpar.1;unfold vz at hmx;refine zn8 ?_;refine wl (qW WX rfl rfl htr K5) ?_;refine qw (cs:=#[.string ⟨#[]⟩,.slice none 0 0]) DX rfl (fun b5 w8 hb5 s9 hr=>?_);have:=nLL hb2.lt hr;have:=nLL hbu.lt hr;have:=nLL hbd.lt hr;have:=nLL hb3.lt hr;have lo5:=nLT (Bel.size hB) hr;refine waI rfl ?_;refine zk hb5 rfl rfl K5 rfl zK (fun w9 hq s10=>?_);replace hb5:=hq;refine zn3 ?_;refine X1 6 kR kR (fun w10 s11=>?_);refine zn4 ?_;refine ws (r_shl1 rfl rfl om rfl) (zn1 ?_);refine QV ?_;replace hbu:=((hbu.tr0 s9).tr1 s10 om).tr0 s11;refine xZ (v:= .int _ _) hbu rfl rfl Hq (by rw [row_size];omega) rfl Qj (fun w11 hq s12=>?_);replace hbu:=hq;replace hB:=(((hB.tr0 s9).tr1 s10 lo5).tr0 s11).tr1 s12 lobu;replace hb2:=(((hb2.tr0 s9).tr1 s10 om).tr0 s11).tr1 s12 om;replace hbd:=(((hbd.tr0 s9).tr1 s10 om).tr0 s11).tr1 s12 om;replace hb3:=(((hb3.tr0 s9).tr1 s10 om).tr0 s11).tr1 s12 om;replace hb5:=(hb5.tr0 s11).tr1 s12 om;replace hbu:Blk w11 bu 117 (row l.length (fun i=> .int .u64 ((uS l k (j7 (JZ l k ((l[k]'hlt).par.take 0)) l.length) i:Nat):Int))):=by
    rw [Fk (g:=fun i=>upP l k i)] at hbu;rw [Vz (f:=fun i=>if i=k then 2 ^ k else upP l k i) (fun j _=>by rw [List.take_zero,parM_zero hlt];rfl)];exact hbu
  refine vQ ?_;refine qJ [7,32,33,34,35,36,37,38,39,40,41,42,43,44,45,46,47,48] (fun m g w'=>∃ (j:Nat),j≤(l[k]'hlt).par.length∧m=(l[k]'hlt).par.length - j∧g 32= .int .i64 j∧Bel w w'∧Blk w' b2 86 #[.slice none 0 0,.slice none 0 0]∧Blk w' b3 86 #[.slice (some ⟨bu,0,none⟩) l.length l.length,.slice (some ⟨bd,0,none⟩) l.length l.length]∧Blk w' bu 117 (row l.length (fun i=> .int .u64 ((uS l k (j7 (JZ l k ((l[k]'hlt).par.take j)) l.length) i:Nat):Int)))∧Blk w' bd 117 (row l.length (fun i=> .int .u64 ((dnP l k i:Nat):Int)))∧Blk w' b5 110 #[.string (l[k]'hlt).name,.slice A' (l[k]'hlt).par.length cp]) ((l[k]'hlt).par.length) ?_ (fun m g7 w12 hI=>?_)
  ·exact⟨0,Nat.zero_le _,rfl,rfl,hB,hb2,hb3,hbu,hbd,hb5⟩
  obtain⟨j,hj,hmj,h32,hB,hb2,hb3,hbu,hbd,hb5⟩:=hI;refine zQ 32 _ h32 nu (zn6 ?_);refine zJ rfl (fun c33=>?_) (fun c33=>?_)
  ·have hlj:j < (l[k]'hlt).par.length:=by omega
   obtain⟨pb,po,rfl,hpb,hpc⟩:=hpar.at_ hlj;replace hpc:=hB.cell hpb hpc;have hpr:=hv k hlt _ (List.getElem_mem hlj);obtain⟨pn,hpn⟩:∃ pn:Nat,pn=((l[k]'hlt).par[j]).toNat:=⟨_,rfl⟩
   have hpi:(l[k]'hlt).par[j]=(pn:Int):=by rw [hpn];exact(Int.toNat_of_nonneg hpr.1).symm
   rw [hpi] at hpc hpr;have hXl:=ZW (JZ l k ((l[k]'hlt).par.take j)) h60;refine zn7 ?_;refine wl (qK (v:= .int _ _) U3 rfl rfl hpc) (zn3 ?_);refine X1 12 kR kR (fun w13 s13=>?_);refine zn4 ?_;replace hbu:=hbu.tr0 s13;refine ws (qK (v:= .int _ _) Yw rfl rfl (hbu.cell (gZ hlt))) (zn4 ?_);refine ws (qK (v:= .int _ _) Yw rfl rfl (hbu.cell (gZ om))) (ws (X8 rfl rfl (uS_bd h60 hXl) (uS_bd h60 hXl)) (zn1 ?_));refine QV ?_;refine xZ (v:= .int _ _) hbu rfl rfl Hq (by rw [row_size];omega) rfl Qj (fun w14 hq s14=>?_);replace hbu:=hq;replace hbu:Blk w14 bu 117 (row l.length (fun i=> .int .u64 ((uS l k (j7 (JZ l k ((l[k]'hlt).par.take (j + 1))) l.length) i:Nat):Int))):=by
     rw [Fk (g:=fun i=>uS l k (j7 (JZ l k ((l[k]'hlt).par.take j)) l.length) i)] at hbu
     rw [Vz (f:=fun i=>if i=k then uS l k (j7 (JZ l k ((l[k]'hlt).par.take j)) l.length) k ||| uS l k (j7 (JZ l k ((l[k]'hlt).par.take j)) l.length) pn else uS l k (j7 (JZ l k ((l[k]'hlt).par.take j)) l.length) i) (fun i _=>by
       rw [uS_k,uS_lt (show pn < k by omega),hpn,parM_snoc hlj];by_cases e:i=k
       · simp [e,uS_k]
       · simp [e,uS])]
     exact hbu
   refine zn7 ?_;refine yq ((l[k]'hlt).par.length - (j + 1)) om agA ?_;replace hB:=(hB.tr0 s13).tr1 s14 lobu;replace hb2:=(hb2.tr0 s13).tr1 s14 om;replace hbd:=(hbd.tr0 s13).tr1 s14 om;replace hb3:=(hb3.tr0 s13).tr1 s14 om;replace hb5:=(hb5.tr0 s13).tr1 s14 om;exact⟨j + 1,by omega,rfl,rfl,hB,hb2,hb3,hbu,hbd,hb5⟩
  have hjl:j=(l[k]'hlt).par.length:=by omega
  rw [hjl,List.take_length,parM_end hv hlt,Vz (f:=fun i=>upP l (k + 1) i) (fun i _=>uS_end l k i)] at hbu;refine Zk ?_;refine qJ [8,51,52,53,54,55,56,57,58,59,60,61,62,63,64,65,66,67,68,69,70,71,72] (fun m g w'=>∃ (j:Nat),j≤l.length∧m=l.length - j∧g 51= .int .i64 j∧Bel w w'∧Blk w' b2 86 #[.slice none 0 0,.slice none 0 0]∧Blk w' b3 86 #[.slice (some ⟨bu,0,none⟩) l.length l.length,.slice (some ⟨bd,0,none⟩) l.length l.length]∧Blk w' bu 117 (row l.length (fun i=> .int .u64 ((upP l (k + 1) i:Nat):Int)))∧Blk w' bd 117 (row l.length (fun i=> .int .u64 ((dS l k j i:Nat):Int)))) (l.length) ?_ (fun m g12 w15 hI=>?_)
  ·refine⟨0,Nat.zero_le _,rfl,rfl,hB,hb2,hb3,hbu,?_⟩;rw [Vz (f:=fun i=>dnP l k i) (fun i _=>by simp [dS])];exact hbd
  obtain⟨j,hj,hmj,h51,hB,hb2,hb3,hbu,hbd⟩:=hI;refine zQ 51 _ h51 nu (zn6 ?_);refine zJ rfl (fun c52=>?_) (fun c52=>?_)
  ·have hlj:j < l.length:=by omega
   have huk:upP l (k + 1) k=upN l k:=by simp [upP]
   have huv:=RX h60 k;have hbit:=D0 (upN l k) j;have hbt:(upN l k).testBit j=sub l k j:=by unfold upN;rw [j6];simp [hlj]
   rw [hbt] at hbit;refine NY ?_;refine wl (qK (v:= .int _ _) Yw rfl rfl (hbu.cell (gZ hlt))) (wmI rfl (wl (HQ (b:=j) rfl rfl om rfl) (wl (Jy (b:=1) rfl rfl (by rw [huk];exact Nat.lt_of_le_of_lt (Nat.shiftRight_le _ _) huv) dE) (zn3 ?_))));refine zJ rfl (fun c62=>?_) (fun c62=>?_)
   ·have hs1:sub l k j=true:=by rw [← hbit];exact decide_eq_true (by rw [huk] at c62;omega)
    refine X1 9 kR kR (fun w16 s15=>?_);refine zn4 ?_;replace hbd:=hbd.tr0 s15;refine ws (qK (v:= .int _ _) Yw rfl rfl (hbd.cell (gZ hlj))) (zn1 ?_);refine ws (r_shl1 rfl rfl om rfl) (ws (X8 rfl rfl (dS_lt h60 _ _ _) (nLL (Nat.pow_lt_pow_right dE (show k < 60 by omega)) dE)) (zn1 ?_));refine QV ?_;refine xZ (v:= .int _ _) hbd rfl rfl Hq (by rw [row_size];omega) rfl Qj (fun w17 hq s16=>?_);replace hbd:=hq;rw [Fk (g:=fun i=>dS l k j i),Vz (f:=fun i=>dS l k (j + 1) i) (fun i _=>dS_yes hlt hs1 i)] at hbd;refine zn7 ?_;refine yq (l.length - (j + 1)) om agA ?_;replace hB:=(hB.tr0 s15).tr1 s16 lobd;replace hb2:=(hb2.tr0 s15).tr1 s16 om;replace hbu:=(hbu.tr0 s15).tr1 s16 om;replace hb3:=(hb3.tr0 s15).tr1 s16 om;exact⟨j + 1,by omega,rfl,rfl,hB,hb2,hb3,hbu,hbd⟩
   have hs1:sub l k j=false:=by rw [← hbit];exact decide_eq_false (by rw [huk] at c62;omega)
   rw [Vz (f:=fun i=>dS l k (j + 1) i) (fun i _=>dS_no hs1 i)] at hbd;refine zn7 ?_;refine yq (l.length - (j + 1)) om agA ?_;exact⟨j + 1,by omega,rfl,rfl,hB,hb2,hb3,hbu,hbd⟩
  have hjl:j=l.length:=by omega
  rw [hjl,Vz (f:=fun i=>dnP l (k + 1) i) (fun i hi=>by simp [dS,hi])] at hbd;refine jy ?_;refine yq (l.length - (k + 1)) om agA ?_;exact⟨k + 1,by omega,rfl,rfl,hB,hb2,hb3,hbu,hbd⟩
 have hkl:k=l.length:=by omega
 subst hkl;refine zn8 ?_;refine zk hb2 rfl rfl sz86 rfl zK (fun w18 hq s17=>?_);replace hb2:=hq;refine zn3 ?_;refine xX (.inl rfl) rfl (zw U86 rfl rfl hb2.range0 sz86) ?_;replace hB:=hB.tr1 s17 lo2;refine⟨bu,bd,rfl,⟨?_,?_⟩,hB⟩;replace hbu:=hbu.tr1 s17 om
 · rw [Vz (f:=upN l) (fun i hi=>upP_end hi)] at hbu;exact hbu
 replace hbd:=hbd.tr1 s17 om
 · rw [Vz (f:=Z1 l) (fun i _=>dnP_end l i)] at hbd;exact hbd
end Go.Proofs.YtdgnllfbooklcaaDoor
namespace Go.Proofs.YtdgnllfbooklcaaDoor
open Go.RowKit
theorem MY {i:Int}:∀ {ps:List Int} {last:Int},u6 i last ps=0→∀ p ∈ ps,0≤p∧p < i
  | [],_,_,p,hp=>by cases hp
  | q :: ps,last,h,p,hp=>by
    unfold u6 at h
    by_cases h1:q < 0∨i≤q
    · rw [if_pos h1] at h;cases h
    rw [if_neg h1] at h
    by_cases h2:q≤last
    · rw [if_pos h2] at h;cases h
    rw [if_neg h2] at h
    rcases List.mem_cons.1 hp with rfl | hp
    · omega
    · exact MY h p hp
theorem F0 {l:List Ty} {k:Nat} (hk:k < l.length) (h:j8 l k=0):y8 (l[k]).name=true∧uy ((l.take k).map (·.name)) (l[k]).name=false∧(decide (k=0) == (l[k]).par.isEmpty)=true∧u6 k (-1) (l[k]).par=0:=by
  cases h1:y8 (l[k]).name with
  | false=>rw [ty10 l k hk h1] at h;cases h
  | true=>
    cases h2:uy ((l.take k).map (·.name)) (l[k]).name with
    | true=>rw [ty7 l k hk h1 h2] at h;cases h
    | false=>
      cases h3:(decide (k=0) == (l[k]).par.isEmpty) with
      | false=>rw [ty5 l k hk h1 h2 h3] at h;cases h
      | true=>
        rw [H0 l k hk h1 h2 h3,List.drop_zero] at h;exact⟨rfl,rfl,rfl,h⟩
theorem jW {f:Nat→Int}:∀ {m i:Nat},(qv f i m).1=0→∀ j,i≤j→j < i + m→f j=0
  | 0,i,_,j,h1,h2=>by omega
  | m + 1,i,h,j,h1,h2=>by
    unfold qv at h
    by_cases h3:f i≠0
    · rw [if_pos h3] at h;exact absurd h h3
    rw [if_neg h3] at h
    by_cases e:j=i
    · subst e;exact Decidable.not_not.1 h3
    · exact jW h j om om
theorem PJ {l:List Ty} (h:(xw l).1=0):¬(l.length=0∨60 < l.length):=by
  intro hb;simp only [xw,if_pos hb] at h;cases h
theorem types_ok {l:List Ty} (h:(xw l).1=0) {k:Nat} (hk:k < l.length):j8 l k=0:=by
  have hb:=PJ h;simp only [xw,if_neg hb] at h;exact jW h k (Nat.zero_le _) om
theorem vt_of {l:List Ty} (h:(xw l).1=0):VT l:=fun _ hi p hp=>MY (F0 hi (types_ok h hi)).2.2.2 p hp
def RJ (l:List Ty) (b:Nat):Int:=if (List.range b).any (fun a=>(jj l a b).2.2) then 16 else 0
theorem BK {l:List Ty} {a b:Nat} (h:a < b) (hm:(jj l a b).2.2=true):RJ l b=16:=by
  unfold RJ;rw [if_pos (List.any_eq_true.2 ⟨a,List.mem_range.2 h,hm⟩)]
theorem unmF_no {l:List Ty} {b:Nat} (h:∀ a,a < b→(jj l a b).2.2=false):RJ l b=0:=by
  unfold RJ;rw [if_neg];intro hc;obtain⟨a,ha,hm⟩:=List.any_eq_true.1 hc;rw [h a (List.mem_range.1 ha)] at hm;cases hm
def O9 (n:Nat) (t:Ft):Prop:=t.of < 0∨(n:Int)≤t.of∨t.val < 0∨(n:Int)≤t.val
instance (n:Nat) (t:Ft):Decidable (O9 n t):=by unfold O9;infer_instance
def gJ (n:Nat) (fs:List Ft) (i:Nat):Int:=match fs[i]? with
  | none=>0
  | some t=>if y8 t.name=false then 10 else if uy ((fs.take i).map (·.name)) t.name=true then 7 else if O9 n t then 3 else 0
theorem ft10 (n:Nat) (l:List Ft) (k:Nat) (hlt:k < l.length) (h1:y8 l[k].name=false):gJ n l k=10:=by
  simp only [gJ,List.getElem?_eq_getElem hlt,h1,if_true]
theorem ft7 (n:Nat) (l:List Ft) (k:Nat) (hlt:k < l.length) (h1:y8 l[k].name=true) (h2:uy ((l.take k).map (·.name)) l[k].name=true):gJ n l k=7:=by
  simp only [gJ,List.getElem?_eq_getElem hlt,h1,h2,if_true];rfl
theorem ft3 (n:Nat) (l:List Ft) (k:Nat) (hlt:k < l.length) (h1:y8 l[k].name=true) (h2:uy ((l.take k).map (·.name)) l[k].name=false) (h3:O9 n l[k]):gJ n l k=3:=by
  simp only [gJ,List.getElem?_eq_getElem hlt,h1,h2,if_pos h3];rfl
theorem ft0 (n:Nat) (l:List Ft) (k:Nat) (hlt:k < l.length) (h1:y8 l[k].name=true) (h2:uy ((l.take k).map (·.name)) l[k].name=false) (h3:¬O9 n l[k]):gJ n l k=0:=by
  simp only [gJ,List.getElem?_eq_getElem hlt,h1,h2,if_neg h3];rfl
def Jq (l:List Ty):Fl:=qv (RJ l) 0 l.length
def qj (l:List Ty) (fs:List Ft):Fl:=
  if 40 < fs.length then (2,-1)
  else if (xw l).1≠0 then xw l
  else if (Jq l).1≠0 then Jq l
  else qv (gJ l.length fs) 0 fs.length
theorem hf_size {l:List Ty} {fs:List Ft} (h:l.length=0∨60 < l.length∨40 < fs.length):qj l fs=(2,-1):=by
  unfold qj;by_cases h4:40 < fs.length
  · rw [if_pos h4]
  · have hb:l.length=0∨60 < l.length:=by omega
    have ht:xw l=(2,-1):=by simp only [xw,if_pos hb]
    rw [if_neg h4,ht];rfl
theorem hf_types {l:List Ty} {fs:List Ft} (h:¬40 < fs.length) (ht:(xw l).1≠0):qj l fs=((xw l).1,(xw l).2):=by
  unfold qj;rw [if_neg h,if_pos ht]
theorem hf_unmet {l:List Ty} {fs:List Ft} (h:¬40 < fs.length) (ht:(xw l).1=0) {k:Int} (hu:Jq l=(16,k)):qj l fs=(16,k):=by
  unfold qj;rw [if_neg h,if_neg (by rw [ht];exact fun h=>h rfl),hu];rfl
theorem hf_rest {l:List Ty} {fs:List Ft} (h:¬40 < fs.length) (ht:(xw l).1=0) (hu:Jq l=(0,0)):qj l fs=qv (gJ l.length fs) 0 (fs.length - 0):=by
  unfold qj;rw [if_neg h,if_neg (by rw [ht];exact fun h=>h rfl),hu];rfl
theorem fn29:zZ Tryd.prog 29=true:=by kernel_rfl
theorem Wk:zZ Tryd.prog 46=true:=by kernel_rfl
theorem Q7:zZ Tryd.prog 62=true:=by kernel_rfl
theorem fn63:zZ Tryd.prog 63=true:=by kernel_rfl
theorem fn64:zZ Tryd.prog 64=true:=by kernel_rfl
theorem yX:(Tryd.prog.info? 36).map (·.size)=some 2:=by kernel_rfl
theorem sz72:(Tryd.prog.info? 72).map (·.size)=some 3:=by kernel_rfl
theorem G5:(Tryd.prog.info? 3).map (·.zero)=some (some (.int .i64 0)):=by kernel_rfl
theorem E0:(Tryd.prog.info? 36).map (·.zero)=some (some (.agg #[.int .i64 0,.int .i64 0])):=by kernel_rfl
theorem ze72:(Tryd.prog.info? 72).map (·.zero)=some (some (.agg #[.string ⟨#[]⟩,.int .i64 0,.int .i64 0])):=by kernel_rfl
theorem DK (A B:Option Addr) (c d:Nat) (l:List Ty) (fs:List Ft) (w:World) (hTab:TabIn w) (hT:TypesIn w A l) (hF:FeatsIn w B fs):Calls Tryd.prog 45 #[.agg #[.slice A l.length c,.slice B fs.length d]] w fun e w'=>e= .returned (flV (qj l fs))∧Bel w w':=by
 refine enter Tryd.func45 Tryd.ntmps45 rfl (Nat.le_of_ble_eq_true rfl) ?_;have hB:Bel w w:=Below.refl _ _;refine zn2 ?_;refine xz (v:= .agg #[_,_]) (cs:=#[_,_]) rfl rfl (fun b1 w1 hb1 s1 hr=>?_);refine qw (cs:=#[.int .i64 0,.int .i64 0]) E0 rfl (fun b2 w2 hb2 s2 hr=>?_);replace hB:=hB.tr0 s1;have lo2:=nLT (Bel.size hB) hr;refine zn4 ?_;replace hB:=hB.tr0 s2;refine yQ [15,16,17,18,19,20,21,22,23,24,25,26,27,28,29,30] 30 (.bool (decide (l.length=0∨60 < l.length∨40 < fs.length))) nu ?_ (fun gq=>?_)
 ·refine zn6 ?_;refine zV 19 rfl (fun g19=>?_) (fun g19=>?_)
  ·refine gj ?_;refine zW (e_R ⟨rfl,agA,?_⟩);exact clA
  refine jy ?_;refine zV 25 rfl (fun g25=>?_) (fun g25=>?_)
  ·refine zn5 ?_;refine zW (e_R ⟨rfl,agA,?_⟩);exact clA
  refine zn9 ?_;refine zW (e_R ⟨rfl,agA,?_⟩);exact clA
 refine e_S ?_;refine zJ rfl (fun c30=>?_) (fun c30=>?_)
 ·refine zn2 ?_;refine zX Q7 (jX _ _ _) rfl (fun e' w3 hr=>?_);obtain⟨rfl,s3⟩:=hr;replace s3:=sB s3;refine⟨_,rfl,?_⟩;replace hb2:=hb2.tr0 s3;refine zk hb2 rfl rfl yX rfl zK (fun w4 hq s4=>?_);replace hb2:=hq;refine zn4 ?_;refine xX (.inl rfl) rfl (zw U36 rfl rfl hb2.range0 yX) ?_;replace hB:=(hB.tr0 s3).tr1 s4 lo2;exact⟨xW (hf_size c30),hB⟩
 refine zn7 ?_;refine zX fn63 (Gq _ _ _ _ (hT.mono hB)) rfl (fun e' w5 hr=>?_);obtain⟨rfl,s5⟩:=hr;replace s5:=sB s5;refine⟨_,rfl,?_⟩;refine yj (cs:=#[.int .i64 0,.int .i64 0]) E0 rfl (fun _=>rfl) (fun _=>rfl) yX rfl zK (fun b3 w7 hb3 s6 hr=>?_);refine zn9 ?_;replace hB:=hB.tr0 (s5.trans s6);replace hb2:=hb2.tr0 (s5.trans s6);refine zJ rfl (fun c37=>?_) (fun c37=>?_)
 ·refine zn3 ?_;refine zk hb2 rfl rfl yX rfl zK (fun w8 hq s7=>?_);replace hb2:=hq;refine zn4 ?_;refine xX (.inl rfl) rfl (zw U36 rfl rfl hb2.range0 yX) ?_;replace hB:=hB.tr1 s7 lo2;exact⟨xW (hf_types om om),hB⟩
 have ht0:(xw l).1=0:=by omega
 have hv:=vt_of ht0;refine zn6 ?_;refine zX fn29 (XZ _ _ _ _ (hT.mono hB) hv om) rfl (fun e' w9 hr=>?_);obtain⟨bu,bd,rfl,⟨hbu,hbd⟩,s8⟩:=hr;replace s8:=sB s8;replace hb2:=hb2.tr0 s8;have h2u:b2≠bu:=fun h=>absurd (Zx (h ▸ hb2) hbu) dE
 have h2d:b2≠bd:=fun h=>absurd (Zx (h ▸ hb2) hbd) dE
 refine⟨_,rfl,?_⟩;refine yj (cs:=#[.slice none 0 0,.slice none 0 0]) ze86 rfl (fun _=>rfl) (fun _=>rfl) sz86 rfl zK (fun b4 w11 hb4 s9 hr=>?_);refine vQ ?_;replace hb1:=hb1.tr0 (s2.trans (s5.trans (s6.trans (s8.trans s9))));replace hB:=hB.tr0 (s8.trans s9);replace hb2:=hb2.tr0 s9;replace hbu:=hbu.tr0 s9;replace hbd:=hbd.tr0 s9;refine qJ [5,6,7,8,9,45,46,47,48,49,50,51,52,53,54,55,56,57,58,59,60,61,62,63,64] (fun m g w'=>∃ (k:Nat),k≤l.length∧m=l.length - k∧g 45= .int .i64 k∧Bel w w'∧Blk w' b1 25 #[.slice A l.length c,.slice B fs.length d]∧Blk w' b2 36 #[.int .i64 0,.int .i64 0]∧Blk w' b4 86 #[.slice (some ⟨bu,0,none⟩) l.length l.length,.slice (some ⟨bd,0,none⟩) l.length l.length]∧Blk w' bu 117 (rU l.length (upN l))∧Blk w' bd 117 (rU l.length (Z1 l))∧Jq l=qv (RJ l) k (l.length - k)) (l.length) ?_ (fun m g8 w12 hI=>?_)
 ·exact⟨0,Nat.zero_le _,rfl,rfl,hB,hb1,hb2,hb4,hbu,hbd,rfl⟩
 obtain⟨k,hk,hm,h45,hB,hb1,hb2,hb4,hbu,hbd,hU⟩:=hI;refine zQ 45 _ h45 nu (zn6 ?_);refine zJ rfl (fun c46=>?_) (fun c46=>?_)
 ·have hlt:k < l.length:=by omega
  refine Bx ?_;refine qJ [6,7,8,9,49,50,51,52,53,54,55,56,57,58,59,60,61,62,63] (fun m g w'=>∃ (a:Nat),a≤k∧m=k - a∧g 49= .int .i64 a∧Bel w w'∧Blk w' b1 25 #[.slice A l.length c,.slice B fs.length d]∧Blk w' b2 36 #[.int .i64 0,.int .i64 0]∧Blk w' b4 86 #[.slice (some ⟨bu,0,none⟩) l.length l.length,.slice (some ⟨bd,0,none⟩) l.length l.length]∧Blk w' bu 117 (rU l.length (upN l))∧Blk w' bd 117 (rU l.length (Z1 l))∧(∀ j,j < a→(jj l j k).2.2=false)) (k) ?_ (fun m g11 w13 hI=>?_)
  ·exact⟨0,Nat.zero_le _,rfl,rfl,hB,hb1,hb2,hb4,hbu,hbd,fun j hj=>by omega⟩
  obtain⟨a,ha,hma,h49,hB,hb1,hb2,hb4,hbu,hbd,hM⟩:=hI;refine zQ 49 _ h49 nu (zn6 ?_);refine zJ rfl (fun c50=>?_) (fun c50=>?_)
  ·refine Ow ?_;refine zX fn64 (T9 l bu bd a k _ (hTab.mono hB) ⟨hbu,hbd⟩ hv om om hlt) rfl (fun e' w14 hr=>?_);obtain⟨rfl,s10⟩:=hr;replace s10:=sB s10;refine⟨_,rfl,?_⟩;refine wmT rfl (wl (yk (v:= .int _ _) rfl rfl) (wl (yk (v:= .bool _) rfl rfl) (wl (yk (v:= .bool _) rfl rfl) (jy ?_))));replace hB:=hB.tr0 s10;replace hb2:=hb2.tr0 s10;refine kv rfl (fun c60=>?_) (fun c60=>?_)
   ·have hun:=BK (show a < k by omega) c60;have hfin:=hf_unmet (fs:=fs) om ht0 (hU.trans (y9 om hun dE));refine zn3 ?_;refine zX Q7 (jX _ _ _) rfl (fun e' w15 hr=>?_);obtain⟨rfl,s11⟩:=hr;replace s11:=sB s11;refine⟨_,rfl,?_⟩;replace hb2:=hb2.tr0 s11;refine zk hb2 rfl rfl yX rfl zK (fun w16 hq s12=>?_);replace hb2:=hq;refine vQ ?_;refine xX (.inl rfl) rfl (zw U36 rfl rfl hb2.range0 yX) ?_;replace hB:=(hB.tr0 s11).tr1 s12 lo2;exact⟨xW hfin,hB⟩
   refine zn7 ?_;refine yq (k - (a + 1)) om agA ?_;replace hb1:=hb1.tr0 s10;replace hbu:=hbu.tr0 s10;replace hbd:=hbd.tr0 s10;replace hb4:=hb4.tr0 s10
   exact⟨a + 1,by omega,rfl,rfl,hB,hb1,hb2,hb4,hbu,hbd,fun j hj=>by
     by_cases e:j=a
     · subst e;exact c60
     · exact hM j om⟩
  have hun:RJ l k=0:=unmF_no (fun j hj=>hM j om);refine jy ?_;refine yq (l.length - (k + 1)) om agA ?_;exact⟨k + 1,by omega,rfl,rfl,hB,hb1,hb2,hb4,hbu,hbd,hU.trans (jY hlt hun)⟩
 have hR:=Lib.hid (hf_rest (fs:=fs) om ht0 (hU.trans (uq om)));refine zn7 ?_;refine wl_mm (fun b65 w17 hb65 s13 hr=>?_);have:=nLL hb1.lt hr;have:=nLL hb2.lt hr;have lo65:=nLT (Bel.size hB) hr;refine wl (kQ (v:= .map _) rfl) (vQ ?_);replace hB:=hB.tr0 s13;replace hb1:=hb1.tr0 s13;replace hb2:=hb2.tr0 s13;refine qJ [11,12,13,14,69,70,71,72,73,74,75,76,77,78,79,80,81,82,83,84,85,86,87,88,89,90,91,92,93,94,95,96,97,98,99,100,101,102,103,104,105,106,107,108,109,110,111,112,113,114,115,116,117,118,119,120] (fun m g w'=>∃ (k:Nat) (mp:List (ByteArray×Value)),k≤fs.length∧m=fs.length - k∧g 69= .int .i64 k∧Bel w w'∧Blk w' b1 25 #[.slice A l.length c,.slice B fs.length d]∧Blk w' b2 36 #[.int .i64 0,.int .i64 0]∧MapS w' b65 mp∧(∀ s,lkB mp s=uy ((fs.take k).map (·.name)) s)∧qj l fs=qv (gJ l.length fs) k (fs.length - k)) (fs.length) ?_ (fun m g20 w18 hI=>?_)
 ·exact⟨0,[],Nat.zero_le _,rfl,rfl,hB,hb1,hb2,hb65,fun s=>rfl,hR.out⟩
 obtain⟨k,mp,hk,hm,h69,hB,hb1,hb2,hb65,hmp,hR'⟩:=hI;refine zQ 69 _ h69 nu (zn6 ?_);refine zJ rfl (fun c70=>?_) (fun c70=>?_)
 ·have hlt:k < fs.length:=by omega
  obtain⟨tb,to,rfl,htb,htr⟩:=hF.at_ hB hlt;refine zn8 ?_;refine wl (qW U72 rfl rfl htr sz72) ?_;refine qw (cs:=#[.string ⟨#[]⟩,.int .i64 0,.int .i64 0]) ze72 rfl (fun b12 w19 hb12 s14 hr=>?_);have:=nLL hb1.lt hr;have:=nLL hb2.lt hr;have:=nLL hb65.lt hr;have lo12:=nLT (Bel.size hB) hr;refine waI rfl ?_;refine zk hb12 rfl rfl sz72 rfl zK (fun w20 hq s15=>?_);replace hb12:=hq;refine zn7 ?_;refine zX Wk (I1 _ _) rfl (fun e' w21 hr=>?_);obtain⟨rfl,rfl⟩:=hr;refine⟨_,rfl,?_⟩;refine zn3 ?_;replace hB:=(hB.tr0 s14).tr1 s15 lo12;replace hb2:=(hb2.tr0 s14).tr1 s15 om;refine kv rfl (fun c77=>?_) (fun c77=>?_)
  ·have hty:=ft10 l.length fs k hlt (by simpa using c77);refine zn3 ?_;refine zX Q7 (jX _ _ _) rfl (fun e' w22 hr=>?_);obtain⟨rfl,s16⟩:=hr;replace s16:=sB s16;refine⟨_,rfl,?_⟩;replace hb2:=hb2.tr0 s16;refine zk hb2 rfl rfl yX rfl zK (fun w23 hq s17=>?_);replace hb2:=hq;refine zn9 ?_;refine xX (.inl rfl) rfl (zw U36 rfl rfl hb2.range0 yX) ?_;replace hB:=(hB.tr0 s16).tr1 s17 lo2;exact⟨xW (hR'.trans (y9 (c:=10) om hty dE)),hB⟩
  have hnm:y8 (fs[k]'hlt).name=true:=by simpa using c77
  refine zn5 ?_;refine wl (x5 (v:= .map _) rfl) (zn2 ?_);replace hb65:=(hb65.tr0 s14).tr1 s15 om;refine wl (r_lkS hb65 R9 U9 G5 rfl rfl) (wmT rfl (wl (yk (v:=_) rfl rfl) (wl (yk (v:= .bool _) rfl rfl) (wl (kQ (v:=_) rfl) (zn8 ?_)))));refine kv rfl (fun c87=>?_) (fun c87=>?_)
  ·have hty:=ft7 l.length fs k hlt hnm ((hmp _).symm.trans c87);refine zn3 ?_;refine zX Q7 (jX _ _ _) rfl (fun e' w24 hr=>?_);obtain⟨rfl,s18⟩:=hr;replace s18:=sB s18;refine⟨_,rfl,?_⟩;replace hb2:=hb2.tr0 s18;refine zk hb2 rfl rfl yX rfl zK (fun w25 hq s19=>?_);replace hb2:=hq;refine zn9 ?_;refine xX (.inl rfl) rfl (zw U36 rfl rfl hb2.range0 yX) ?_;replace hB:=(hB.tr0 s18).tr1 s19 lo2;exact⟨xW (hR'.trans (y9 (c:=7) om hty dE)),hB⟩
  have hsn:uy ((fs.take k).map (·.name)) (fs[k]'hlt).name=false:=by rw [← hmp];exact c87
  have hmp':∀ s,lkB (IY mp (fs[k]'hlt).name (.int .i64 k)) s=uy ((fs.take (k + 1)).map (·.name)) s:=fun s=>by
    rw [uV _ _ _ c87,oZ fs hlt,List.map_append,List.map_cons,List.map_nil,M3,← hmp];simp [lkB]
  refine zn4 ?_;refine wl (x5 (v:= .map _) rfl) (zn3 ?_);refine Rv (v:= .int _ _) hb65 R9 U9 rfl rfl rfl (fun w26 hq s20=>?_);replace hb65:=hq;refine zn3 ?_;replace hB:=hB.tr1 s20 lo65;replace hb2:=hb2.tr1 s20 om;refine yQ [94,95,96,97,98,99,100,101,102,103,104,105,106,107,108,109,110,111,112,113,114,115,116,117] 117 (.bool (decide ((fs[k]'hlt).of < 0∨(l.length:Int)≤(fs[k]'hlt).of∨(fs[k]'hlt).val < 0∨(l.length:Int)≤(fs[k]'hlt).val))) nu ?_ (fun gq=>?_)
  ·refine zn5 ?_;refine zV 97 rfl (fun g97=>?_) (fun g97=>?_)
   ·refine zn20 ?_;refine zW (e_R ⟨rfl,agA,?_⟩);exact clA
   refine Yq ?_;refine zV 105 rfl (fun g105=>?_) (fun g105=>?_)
   ·refine vQ ?_;refine zW (e_R ⟨rfl,agA,?_⟩);exact clA
   refine zn8 ?_;refine zV 110 rfl (fun g110=>?_) (fun g110=>?_)
   ·refine zn7 ?_;refine zW (e_R ⟨rfl,agA,?_⟩);exact clA
   refine Zk ?_;refine zW (e_R ⟨rfl,agA,?_⟩);exact clA
  refine e_S ?_;refine zJ rfl (fun c117=>?_) (fun c117=>?_)
  ·have hty:=ft3 l.length fs k hlt hnm hsn c117;refine zn3 ?_;refine zX Q7 (jX _ _ _) rfl (fun e' w27 hr=>?_);obtain⟨rfl,s21⟩:=hr;replace s21:=sB s21;refine⟨_,rfl,?_⟩;replace hb2:=hb2.tr0 s21;refine zk hb2 rfl rfl yX rfl zK (fun w28 hq s22=>?_);replace hb2:=hq;refine zn8 ?_;refine xX (.inl rfl) rfl (zw U36 rfl rfl hb2.range0 yX) ?_;replace hB:=(hB.tr0 s21).tr1 s22 lo2;exact⟨xW (hR'.trans (y9 (c:=3) om hty dE)),hB⟩
  have hty:=ft0 l.length fs k hlt hnm hsn c117;refine zn7 ?_;refine yq (fs.length - (k + 1)) om agA ?_;replace hb1:=((hb1.tr0 s14).tr1 s15 om).tr1 s20 om;exact⟨k + 1,IY mp (fs[k]'hlt).name (.int .i64 k),by omega,rfl,rfl,hB,hb1,hb2,hb65,hmp',hR'.trans (jY hlt hty)⟩
 refine zn7 ?_;refine wl (uJ (vs:=#[]) (cs:=#[.int .i64 0,.int .i64 0]) (by simp) kR) ?_;refine zk hb2 rfl rfl yX rfl zK (fun w29 hq s23=>?_);replace hb2:=hq;refine zn3 ?_;refine xX (.inl rfl) rfl (zw U36 rfl rfl hb2.range0 yX) ?_;replace hB:=hB.tr1 s23 lo2;exact⟨xW (hR'.trans (uq om)),hB⟩
end Go.Proofs.YtdgnllfbooklcaaDoor
namespace Go.Proofs.YtdgnllfbooklcaaDoor
open Go.RowKit
theorem meet_none {l:List Ty} {a b:Nat} (h:∀ i,i < l.length→oj l a b i=false):(jj l a b).2.2=false:=by
  have h0:vx l a b=0:=mask_eq_zero.2 h;simp only [jj,if_pos h0]
theorem meet_some {l:List Ty} (hv:VT l) (h60:l.length≤60) {a b m:Nat} (hm:m < l.length) (hcm:oj l a b m=true) (hl:∀ i,i < m→oj l a b i=false) (hs:∀ i,i < l.length→oj l a b i=true→sub l i m=true):(jj l a b).2.2=false:=by
  have h0:vx l a b≠0:=fun h=>by
    have:=mask_eq_zero.1 h m hm;rw [hcm] at this;cases this
  have hz:=I9 h60 h0;have he:Lib.ctz 64 (vx l a b)=m:=by
    have h1:¬Lib.ctz 64 (vx l a b) < m:=fun h=>by
      have:=hl _ h;rw [show oj l a b (Lib.ctz 64 (vx l a b))=true from hz.2.1] at this;cases this
    have h2:¬m < Lib.ctz 64 (vx l a b):=fun h=>by
      have:=hz.2.2 m h;rw [hcm] at this;cases this
    omega
  have hd:Z1 l (Lib.ctz 64 (vx l a b))=vx l a b:=by
    rw [he];refine j5 (fun i hi=>?_);cases h1:sub l i m with
    | true=>
      simp only [oj,Bool.and_eq_true] at hcm;simp [oj,QK hv h1 hcm.1,QK hv h1 hcm.2]
    | false=>
      cases h2:oj l a b i with
      | false=>rfl
      | true=>rw [hs i hi h2] at h1;cases h1
  simp only [jj,if_neg h0,hd,ne_eq,not_true_eq_false,if_false]
inductive MS (l:List Ty) (a b c:Nat) (m:Int):Prop
  | none (h:m= -1) (h0:∀ i,i < c→oj l a b i=false)
  | some (n:Nat) (h:m=n) (hn:n < c) (h1:oj l a b n=true) (h2:∀ i,i < n→oj l a b i=false) (h3:∀ i,i < c→oj l a b i=true→sub l i n=true)
theorem MS.start (l:List Ty) (a b:Nat):MS l a b 0 (-1):= .none rfl (fun i h=>by omega)
theorem MS.skip {l:List Ty} {a b c:Nat} {m:Int} (h:MS l a b c m) (hc:oj l a b c=false):MS l a b (c + 1) m:=by
  cases h with
  | none h h0=>exact .none h (fun i hi=>by
      by_cases e:i=c
      · subst e;exact hc
      · exact h0 i om)
  | some n h hn h1 h2 h3=>exact .some n h om h1 h2 (fun i hi hci=>by
      by_cases e:i=c
      · subst e;rw [hc] at hci;cases hci
      · exact h3 i om hci)
theorem MS.first {l:List Ty} (hv:VT l) {a b c:Nat} {m:Int} (h:MS l a b c m) (hm:m < 0) (hc:oj l a b c=true):MS l a b (c + 1) c:=by
  cases h with
  | none h h0=>exact .some c rfl om hc h0 (fun i hi hci=>by
      by_cases e:i=c
      · subst e;exact X2 hv _
      · rw [h0 i om] at hci;cases hci)
  | some n h=>omega
theorem MS.pos {l:List Ty} {a b c:Nat} {m:Int} (h:MS l a b c m) (hm:¬m < 0):∃ n:Nat,m=n∧n < c∧oj l a b n=true∧(∀ i,i < n→oj l a b i=false)∧∀ i,i < c→oj l a b i=true→sub l i n=true:=by
  cases h with
  | none h=>omega
  | some n h hn h1 h2 h3=>exact⟨n,h,hn,h1,h2,h3⟩
theorem MS.end_ {l:List Ty} (hv:VT l) (h60:l.length≤60) {a b:Nat} {m:Int} (h:MS l a b l.length m):(jj l a b).2.2=false:=by
  cases h with
  | none h h0=>exact meet_none h0
  | some n h hn h1 h2 h3=>exact meet_some hv h60 hn h1 h2 h3
theorem XW {a b:Int} (h:a=b):Ending.returned (.int .i64 b)= .returned (.int .i64 a):=by rw [h]
end Go.Proofs.YtdgnllfbooklcaaDoor
namespace Go.Proofs.YtdgnllfbooklcaaDoor
open Go.RowKit
def capB (l:List Ty) (a b c:Nat):Bool:=sub l a c && sub l b c
def joinB (l:List Ty) (a b c:Nat):Bool:=capB l a b c && (List.range l.length).all (fun j=>!(!(decide (j=c)) && sub l j c && capB l a b j))
def restN (l:List Ty) (a b k:Nat):Nat:=j7 (fun i=>capB l a b i && decide (k≤i)) l.length
structure RestAt (l:List Ty) (a b k i:Nat):Prop where
  lt:i < l.length
  le:k≤i
  cap:capB l a b i=true
  gap:∀ j,k≤j→j < i→joinB l a b j=false
  next:restN l a b k &&& (restN l a b k - 1)=restN l a b (i + 1)
theorem meet_is {l:List Ty} (hv:VT l) (h60:l.length≤60) {a b m:Nat} (hm:m < l.length) (hcm:oj l a b m=true) (hs:∀ i,i < l.length→oj l a b i=true→sub l i m=true):jj l a b=(m,true,false):=by
  have h0:vx l a b≠0:=fun h=>by
    have:=mask_eq_zero.1 h m hm;rw [hcm] at this;cases this
  have hz:=I9 h60 h0;have he:Lib.ctz 64 (vx l a b)=m:=by
    have h1:¬m < Lib.ctz 64 (vx l a b):=fun h=>by
      have:=hz.2.2 m h;rw [hcm] at this;cases this
    have h2:=K6 hv (hs _ hz.1 hz.2.1);exact Nat.le_antisymm (Nat.le_of_not_lt h1) h2
  have hd:Z1 l (Lib.ctz 64 (vx l a b))=vx l a b:=by
    rw [he];refine j5 (fun i hi=>?_);cases h1:sub l i m with
    | true=>
      simp only [oj,Bool.and_eq_true] at hcm;simp [oj,QK hv h1 hcm.1,QK hv h1 hcm.2]
    | false=>
      cases h2:oj l a b i with
      | false=>rfl
      | true=>rw [hs i hi h2] at h1;cases h1
  unfold jj;rw [if_neg h0,if_neg (fun h=>h hd),he]
theorem meet_spec {l:List Ty} (h60:l.length≤60) {a b:Nat} (h:(jj l a b).2.1=true):(jj l a b).1 < l.length∧oj l a b (jj l a b).1=true∧∀ i,i < l.length→oj l a b i=true→sub l i (jj l a b).1=true:=by
  by_cases h0:vx l a b=0
  · simp only [jj,if_pos h0] at h;cases h
  by_cases hd:Z1 l (Lib.ctz 64 (vx l a b))≠vx l a b
  · simp only [jj,if_neg h0,if_pos hd] at h;cases h
  have e:jj l a b=(Lib.ctz 64 (vx l a b),true,false):=by simp only [jj,if_neg h0,if_neg hd]
  have hz:=I9 h60 h0;rw [e];refine⟨hz.1,hz.2.1,fun i hi hc=>?_⟩;have hd':Z1 l (Lib.ctz 64 (vx l a b))=vx l a b:=Decidable.not_not.1 hd;have:=mask_inj.1 hd' i hi;rw [hc] at this;exact this
theorem meet_comm (l:List Ty) (a b:Nat):jj l b a=jj l a b:=by
  have e:vx l b a=vx l a b:=j5 (fun i _=>Bool.and_comm _ _);unfold jj;rw [e]
structure Ok (l:List Ty):Prop where
  vt:VT l
  pos:0 < l.length
  le:l.length≤60
  all:∀ a b i,a < l.length→b < l.length→i < l.length→oj l a b i=true→(jj l a b).2.1=true
theorem K8 {l:List Ty} {fs:List Ft} (h:(qj l fs).1=0):Ok l:=by
  unfold qj at h;by_cases h4:40 < fs.length
  · rw [if_pos h4] at h;cases h
  rw [if_neg h4] at h;by_cases ht:(xw l).1≠0
  · rw [if_pos ht] at h;exact absurd h ht
  rw [if_neg ht] at h;have ht0:=Decidable.not_not.1 ht;by_cases hu:(Jq l).1≠0
  · rw [if_pos hu] at h;exact absurd h hu
  have hu0:=Decidable.not_not.1 hu;have hv:=vt_of ht0;have hl:=PJ ht0;have h60:l.length≤60:=by omega
  have hlt:∀ a b,a < b→b < l.length→(jj l a b).2.2=false:=fun a b hab hb=>by
    have h1:=jW hu0 b (Nat.zero_le _) om;cases h2:(jj l a b).2.2 with
    | false=>rfl
    | true=>rw [BK hab h2] at h1;cases h1
  have hall:∀ a b,a < l.length→b < l.length→(jj l a b).2.2=false:=fun a b ha hb=>by
    rcases Nat.lt_trichotomy a b with h1 | h1 | h1
    · exact hlt a b h1 hb
    · subst h1
      have:=meet_is hv h60 (a:=a) (b:=a) ha (by simp [oj,X2 hv]) (fun i _ hc=>by
        simp only [oj,Bool.and_eq_true] at hc
        exact hc.1)
      rw [this]
    · rw [← meet_comm];exact hlt b a h1 ha
  refine⟨hv,by omega,h60,fun a b i ha hb hi hc=>?_⟩;have h1:=hall a b ha hb;have h0:vx l a b≠0:=fun h=>by
    have:=mask_eq_zero.1 h i hi;rw [hc] at this;cases this
  by_cases hd:Z1 l (Lib.ctz 64 (vx l a b))≠vx l a b
  · simp only [jj,if_neg h0,if_pos hd] at h1;cases h1
  · simp only [jj,if_neg h0,if_neg hd]
theorem Sj {l:List Ty} (hv:VT l) {a b:Nat} (h:sub l a b=true) (h2:sub l b a=true):a=b:=Nat.le_antisymm (K6 hv h2) (K6 hv h)
structure Tri (l:List Ty) (a b c m:Nat) (ok:Bool):Prop where
  yes:ok=true→m < l.length∧(sub l m a=true∧sub l m b=true∧sub l m c=true)∧∀ i,i < l.length→sub l i a=true→sub l i b=true→sub l i c=true→sub l i m=true
  no:ok=false→m=0∧∀ i,i < l.length→sub l i a=true→sub l i b=true→sub l i c=true→False
theorem Tri.uniq {l:List Ty} (hv:VT l) {a b c m n:Nat} {p q:Bool} (h:Tri l a b c m p) (k:Tri l a b c n q):p=q∧m=n:=by
  cases p with
  | true=>
    obtain⟨h1,⟨h2,h3,h4⟩,h5⟩:=h.yes rfl;cases q with
    | true=>
      obtain⟨k1,⟨k2,k3,k4⟩,k5⟩:=k.yes rfl;exact⟨rfl,Sj hv (k5 m h1 h2 h3 h4) (h5 n k1 k2 k3 k4)⟩
    | false=>exact((k.no rfl).2 m h1 h2 h3 h4).elim
  | false=>
    cases q with
    | true=>
      obtain⟨k1,⟨k2,k3,k4⟩,k5⟩:=k.yes rfl;exact((h.no rfl).2 n k1 k2 k3 k4).elim
    | false=>exact⟨rfl,(h.no rfl).1.trans (k.no rfl).1.symm⟩
def twoF (l:List Ty) (fs:List Ft) (a b:Int):Fl:=
  if (qj l fs).1≠0 then qj l fs else if a < 0∨(l.length:Int)≤a then (3,-2) else if b < 0∨(l.length:Int)≤b then (3,-3) else (0,0)
structure TwoOk (l:List Ty) (fs:List Ft) (a b:Int):Prop where
  h:(qj l fs).1=0
  s:Ok l
  a0:0≤a
  al:a < l.length
  b0:0≤b
  bl:b < l.length
  z:twoF l fs a b=(0,0)
theorem T2 {w:World} {base:Nat} {A:Option Addr} {cap:Nat} {xs:List Int} {z:Int} (h:Own w base 3 1 A (xs.length + 1) cap (xs.map (Value.int .i64) ++ [Value.int .i64 z])):Own w base 3 1 A (xs ++ [z]).length cap ((xs ++ [z]).map (Value.int .i64)):=by
  rw [List.length_append,List.map_append];exact h
theorem Hw (A:Option Addr) (cap:Nat) (xs:List Int) (z:Int):Value.slice A (xs.length + 1) cap=Value.slice A (xs ++ [z]).length cap:=by rw [List.length_append];rfl
end Go.Proofs.YtdgnllfbooklcaaDoor
