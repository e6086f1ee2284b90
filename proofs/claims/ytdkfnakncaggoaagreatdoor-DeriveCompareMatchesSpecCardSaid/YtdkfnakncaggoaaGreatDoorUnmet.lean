/- What these functions of the program compute, at every world: math/bits.TrailingZeros64, (glosswright/hierarchy.Table).Meet, (glosswright/hierarchy.Table).Sub. What these functions of the program compute, at every world: glosswright/hierarchy.Tables. What these functions of the program compute, at every world: glosswright/hierarchy.Validate. What these functions of the program compute, at every world: glosswright/glosswrightref3.Unmet. -/
import Derived.Test.YtdkfnakncaggoaaGreatDoorU
import Derived.Test.YtdkfnakncaggoaaGreatDoorName
import Derived.Test.YtdkfnakncaggoaaGreatDoorMask
namespace Go.Proofs.YtdkfnakncaggoaaGreatDoor
open Go.RowKit
theorem fn96:zQ Tryz.prog 96=true:=by kernel_rfl
theorem WX:(Tryz.prog.info? 122).map (·.size)=some 1:=by kernel_rfl
theorem sz5_Meet:(Tryz.prog.info? 5).map (·.size)=some 1:=by kernel_rfl
theorem tz_any (x:Nat) (w:World) (h0:x≠0) (hx:x < 18446744073709551616) (hTab:TabIn w):Calls Tryz.prog 96 #[.int .u64 x] w fun e w'=>e= .returned (.int .i64 (Lib.ctz 64 x:Nat))∧w=w':=by
 have hz:=tzI_spec h0 hx;have hgd:=hTab.2 (tzI x) hz.1;rw [hz.2] at hgd;refine enter Tryz.func96 Tryz.ntmps96 rfl (Nat.le_of_ble_eq_true rfl) (yj ?_);refine zw rfl (fun c4=>?_) (fun c4=>?_)
 ·exact absurd c4 om
 refine zn6 ?_;refine wl (r_negU rfl om hx rfl) (wl (V8 (b:=18446744073709551616 - x) rfl rfl hx om) (wl (r_mulU (b:=285870213051353865) rfl rfl rfl) (wl (H3 (b:=58) rfl rfl dE rfl) (wl (S3 (i:=tzI x) Tryz.underlying173 sz5_Meet rfl rfl hz.1 rfl) (wl (qk (v:= .int _ _) U5 rfl rfl hgd) (wl (MJ U5 U3 rfl (by have:=(ctz_eq h0 hx rfl).2;omega)) (zn5 ?_)))))));exact⟨rfl,rfl⟩
theorem meet_any (l:List Ty) (bu bd a b:Nat) (w:World) (hTab:TabIn w) (hI:TableIn w l bu bd) (_hv:VT l) (h60:l.length≤60) (ha:a < l.length) (hb:b < l.length):Calls Tryz.prog 80 #[VQ l.length bu bd,.int .i64 a,.int .i64 b] w fun e w'=>e= .returned (meetV (oj l a b))∧Bel w w':=by
 have hca:=T7 h60 a;have hcb:=T7 h60 b;have hcc:yV l a b < 18446744073709551616:=gw _ h60;refine enter Tryz.func80 Tryz.ntmps80 rfl (Nat.le_of_ble_eq_true rfl) ?_;have hB:Bel w w:=Below.refl _ _;refine zn2 ?_;refine qW (v:= .agg #[_,_]) (cs:=#[_,_]) rfl rfl (fun b3 w1 hb3 hs hr=>?_);replace hB:=hB.tr0 hs;refine zn6 ?_;refine Z7 kR kR (fun w2 hs=>?_);replace hB:=hB.tr0 hs;replace hb3:=hb3.tr0 hs;refine zn4 ?_;refine ws (qk (v:= .int _ _) X2 rfl rfl ((hI.mono hB).down ha)) (zn4 ?_);refine ws (qk (v:= .int _ _) X2 rfl rfl ((hI.mono hB).down hb)) (ws (V8 rfl rfl hca hcb) (ws (u7 (v:= .int .u64 (yV l a b:Nat)) (congrArg (fun z:Nat=>Value.int .u64 (z:Int)) (comm_and l a b))) (kJ (zn8 ?_))));refine zw rfl (fun c22=>?_) (fun c22=>?_)
 ·have hz0:yV l a b=0:=by omega
  refine zn9 ?_;refine fin3 (.inl rfl) rfl rfl rfl rfl ?_;exact⟨MQ (by simp only [oj,if_pos hz0]),hB⟩
 have hne:yV l a b≠0:=fun h=>c22 (by rw [h];rfl)
 have hz:=K1 h60 hne;refine zn5 ?_;refine zV fn96 (tz_any _ _ hne hcc (hTab.mono hB)) rfl (fun e' w3 hr=>?_);obtain⟨rfl,rfl⟩:=hr;refine⟨_,rfl,?_⟩;refine zn9 ?_;refine wl (yQ (i:=Lib.ctz 64 (yV l a b)) U92 WX rfl rfl hz.1 rfl) (wl (qk (v:= .int _ _) X2 rfl rfl ((hI.mono hB).down hz.1)) (zn4 ?_));refine zw rfl (fun c31=>?_) (fun c31=>?_)
 ·have hne2:oJ l (Lib.ctz 64 (yV l a b))≠yV l a b:=by omega
  refine zn9 ?_;refine fin3 (.inl rfl) rfl rfl rfl rfl ?_;exact⟨MQ (by simp only [oj,if_neg hne,if_pos hne2]),hB⟩
 have heq:oJ l (Lib.ctz 64 (yV l a b))=yV l a b:=by omega
 refine vx ?_;refine fin3 (.inl rfl) rfl rfl rfl rfl ?_;exact⟨MQ (by simp only [oj,if_neg hne,heq,ne_eq,not_true_eq_false,if_false]),hB⟩
theorem CW (l:List Ty) (bu bd a b:Nat) (w:World) (hI:TableIn w l bu bd) (h60:l.length≤60) (ha:a < l.length) (hb:b < l.length):Calls Tryz.prog 66 #[VQ l.length bu bd,.int .i64 a,.int .i64 b] w fun e w'=>e= .returned (.bool (sub l a b))∧Bel w w':=by
 have hca:=TJ h60 a;refine enter Tryz.func66 Tryz.ntmps66 rfl (Nat.le_of_ble_eq_true rfl) ?_;have hB:Bel w w:=Below.refl _ _;refine zn2 ?_;refine qW (v:= .agg #[_,_]) (cs:=#[_,_]) rfl rfl (fun b3 w1 hb3 hs hr=>?_);replace hB:=hB.tr0 hs;refine zn9 ?_;refine wl (qk (v:= .int _ _) X2 rfl rfl ((hI.mono hB).up ha)) (wmI rfl (wl (H3 (b:=b) rfl rfl om rfl) (wl (V8 (b:=1) rfl rfl (Nat.lt_of_le_of_lt (Nat.shiftRight_le _ _) hca) dE) (zn6 ?_))));refine⟨jK ?_,hB⟩;have h1:=NY (upN l a) b;unfold upN at h1;rw [j5] at h1;simp only [hb,decide_true,Bool.true_and] at h1;rw [← h1];exact decide_eq_decide.2 (by unfold upN;omega)
end Go.Proofs.YtdkfnakncaggoaaGreatDoor
namespace Go.Proofs.YtdkfnakncaggoaaGreatDoor
open Go.RowKit
def V9 (l:List Ty) (k:Nat) (ps:List Int) (x:Nat):Bool:=decide (x=k) || ps.any (fun p=>sub l p.toNat x)
theorem parM_zero {l:List Ty} {k:Nat} (hk:k < l.length):j6 (V9 l k []) l.length=2 ^ k:=by
  rw [Sx hk];exact vY (fun j _=>by simp [V9])
theorem parM_snoc {l:List Ty} {k j:Nat} {ps:List Int} (hj:j < ps.length):j6 (V9 l k (ps.take j)) l.length ||| upN l (ps[j]).toNat=j6 (V9 l k (ps.take (j + 1))) l.length:=by
  unfold upN;rw [Hq];refine vY (fun x _=>?_);simp only [V9];rw [List.take_succ_eq_append_getElem hj,List.any_append];simp [Bool.or_assoc]
theorem parM_end {l:List Ty} (hv:VT l) {k:Nat} (hk:k < l.length):j6 (V9 l k (l[k]).par) l.length=upN l k:=by
  unfold upN;refine vY (fun x _=>?_);rw [Rx hv];have e1:decide (x=k)=decide (k=x):=by simp only [eq_comm]
  simp only [V9,e1]
  congr 1
  simp only [Ik,List.getElem?_eq_getElem hk,List.any_map];rfl
def upP (l:List Ty) (k i:Nat):Nat:=if i < k then upN l i else 0
def uS (l:List Ty) (k X i:Nat):Nat:=if i=k then X else upP l k i
theorem uS_k (l:List Ty) (k X:Nat):uS l k X k=X:=by simp [uS]
theorem uS_lt {l:List Ty} {k X p:Nat} (h:p < k):uS l k X p=upN l p:=by
  have:p≠k:=by omega
  simp [uS,upP,this,h]
theorem uS_end (l:List Ty) (k i:Nat):uS l k (upN l k) i=upP l (k + 1) i:=by
  unfold uS upP;by_cases h:i=k
  · subst h;simp
  · have:(i < k + 1) ↔ (i < k):=by omega
    simp [h,this]
def dnP (l:List Ty) (k j:Nat):Nat:=j6 (fun i=>decide (i < k) && sub l i j) l.length
theorem dnP_zero (l:List Ty) (j:Nat):dnP l 0 j=0:=mask_eq_zero.2 (fun i _=>by simp)
theorem dnP_yes {l:List Ty} {k j:Nat} (hk:k < l.length) (h:sub l k j=true):dnP l k j ||| 2 ^ k=dnP l (k + 1) j:=by
  unfold dnP;rw [Sx hk,Hq];refine vY (fun i _=>?_);by_cases e:i=k
  · subst e;simp [h]
  · have e1:decide (i < k + 1)=decide (i < k):=decide_eq_decide.2 om
    simp [e,e1]
theorem dnP_no {l:List Ty} {k j:Nat} (h:sub l k j=false):dnP l k j=dnP l (k + 1) j:=by
  unfold dnP;refine vY (fun i _=>?_);by_cases e:i=k
  · subst e;simp [h]
  · have e1:decide (i < k + 1)=decide (i < k):=decide_eq_decide.2 om
    simp [e1]
theorem dnP_end (l:List Ty) (j:Nat):dnP l l.length j=oJ l j:=by
  unfold dnP oJ;exact vY (fun i hi=>by simp [hi])
theorem upP_end {l:List Ty} {i:Nat} (h:i < l.length):upP l l.length i=upN l i:=by simp [upP,h]
def dS (l:List Ty) (k j x:Nat):Nat:=if x < j then dnP l (k + 1) x else dnP l k x
theorem dS_j (l:List Ty) (k j:Nat):dS l k j j=dnP l k j:=by simp [dS]
theorem dS_yes {l:List Ty} {k j:Nat} (hk:k < l.length) (h:sub l k j=true) (x:Nat):(if x=j then dS l k j j ||| 2 ^ k else dS l k j x)=dS l k (j + 1) x:=by
  by_cases e:x=j
  · subst e;simp only [if_true,dS_j,dnP_yes hk h];simp [dS]
  · have e1:(x < j + 1) ↔ (x < j):=by omega
    simp [e,dS,e1]
theorem dS_no {l:List Ty} {k j:Nat} (h:sub l k j=false) (x:Nat):dS l k j x=dS l k (j + 1) x:=by
  by_cases e:x=j
  · subst e;rw [dS_j,dnP_no h];simp [dS]
  · have e1:(x < j + 1) ↔ (x < j):=by omega
    simp [dS,e1]
theorem dS_lt {l:List Ty} (h:l.length≤60) (k j x:Nat):dS l k j x < 18446744073709551616:=by
  unfold dS dnP;split <;> exact gw _ h
theorem uS_bd {l:List Ty} (h:l.length≤60) {k X x:Nat} (hX:X < 18446744073709551616):uS l k X x < 18446744073709551616:=by
  unfold uS upP;split
  · exact hX
  · split
    · exact TJ h _
    · decide
theorem XX {n:Nat} {g:Nat→Nat} {f:Nat→Nat} (h:∀ j,j < n→g j=f j):row n (fun j=>Value.int .u64 ((g j:Nat):Int))=row n (fun j=>Value.int .u64 ((f j:Nat):Int)):=yy (fun j hj=>by rw [h j hj])
theorem RQ {n k c:Nat} {g:Nat→Nat}:row n (fun j=>if j=k then Value.int .u64 (c:Int) else Value.int .u64 ((g j:Nat):Int))=row n (fun j=>Value.int .u64 ((if j=k then c else g j:Nat):Int)):=yy (fun j _=>by split <;> rfl)
theorem in122:(Tryz.prog.info? 122).map (fun i=>(i.zero,i.size,i.bytes))=some (some (.int .u64 0),1,8):=by kernel_rfl
theorem VV:(Tryz.prog.info? 113).map (·.size)=some 2:=by kernel_rfl
theorem sz94:(Tryz.prog.info? 94).map (·.size)=some 2:=by kernel_rfl
theorem Ek:(Tryz.prog.info? 113).map (·.zero)=some (some (.agg #[.string ⟨#[]⟩,.slice none 0 0])):=by kernel_rfl
theorem ze94:(Tryz.prog.info? 94).map (·.zero)=some (some (.agg #[.slice none 0 0,.slice none 0 0])):=by kernel_rfl
theorem Mq (A:Option Addr) (c:Nat) (l:List Ty) (w:World) (hT:TypesIn w A l) (hv:VT l) (h60:l.length≤60):Calls Tryz.prog 41 #[.slice A l.length c] w fun e w'=>∃ bu bd,e= .returned (VQ l.length bu bd)∧TableIn w' l bu bd∧Bel w w':=by
 refine enter Tryz.func41 Tryz.ntmps41 rfl (Nat.le_of_ble_eq_true rfl) ?_;have hB:Bel w w:=Below.refl _ _;refine zn2 ?_;refine qZ (cs:=#[.slice none 0 0,.slice none 0 0]) ze94 rfl (fun b2 w1 hb2 hs hr=>?_);have lo2:=nLT (Bel.size hB) hr;replace hB:=hB.tr0 hs;refine zn3 ?_;have z2:=hb2.lt;have hsz:=Bel.size hB;refine yk 8 [9,10,11,12,13,14,15,3] (fun ix=>Nat.beq ix 2 || Nat.beq ix 5 || Nat.beq ix 7) (fun ix v wv=>match ix with | 0=>v= .slice A l.length c | 1=>v= .int .i64 l.length | 2=>∃ bu,v= .slice (some ⟨bu,0,none⟩) l.length l.length∧w1.heap.size≤bu∧Blk wv bu 122 (row l.length (fun _=> .int .u64 0)) | 3=>v= .slice A l.length c | 4=>v= .int .i64 l.length | 5=>∃ bd,v= .slice (some ⟨bd,0,none⟩) l.length l.length∧w1.heap.size≤bd∧Blk wv bd 122 (row l.length (fun _=> .int .u64 0)) | 6=>∃ bu bd,v= .agg #[.slice (some ⟨bu,0,none⟩) l.length l.length,.slice (some ⟨bd,0,none⟩) l.length l.length]∧w1.heap.size≤bu∧Blk wv bu 122 (row l.length (fun _=> .int .u64 0))∧w1.heap.size≤bd∧Blk wv bd 122 (row l.length (fun _=> .int .u64 0))∧bu≠bd | 7=>∃ b,v= .pointer (some ⟨b,0,none⟩)∧w1.heap.size≤b∧Blk wv b 94 #[.slice none 0 0,.slice none 0 0] | _=>True) kR kR ?_ ?_ ?_
 ·intro ix v wv wv2 h hs
  match ix,h with
  | 0,h=>exact h
  | 1,h=>exact h
  | 2,h=>
   obtain⟨bu,e11,lobu,hbu⟩:=(show ∃ bu,v= .slice (some ⟨bu,0,none⟩) l.length l.length∧w1.heap.size≤bu∧Blk wv bu 122 (row l.length (fun _=> .int .u64 0)) from h)
   exact⟨bu,e11,lobu,hbu.tr0 hs⟩
  | 3,h=>exact h
  | 4,h=>exact h
  | 5,h=>
   obtain⟨bd,e14,lobd,hbd⟩:=(show ∃ bd,v= .slice (some ⟨bd,0,none⟩) l.length l.length∧w1.heap.size≤bd∧Blk wv bd 122 (row l.length (fun _=> .int .u64 0)) from h)
   exact⟨bd,e14,lobd,hbd.tr0 hs⟩
  | 6,h=>
   obtain⟨bu,bd,e15,lobu,hbu,lobd,hbd,hne⟩:=(show ∃ bu bd,v= .agg #[.slice (some ⟨bu,0,none⟩) l.length l.length,.slice (some ⟨bd,0,none⟩) l.length l.length]∧w1.heap.size≤bu∧Blk wv bu 122 (row l.length (fun _=> .int .u64 0))∧w1.heap.size≤bd∧Blk wv bd 122 (row l.length (fun _=> .int .u64 0))∧bu≠bd from h)
   exact⟨bu,bd,e15,lobu,hbu.tr0 hs,lobd,hbd.tr0 hs,hne⟩
  | 7,h=>
   obtain⟨b3,e3,lo3,hb3⟩:=(show ∃ b,v= .pointer (some ⟨b,0,none⟩)∧w1.heap.size≤b∧Blk wv b 94 #[.slice none 0 0,.slice none 0 0] from h)
   exact⟨b3,e3,lo3,hb3.tr0 hs⟩
  | _ + 8,h=>exact trivial
 ·intro ix o hix hoq gg wx hs hd hdis
  match ix,hix,hoq with
  | 0,_,hoq=>
   cases sI hoq;exact oV (x9 (v:= .slice _ _ _) rfl) rfl
  | 1,_,hoq=>
   cases sI hoq;have d0:gg 9= .slice A l.length c:=hd 0 (zz kR);have e9:=d0;refine z4 9 (.slice A l.length c) e9 nu ?_;exact oV (I6 U22 rfl) rfl
  | 2,_,hoq=>
   cases sI hoq;have hs0:=hs;have d1:gg 10= .int .i64 l.length:=hd 1 (zz kR);have e10:=d1;refine z4 10 (.int .i64 l.length) e10 nu ?_;refine jx (fun ops Q K=>?_);refine V2 U92 in122 rfl rfl rfl om om (fun b11 w2 hb11 hs hr=>?_);exact K _ _ ⟨hs,⟨_,rfl,nLT hs0.size hr,hb11⟩,fR hr hb11.lt⟩
  | 3,_,hoq=>
   cases sI hoq;exact oV (x9 (v:= .slice _ _ _) rfl) rfl
  | 4,_,hoq=>
   cases sI hoq;have d3:gg 12= .slice A l.length c:=hd 3 (zz kR);have e12:=d3;refine z4 12 (.slice A l.length c) e12 nu ?_;exact oV (I6 U22 rfl) rfl
  | 5,_,hoq=>
   cases sI hoq;have hs0:=hs;have d4:gg 13= .int .i64 l.length:=hd 4 (zz kR);have e13:=d4;refine z4 13 (.int .i64 l.length) e13 nu ?_;refine jx (fun ops Q K=>?_);refine V2 U92 in122 rfl rfl rfl om om (fun b14 w3 hb14 hs hr=>?_);exact K _ _ ⟨hs,⟨_,rfl,nLT hs0.size hr,hb14⟩,fR hr hb14.lt⟩
  | 6,_,hoq=>
   cases sI hoq;have d2:∃ bu,gg 11= .slice (some ⟨bu,0,none⟩) l.length l.length∧w1.heap.size≤bu∧Blk wx bu 122 (row l.length (fun _=> .int .u64 0)):=hd 2 (zz kR);obtain⟨bu,e11,lobu,hbu⟩:=d2;have d5:∃ bd,gg 14= .slice (some ⟨bd,0,none⟩) l.length l.length∧w1.heap.size≤bd∧Blk wx bd 122 (row l.length (fun _=> .int .u64 0)):=hd 5 (zz kR);obtain⟨bd,e14,lobd,hbd⟩:=d5;have hne:bu≠bd:=fun h=>hdis 2 5 bu (zz kR) (zz kR) dE rfl rfl (show yY (gg 11)=some bu by rw [e11];rfl) (show yY (gg 14)=some bu by rw [e14,h];rfl)
   refine z4 11 (.slice (some ⟨bu,0,none⟩) l.length l.length) e11 nu (z4 14 (.slice (some ⟨bd,0,none⟩) l.length l.length) e14 nu ?_);exact oV (yz (v0:= .slice _ _ _) (v1:= .slice _ _ _) (fun v0 v1=>#[v0,v1]) rfl rfl kR) ⟨_,_,rfl,lobu,hbu,lobd,hbd,hne⟩
  | 7,_,hoq=>
   cases sI hoq;have hs0:=hs;refine jx (fun ops Q K=>?_);refine qZ (cs:=#[.slice none 0 0,.slice none 0 0]) ze94 rfl (fun b3 w4 hb3 hs hr=>?_);exact K _ _ ⟨hs,⟨_,rfl,nLT hs0.size hr,hb3⟩,fR hr hb3.lt⟩
  | _ + 8,hix,_=>exact absurd hix om
 intro gg w5 hs hR hdis;replace hB:=hB.tr0 hs;replace hb2:=hb2.tr0 hs;have d6:∃ bu bd,gg 15= .agg #[.slice (some ⟨bu,0,none⟩) l.length l.length,.slice (some ⟨bd,0,none⟩) l.length l.length]∧w1.heap.size≤bu∧Blk w5 bu 122 (row l.length (fun _=> .int .u64 0))∧w1.heap.size≤bd∧Blk w5 bd 122 (row l.length (fun _=> .int .u64 0))∧bu≠bd:=hR 6 dE;obtain⟨bu,bd,e15,lobu,hbu,lobd,hbd,hne⟩:=d6;have d7:∃ b,gg 3= .pointer (some ⟨b,0,none⟩)∧w1.heap.size≤b∧Blk w5 b 94 #[.slice none 0 0,.slice none 0 0]:=hR 7 dE;obtain⟨b3,e3,lo3,hb3⟩:=d7;have h3u:b3≠bu:=fun h=>absurd (jQ (h ▸ hb3) hbu) dE
 have h3d:b3≠bd:=fun h=>absurd (jQ (h ▸ hb3) hbd) dE
 have or_2_3:b2 < b3:=nLL z2 lo3;have or_2_u:b2 < bu:=nLL z2 lobu;have or_2_d:b2 < bd:=nLL z2 lobd;replace lo3:=nLT hsz lo3;replace lobu:=nLT hsz lobu;replace lobd:=nLT hsz lobd;refine qK 15 (.agg #[.slice (some ⟨bu,0,none⟩) l.length l.length,.slice (some ⟨bd,0,none⟩) l.length l.length]) e15 nu (qK 3 (.pointer (some ⟨b3,0,none⟩)) e3 nu ?_);refine zk hb3 rfl rfl sz94 rfl zK (fun w6 hq hs=>?_);replace hB:=hB.tr1 hs lo3;replace hb2:=hb2.tr1 hs om;replace hbu:=hbu.tr1 hs om;replace hbd:=hbd.tr1 hs om;replace hb3:=hq;refine vx ?_;refine q8 [4,5,7,8,18,19,20,21,22,23,24,25,26,27,28,29,30,31,32,33,34,35,36,37,38,39,40,41,42,43,44,45,46,47,48,49,50,51,52,53,54,55,56,57,58,59,60,61,62,63,64,65,66,67,68,69,70,71,72,73] (fun m g w'=>∃ (k:Nat),k≤l.length∧m=l.length - k∧g 18= .int .i64 k∧Bel w w'∧Blk w' b2 94 #[.slice none 0 0,.slice none 0 0]∧Blk w' b3 94 #[.slice (some ⟨bu,0,none⟩) l.length l.length,.slice (some ⟨bd,0,none⟩) l.length l.length]∧Blk w' bu 122 (row l.length (fun i=> .int .u64 ((upP l k i:Nat):Int)))∧Blk w' bd 122 (row l.length (fun i=> .int .u64 ((dnP l k i:Nat):Int)))) (l.length) ?_ (fun m g3 w7 hI=>?_)
 ·refine⟨0,Nat.zero_le _,rfl,rfl,hB,hb2,hb3,?_,?_⟩
  · rw [XX (f:=fun _=>0) (fun j _=>by simp [upP])];exact hbu
  · rw [XX (f:=fun _=>0) (fun j _=>dnP_zero l j)];exact hbd
 obtain⟨k,hk,hm,h18,hB,hb2,hb3,hbu,hbd⟩:=hI;refine zJ 18 (.int .i64 k) h18 nu (zn6 ?_);refine zw rfl (fun c19=>?_) (fun c19=>?_)
 ·have hlt:k < l.length:=by omega
  obtain⟨tb,to,A',cp,rfl,htb,htr,hpar⟩:=hT.at_ hB hlt;have hmx:=hpar.1;unfold yJ at hmx;refine zn8 ?_;refine wl (zW C9 rfl rfl htr VV) ?_;refine qZ (cs:=#[.string ⟨#[]⟩,.slice none 0 0]) Ek rfl (fun b5 w8 hb5 hs hr=>?_);have:=nLL hb2.lt hr;have:=nLL hbu.lt hr;have:=nLL hbd.lt hr;have:=nLL hb3.lt hr;have lo5:=nLT (Bel.size hB) hr;replace hB:=hB.tr0 hs;replace hb2:=hb2.tr0 hs;replace hbu:=hbu.tr0 hs;replace hbd:=hbd.tr0 hs;replace hb3:=hb3.tr0 hs;refine waI rfl ?_;refine zk hb5 rfl rfl VV rfl zK (fun w9 hq hs=>?_);replace hB:=hB.tr1 hs lo5;replace hb2:=hb2.tr1 hs om;replace hbu:=hbu.tr1 hs om;replace hbd:=hbd.tr1 hs om;replace hb3:=hb3.tr1 hs om;replace hb5:=hq;refine zn3 ?_;refine Qy 6 kR kR (fun w10 hs=>?_);replace hB:=hB.tr0 hs;replace hb2:=hb2.tr0 hs;replace hbu:=hbu.tr0 hs;replace hbd:=hbd.tr0 hs;replace hb3:=hb3.tr0 hs;replace hb5:=hb5.tr0 hs;refine zn4 ?_;refine ws (r_shl1 rfl rfl om rfl) (zn1 ?_);refine Q5 ?_;refine xY (v:= .int _ _) hbu rfl rfl WX (by rw [row_size];omega) rfl u3 (fun w11 hq hs=>?_);replace hB:=hB.tr1 hs lobu;replace hb2:=hb2.tr1 hs om;replace hbd:=hbd.tr1 hs om;replace hb3:=hb3.tr1 hs om;replace hb5:=hb5.tr1 hs om;replace hbu:=hq;replace hbu:Blk w11 bu 122 (row l.length (fun i=> .int .u64 ((uS l k (j6 (V9 l k ((l[k]'hlt).par.take 0)) l.length) i:Nat):Int))):=by
    rw [RQ (g:=fun i=>upP l k i)] at hbu;rw [XX (f:=fun i=>if i=k then 2 ^ k else upP l k i) (fun j _=>by rw [List.take_zero,parM_zero hlt];rfl)];exact hbu
  refine yj ?_;refine q8 [7,32,33,34,35,36,37,38,39,40,41,42,43,44,45,46,47,48] (fun m g w'=>∃ (j:Nat),j≤(l[k]'hlt).par.length∧m=(l[k]'hlt).par.length - j∧g 32= .int .i64 j∧Bel w w'∧Blk w' b2 94 #[.slice none 0 0,.slice none 0 0]∧Blk w' b3 94 #[.slice (some ⟨bu,0,none⟩) l.length l.length,.slice (some ⟨bd,0,none⟩) l.length l.length]∧Blk w' bu 122 (row l.length (fun i=> .int .u64 ((uS l k (j6 (V9 l k ((l[k]'hlt).par.take j)) l.length) i:Nat):Int)))∧Blk w' bd 122 (row l.length (fun i=> .int .u64 ((dnP l k i:Nat):Int)))∧Blk w' b5 113 #[.string (l[k]'hlt).name,.slice A' (l[k]'hlt).par.length cp]) ((l[k]'hlt).par.length) ?_ (fun m g7 w12 hI=>?_)
  ·exact⟨0,Nat.zero_le _,rfl,rfl,hB,hb2,hb3,hbu,hbd,hb5⟩
  obtain⟨j,hj,hmj,h32,hB,hb2,hb3,hbu,hbd,hb5⟩:=hI;refine zJ 32 (.int .i64 j) h32 nu (zn6 ?_);refine zw rfl (fun c33=>?_) (fun c33=>?_)
  ·have hlj:j < (l[k]'hlt).par.length:=by omega
   obtain⟨pb,po,rfl,hpb,hpc⟩:=hpar.at_ hlj;replace hpc:=hB.cell hpb hpc;have hpr:=hv k hlt _ (List.getElem_mem hlj);obtain⟨pn,hpn⟩:∃ pn:Nat,pn=((l[k]'hlt).par[j]).toNat:=⟨_,rfl⟩
   have hpi:(l[k]'hlt).par[j]=(pn:Int):=by rw [hpn];exact(Int.toNat_of_nonneg hpr.1).symm
   rw [hpi] at hpc hpr;have hXl:=gw (V9 l k ((l[k]'hlt).par.take j)) h60;refine zn7 ?_;refine wl (qk (v:= .int _ _) U3 rfl rfl hpc) (zn3 ?_);refine Qy 12 kR kR (fun w13 hs=>?_);replace hB:=hB.tr0 hs;replace hb2:=hb2.tr0 hs;replace hbu:=hbu.tr0 hs;replace hbd:=hbd.tr0 hs;replace hb3:=hb3.tr0 hs;replace hb5:=hb5.tr0 hs;refine zn4 ?_;refine ws (qk (v:= .int _ _) X2 rfl rfl (hbu.cell (vK hlt))) (zn4 ?_);refine ws (qk (v:= .int _ _) X2 rfl rfl (hbu.cell (vK om))) (ws (ZX rfl rfl (uS_bd h60 hXl) (uS_bd h60 hXl)) (zn1 ?_));refine Q5 ?_;refine xY (v:= .int _ _) hbu rfl rfl WX (by rw [row_size];omega) rfl u3 (fun w14 hq hs=>?_);replace hB:=hB.tr1 hs lobu;replace hb2:=hb2.tr1 hs om;replace hbd:=hbd.tr1 hs om;replace hb3:=hb3.tr1 hs om;replace hb5:=hb5.tr1 hs om;replace hbu:=hq;replace hbu:Blk w14 bu 122 (row l.length (fun i=> .int .u64 ((uS l k (j6 (V9 l k ((l[k]'hlt).par.take (j + 1))) l.length) i:Nat):Int))):=by
     rw [RQ (g:=fun i=>uS l k (j6 (V9 l k ((l[k]'hlt).par.take j)) l.length) i)] at hbu
     rw [XX (f:=fun i=>if i=k then uS l k (j6 (V9 l k ((l[k]'hlt).par.take j)) l.length) k ||| uS l k (j6 (V9 l k ((l[k]'hlt).par.take j)) l.length) pn else uS l k (j6 (V9 l k ((l[k]'hlt).par.take j)) l.length) i) (fun i _=>by
       rw [uS_k,uS_lt (show pn < k by omega),hpn,parM_snoc hlj];by_cases e:i=k
       · simp [e,uS_k]
       · simp [e,uS])]
     exact hbu
   refine zn7 ?_;refine xv ((l[k]'hlt).par.length - (j + 1)) om agA ?_;exact⟨j + 1,by omega,rfl,rfl,hB,hb2,hb3,hbu,hbd,hb5⟩
  have hjl:j=(l[k]'hlt).par.length:=by omega
  rw [hjl,List.take_length,parM_end hv hlt,XX (f:=fun i=>upP l (k + 1) i) (fun i _=>uS_end l k i)] at hbu;refine jq ?_;refine q8 [8,51,52,53,54,55,56,57,58,59,60,61,62,63,64,65,66,67,68,69,70,71,72] (fun m g w'=>∃ (j:Nat),j≤l.length∧m=l.length - j∧g 51= .int .i64 j∧Bel w w'∧Blk w' b2 94 #[.slice none 0 0,.slice none 0 0]∧Blk w' b3 94 #[.slice (some ⟨bu,0,none⟩) l.length l.length,.slice (some ⟨bd,0,none⟩) l.length l.length]∧Blk w' bu 122 (row l.length (fun i=> .int .u64 ((upP l (k + 1) i:Nat):Int)))∧Blk w' bd 122 (row l.length (fun i=> .int .u64 ((dS l k j i:Nat):Int)))) (l.length) ?_ (fun m g12 w15 hI=>?_)
  ·refine⟨0,Nat.zero_le _,rfl,rfl,hB,hb2,hb3,hbu,?_⟩;rw [XX (f:=fun i=>dnP l k i) (fun i _=>by simp [dS])];exact hbd
  obtain⟨j,hj,hmj,h51,hB,hb2,hb3,hbu,hbd⟩:=hI;refine zJ 51 (.int .i64 j) h51 nu (zn6 ?_);refine zw rfl (fun c52=>?_) (fun c52=>?_)
  ·have hlj:j < l.length:=by omega
   have huk:upP l (k + 1) k=upN l k:=by simp [upP]
   have huv:=TJ h60 k;have hbit:=NY (upN l k) j;have hbt:(upN l k).testBit j=sub l k j:=by unfold upN;rw [j5];simp [hlj]
   rw [hbt] at hbit;refine M1 ?_;refine wl (qk (v:= .int _ _) X2 rfl rfl (hbu.cell (vK hlt))) (wmI rfl (wl (H3 (b:=j) rfl rfl om rfl) (wl (V8 (b:=1) rfl rfl (by rw [huk];exact Nat.lt_of_le_of_lt (Nat.shiftRight_le _ _) huv) dE) (zn3 ?_))));refine zw rfl (fun c62=>?_) (fun c62=>?_)
   ·have hs1:sub l k j=true:=by rw [← hbit];exact decide_eq_true (by rw [huk] at c62;omega)
    refine Qy 9 kR kR (fun w16 hs=>?_);replace hB:=hB.tr0 hs;replace hb2:=hb2.tr0 hs;replace hbu:=hbu.tr0 hs;replace hbd:=hbd.tr0 hs;replace hb3:=hb3.tr0 hs;refine zn4 ?_;refine ws (qk (v:= .int _ _) X2 rfl rfl (hbd.cell (vK hlj))) (zn1 ?_);refine ws (r_shl1 rfl rfl om rfl) (ws (ZX rfl rfl (dS_lt h60 _ _ _) (nLL (Nat.pow_lt_pow_right dE (show k < 60 by omega)) dE)) (zn1 ?_));refine Q5 ?_;refine xY (v:= .int _ _) hbd rfl rfl WX (by rw [row_size];omega) rfl u3 (fun w17 hq hs=>?_);replace hB:=hB.tr1 hs lobd;replace hb2:=hb2.tr1 hs om;replace hbu:=hbu.tr1 hs om;replace hb3:=hb3.tr1 hs om;replace hbd:=hq;rw [RQ (g:=fun i=>dS l k j i),XX (f:=fun i=>dS l k (j + 1) i) (fun i _=>dS_yes hlt hs1 i)] at hbd;refine zn7 ?_;refine xv (l.length - (j + 1)) om agA ?_;exact⟨j + 1,by omega,rfl,rfl,hB,hb2,hb3,hbu,hbd⟩
   have hs1:sub l k j=false:=by rw [← hbit];exact decide_eq_false (by rw [huk] at c62;omega)
   rw [XX (f:=fun i=>dS l k (j + 1) i) (fun i _=>dS_no hs1 i)] at hbd;refine zn7 ?_;refine xv (l.length - (j + 1)) om agA ?_;exact⟨j + 1,by omega,rfl,rfl,hB,hb2,hb3,hbu,hbd⟩
  have hjl:j=l.length:=by omega
  rw [hjl,XX (f:=fun i=>dnP l (k + 1) i) (fun i hi=>by simp [dS,hi])] at hbd;refine yq ?_;refine xv (l.length - (k + 1)) om agA ?_;exact⟨k + 1,by omega,rfl,rfl,hB,hb2,hb3,hbu,hbd⟩
 have hkl:k=l.length:=by omega
 subst hkl;refine zn8 ?_;refine zk hb2 rfl rfl sz94 rfl zK (fun w18 hq hs=>?_);replace hB:=hB.tr1 hs lo2;replace hbu:=hbu.tr1 hs om;replace hbd:=hbd.tr1 hs om;replace hb2:=hq;refine zn3 ?_;refine x5 (.inl rfl) rfl (zy U94 rfl rfl hb2.range0 sz94) ?_;refine⟨bu,bd,rfl,⟨?_,?_⟩,hB⟩
 · rw [XX (f:=upN l) (fun i hi=>upP_end hi)] at hbu;exact hbu
 · rw [XX (f:=oJ l) (fun i _=>dnP_end l i)] at hbd;exact hbd
end Go.Proofs.YtdkfnakncaggoaaGreatDoor
namespace Go.Proofs.YtdkfnakncaggoaaGreatDoor
open Go.RowKit
theorem I7 {i:Int}:∀ {ps:List Int} {last:Int},vJ i last ps=0→∀ p ∈ ps,0≤p∧p < i
  | [],_,_,p,hp=>by cases hp
  | q :: ps,last,h,p,hp=>by
    unfold vJ at h
    by_cases h1:q < 0∨i≤q
    · rw [if_pos h1] at h;cases h
    rw [if_neg h1] at h
    by_cases h2:q≤last
    · rw [if_pos h2] at h;cases h
    rw [if_neg h2] at h
    rcases List.mem_cons.1 hp with rfl | hp
    · omega
    · exact I7 h p hp
theorem R1 {l:List Ty} {k:Nat} (hk:k < l.length) (h:yv l k=0):y6 (l[k]).name=true∧j9 ((l.take k).map (·.name)) (l[k]).name=false∧(decide (k=0) == (l[k]).par.isEmpty)=true∧vJ k (-1) (l[k]).par=0:=by
  cases h1:y6 (l[k]).name with
  | false=>rw [ty10 l k hk h1] at h;cases h
  | true=>
    cases h2:j9 ((l.take k).map (·.name)) (l[k]).name with
    | true=>rw [ty7 l k hk h1 h2] at h;cases h
    | false=>
      cases h3:(decide (k=0) == (l[k]).par.isEmpty) with
      | false=>rw [ty5 l k hk h1 h2 h3] at h;cases h
      | true=>
        rw [EZ l k hk h1 h2 h3,List.drop_zero] at h;exact⟨rfl,rfl,rfl,h⟩
theorem ux {f:Nat→Int}:∀ {m i:Nat},(qy f i m).1=0→∀ j,i≤j→j < i + m→f j=0
  | 0,i,_,j,h1,h2=>by omega
  | m + 1,i,h,j,h1,h2=>by
    unfold qy at h
    by_cases h3:f i≠0
    · rw [if_pos h3] at h;exact absurd h h3
    rw [if_neg h3] at h
    by_cases e:j=i
    · subst e;exact Decidable.not_not.1 h3
    · exact ux h j om om
theorem Kz {l:List Ty} (h:(xx l).1=0):¬(l.length=0∨60 < l.length):=by
  intro hb;simp only [xx,if_pos hb] at h;cases h
theorem types_ok {l:List Ty} (h:(xx l).1=0) {k:Nat} (hk:k < l.length):yv l k=0:=by
  have hb:=Kz h;simp only [xx,if_neg hb] at h;exact ux h k (Nat.zero_le _) om
theorem vt_of {l:List Ty} (h:(xx l).1=0):VT l:=fun _ hi p hp=>I7 (R1 hi (types_ok h hi)).2.2.2 p hp
def Ij (l:List Ty) (b:Nat):Int:=if (List.range b).any (fun a=>(oj l a b).2.2) then 16 else 0
theorem M6 {l:List Ty} {a b:Nat} (h:a < b) (hm:(oj l a b).2.2=true):Ij l b=16:=by
  unfold Ij;rw [if_pos (List.any_eq_true.2 ⟨a,List.mem_range.2 h,hm⟩)]
theorem W8 {l:List Ty} {b:Nat} (h:∀ a,a < b→(oj l a b).2.2=false):Ij l b=0:=by
  unfold Ij;rw [if_neg];intro hc;obtain⟨a,ha,hm⟩:=List.any_eq_true.1 hc;rw [h a (List.mem_range.1 ha)] at hm;cases hm
def N1 (n:Nat) (t:Ft):Prop:=t.of < 0∨(n:Int)≤t.of∨t.val < 0∨(n:Int)≤t.val
instance (n:Nat) (t:Ft):Decidable (N1 n t):=by unfold N1;infer_instance
def u4 (n:Nat) (fs:List Ft) (i:Nat):Int:=match fs[i]? with
  | none=>0
  | some t=>if y6 t.name=false then 10 else if j9 ((fs.take i).map (·.name)) t.name=true then 7 else if N1 n t then 3 else 0
theorem ft10 (n:Nat) (l:List Ft) (k:Nat) (hlt:k < l.length) (h1:y6 l[k].name=false):u4 n l k=10:=by
  simp only [u4,List.getElem?_eq_getElem hlt,h1,if_true]
theorem ft7 (n:Nat) (l:List Ft) (k:Nat) (hlt:k < l.length) (h1:y6 l[k].name=true) (h2:j9 ((l.take k).map (·.name)) l[k].name=true):u4 n l k=7:=by
  simp only [u4,List.getElem?_eq_getElem hlt,h1,h2,if_true];rfl
theorem ft3 (n:Nat) (l:List Ft) (k:Nat) (hlt:k < l.length) (h1:y6 l[k].name=true) (h2:j9 ((l.take k).map (·.name)) l[k].name=false) (h3:N1 n l[k]):u4 n l k=3:=by
  simp only [u4,List.getElem?_eq_getElem hlt,h1,h2,if_pos h3];rfl
theorem ft0 (n:Nat) (l:List Ft) (k:Nat) (hlt:k < l.length) (h1:y6 l[k].name=true) (h2:j9 ((l.take k).map (·.name)) l[k].name=false) (h3:¬N1 n l[k]):u4 n l k=0:=by
  simp only [u4,List.getElem?_eq_getElem hlt,h1,h2,if_neg h3];rfl
def ky (l:List Ty):Fl:=qy (Ij l) 0 l.length
def qY (l:List Ty) (fs:List Ft):Fl:=
  if 40 < fs.length then (2,-1)
  else if (xx l).1≠0 then xx l
  else if (ky l).1≠0 then ky l
  else qy (u4 l.length fs) 0 fs.length
theorem HQ {l:List Ty} {fs:List Ft} (h:l.length=0∨60 < l.length∨40 < fs.length):qY l fs=(2,-1):=by
  unfold qY;by_cases h4:40 < fs.length
  · rw [if_pos h4]
  · have hb:l.length=0∨60 < l.length:=by omega
    have ht:xx l=(2,-1):=by simp only [xx,if_pos hb]
    rw [if_neg h4,ht];rfl
theorem SV {l:List Ty} {fs:List Ft} (h:¬40 < fs.length) (ht:(xx l).1≠0):qY l fs=((xx l).1,(xx l).2):=by
  unfold qY;rw [if_neg h,if_pos ht]
theorem SK {l:List Ty} {fs:List Ft} (h:¬40 < fs.length) (ht:(xx l).1=0) {k:Int} (hu:ky l=(16,k)):qY l fs=(16,k):=by
  unfold qY;rw [if_neg h,if_neg (by rw [ht];exact fun h=>h rfl),hu];rfl
theorem HX {l:List Ty} {fs:List Ft} (h:¬40 < fs.length) (ht:(xx l).1=0) (hu:ky l=(0,0)):qY l fs=qy (u4 l.length fs) 0 (fs.length - 0):=by
  unfold qY;rw [if_neg h,if_neg (by rw [ht];exact fun h=>h rfl),hu];rfl
theorem fn41:zQ Tryz.prog 41=true:=by kernel_rfl
theorem Fy:zQ Tryz.prog 62=true:=by kernel_rfl
theorem gW:zQ Tryz.prog 78=true:=by kernel_rfl
theorem fn79:zQ Tryz.prog 79=true:=by kernel_rfl
theorem fn80:zQ Tryz.prog 80=true:=by kernel_rfl
theorem xz:(Tryz.prog.info? 37).map (·.size)=some 2:=by kernel_rfl
theorem Rz:(Tryz.prog.info? 71).map (·.size)=some 3:=by kernel_rfl
theorem L4:(Tryz.prog.info? 3).map (·.zero)=some (some (.int .i64 0)):=by kernel_rfl
theorem Q1:(Tryz.prog.info? 37).map (·.zero)=some (some (.agg #[.int .i64 0,.int .i64 0])):=by kernel_rfl
theorem ze71:(Tryz.prog.info? 71).map (·.zero)=some (some (.agg #[.string ⟨#[]⟩,.int .i64 0,.int .i64 0])):=by kernel_rfl
theorem Ey (A B:Option Addr) (c d:Nat) (l:List Ty) (fs:List Ft) (w:World) (hTab:TabIn w) (hT:TypesIn w A l) (hF:FeatsIn w B fs):Calls Tryz.prog 61 #[.agg #[.slice A l.length c,.slice B fs.length d]] w fun e w'=>e= .returned (flV (qY l fs))∧Bel w w':=by
 refine enter Tryz.func61 Tryz.ntmps61 rfl (Nat.le_of_ble_eq_true rfl) ?_;have hB:Bel w w:=Below.refl _ _;refine zn2 ?_;refine qW (v:= .agg #[_,_]) (cs:=#[_,_]) rfl rfl (fun b1 w1 hb1 hs hr=>?_);replace hB:=hB.tr0 hs;refine qZ (cs:=#[.int .i64 0,.int .i64 0]) Q1 rfl (fun b2 w2 hb2 hs hr=>?_);have lo2:=nLT (Bel.size hB) hr;replace hB:=hB.tr0 hs;replace hb1:=hb1.tr0 hs;refine zn4 ?_;refine x7 [15,16,17,18,19,20,21,22,23,24,25,26,27,28,29,30] 30 (.bool (decide (l.length=0∨60 < l.length∨40 < fs.length))) nu ?_ (fun gq=>?_)
 ·refine zn6 ?_;refine zj 19 rfl (fun g19=>?_) (fun g19=>?_)
  ·refine vx ?_;refine zZ (e_R ⟨rfl,agA,?_⟩);exact clA
  refine yq ?_;refine zj 25 rfl (fun g25=>?_) (fun g25=>?_)
  ·refine zn5 ?_;refine zZ (e_R ⟨rfl,agA,?_⟩);exact clA
  refine zn9 ?_;refine zZ (e_R ⟨rfl,agA,?_⟩);exact clA
 refine e_S ?_;refine zw rfl (fun c30=>?_) (fun c30=>?_)
 ·refine zn2 ?_;refine zV gW (jZ _ _ _) rfl (fun e' w3 hr=>?_);obtain⟨rfl,hs⟩:=hr;replace hs:=sB hs;replace hB:=hB.tr0 hs;replace hb2:=hb2.tr0 hs;refine⟨_,rfl,?_⟩;refine zk hb2 rfl rfl xz rfl zK (fun w4 hq hs=>?_);replace hB:=hB.tr1 hs lo2;replace hb2:=hq;refine zn4 ?_;refine x5 (.inl rfl) rfl (zy U37 rfl rfl hb2.range0 xz) ?_;exact⟨qQ (HQ c30),hB⟩
 refine zn7 ?_;refine zV fn79 (Lz _ _ _ _ (hT.mono hB)) rfl (fun e' w5 hr=>?_);obtain⟨rfl,hs⟩:=hr;replace hs:=sB hs;replace hB:=hB.tr0 hs;replace hb1:=hb1.tr0 hs;replace hb2:=hb2.tr0 hs;refine⟨_,rfl,?_⟩;refine xV (cs:=#[.int .i64 0,.int .i64 0]) Q1 rfl (fun _=>rfl) (fun _=>rfl) xz rfl zK (fun b3 w7 hb3 hs hr=>?_);replace hB:=hB.tr0 hs;replace hb1:=hb1.tr0 hs;replace hb2:=hb2.tr0 hs;refine zn9 ?_;refine zw rfl (fun c37=>?_) (fun c37=>?_)
 ·refine zn3 ?_;refine zk hb2 rfl rfl xz rfl zK (fun w8 hq hs=>?_);replace hB:=hB.tr1 hs lo2;replace hb2:=hq;refine zn4 ?_;refine x5 (.inl rfl) rfl (zy U37 rfl rfl hb2.range0 xz) ?_;exact⟨qQ (SV om om),hB⟩
 have ht0:(xx l).1=0:=by omega
 have hv:=vt_of ht0;refine zn6 ?_;refine zV fn41 (Mq _ _ _ _ (hT.mono hB) hv om) rfl (fun e' w9 hr=>?_);obtain⟨bu,bd,rfl,⟨hbu,hbd⟩,hs⟩:=hr;replace hs:=sB hs;replace hB:=hB.tr0 hs;replace hb1:=hb1.tr0 hs;replace hb2:=hb2.tr0 hs;replace hb3:=hb3.tr0 hs;have h2u:b2≠bu:=fun h=>absurd (jQ (h ▸ hb2) hbu) dE
 have h2d:b2≠bd:=fun h=>absurd (jQ (h ▸ hb2) hbd) dE
 refine⟨_,rfl,?_⟩;refine xV (cs:=#[.slice none 0 0,.slice none 0 0]) ze94 rfl (fun _=>rfl) (fun _=>rfl) sz94 rfl zK (fun b4 w11 hb4 hs hr=>?_);replace hB:=hB.tr0 hs;replace hb1:=hb1.tr0 hs;replace hb2:=hb2.tr0 hs;replace hbu:=hbu.tr0 hs;replace hbd:=hbd.tr0 hs;refine yj ?_;refine q8 [5,6,7,8,9,45,46,47,48,49,50,51,52,53,54,55,56,57,58,59,60,61,62,63,64] (fun m g w'=>∃ (k:Nat),k≤l.length∧m=l.length - k∧g 45= .int .i64 k∧Bel w w'∧Blk w' b1 25 #[.slice A l.length c,.slice B fs.length d]∧Blk w' b2 37 #[.int .i64 0,.int .i64 0]∧Blk w' b4 94 #[.slice (some ⟨bu,0,none⟩) l.length l.length,.slice (some ⟨bd,0,none⟩) l.length l.length]∧Blk w' bu 122 (rU l.length (upN l))∧Blk w' bd 122 (rU l.length (oJ l))∧ky l=qy (Ij l) k (l.length - k)) (l.length) ?_ (fun m g8 w12 hI=>?_)
 ·exact⟨0,Nat.zero_le _,rfl,rfl,hB,hb1,hb2,hb4,hbu,hbd,rfl⟩
 obtain⟨k,hk,hm,h45,hB,hb1,hb2,hb4,hbu,hbd,hU⟩:=hI;refine zJ 45 (.int .i64 k) h45 nu (zn6 ?_);refine zw rfl (fun c46=>?_) (fun c46=>?_)
 ·have hlt:k < l.length:=by omega
  refine M0 ?_;refine q8 [6,7,8,9,49,50,51,52,53,54,55,56,57,58,59,60,61,62,63] (fun m g w'=>∃ (a:Nat),a≤k∧m=k - a∧g 49= .int .i64 a∧Bel w w'∧Blk w' b1 25 #[.slice A l.length c,.slice B fs.length d]∧Blk w' b2 37 #[.int .i64 0,.int .i64 0]∧Blk w' b4 94 #[.slice (some ⟨bu,0,none⟩) l.length l.length,.slice (some ⟨bd,0,none⟩) l.length l.length]∧Blk w' bu 122 (rU l.length (upN l))∧Blk w' bd 122 (rU l.length (oJ l))∧(∀ j,j < a→(oj l j k).2.2=false)) (k) ?_ (fun m g11 w13 hI=>?_)
  ·exact⟨0,Nat.zero_le _,rfl,rfl,hB,hb1,hb2,hb4,hbu,hbd,fun j hj=>by omega⟩
  obtain⟨a,ha,hma,h49,hB,hb1,hb2,hb4,hbu,hbd,hM⟩:=hI;refine zJ 49 (.int .i64 a) h49 nu (zn6 ?_);refine zw rfl (fun c50=>?_) (fun c50=>?_)
  ·refine Zk ?_;refine zV fn80 (meet_any l bu bd a k _ (hTab.mono hB) ⟨hbu,hbd⟩ hv om om hlt) rfl (fun e' w14 hr=>?_);obtain⟨rfl,hs⟩:=hr;replace hs:=sB hs;replace hB:=hB.tr0 hs;replace hb1:=hb1.tr0 hs;replace hb2:=hb2.tr0 hs;replace hbu:=hbu.tr0 hs;replace hbd:=hbd.tr0 hs;replace hb4:=hb4.tr0 hs;refine⟨_,rfl,?_⟩;refine wmT rfl (wl (jv (v:= .int _ _) rfl rfl) (wl (jv (v:= .bool _) rfl rfl) (wl (jv (v:= .bool _) rfl rfl) (yq ?_))));refine j7 rfl (fun c60=>?_) (fun c60=>?_)
   ·have hun:=M6 (show a < k by omega) c60;have hfin:=SK (fs:=fs) om ht0 (hU.trans (qV om hun dE));refine zn3 ?_;refine zV gW (jZ _ _ _) rfl (fun e' w15 hr=>?_);obtain⟨rfl,hs⟩:=hr;replace hs:=sB hs;replace hB:=hB.tr0 hs;replace hb2:=hb2.tr0 hs;refine⟨_,rfl,?_⟩;refine zk hb2 rfl rfl xz rfl zK (fun w16 hq hs=>?_);replace hB:=hB.tr1 hs lo2;replace hb2:=hq;refine yj ?_;refine x5 (.inl rfl) rfl (zy U37 rfl rfl hb2.range0 xz) ?_;exact⟨qQ hfin,hB⟩
   refine zn7 ?_;refine xv (k - (a + 1)) om agA ?_
   exact⟨a + 1,by omega,rfl,rfl,hB,hb1,hb2,hb4,hbu,hbd,fun j hj=>by
     by_cases e:j=a
     · subst e;exact c60
     · exact hM j om⟩
  have hun:Ij l k=0:=W8 (fun j hj=>hM j om);refine yq ?_;refine xv (l.length - (k + 1)) om agA ?_;exact⟨k + 1,by omega,rfl,rfl,hB,hb1,hb2,hb4,hbu,hbd,hU.trans (yx hlt hun)⟩
 have hR:=Lib.hid (HX (fs:=fs) om ht0 (hU.trans (yK om)));refine zn7 ?_;refine wl_mm (fun b65 w17 hb65 hs hr=>?_);have:=nLL hb1.lt hr;have:=nLL hb2.lt hr;have lo65:=nLT (Bel.size hB) hr;replace hB:=hB.tr0 hs;replace hb1:=hb1.tr0 hs;replace hb2:=hb2.tr0 hs;refine wl (u7 (v:= .map _) rfl) (yj ?_);refine q8 [11,12,13,14,69,70,71,72,73,74,75,76,77,78,79,80,81,82,83,84,85,86,87,88,89,90,91,92,93,94,95,96,97,98,99,100,101,102,103,104,105,106,107,108,109,110,111,112,113,114,115,116,117,118,119,120] (fun m g w'=>∃ (k:Nat) (mp:List (ByteArray×Value)),k≤fs.length∧m=fs.length - k∧g 69= .int .i64 k∧Bel w w'∧Blk w' b1 25 #[.slice A l.length c,.slice B fs.length d]∧Blk w' b2 37 #[.int .i64 0,.int .i64 0]∧MapS w' b65 mp∧(∀ s,lkB mp s=j9 ((fs.take k).map (·.name)) s)∧qY l fs=qy (u4 l.length fs) k (fs.length - k)) (fs.length) ?_ (fun m g20 w18 hI=>?_)
 ·exact⟨0,[],Nat.zero_le _,rfl,rfl,hB,hb1,hb2,hb65,fun s=>rfl,hR.out⟩
 obtain⟨k,mp,hk,hm,h69,hB,hb1,hb2,hb65,hmp,hR'⟩:=hI;refine zJ 69 (.int .i64 k) h69 nu (zn6 ?_);refine zw rfl (fun c70=>?_) (fun c70=>?_)
 ·have hlt:k < fs.length:=by omega
  obtain⟨tb,to,rfl,htb,htr⟩:=hF.at_ hB hlt;refine zn8 ?_;refine wl (zW U71 rfl rfl htr Rz) ?_;refine qZ (cs:=#[.string ⟨#[]⟩,.int .i64 0,.int .i64 0]) ze71 rfl (fun b12 w19 hb12 hs hr=>?_);have:=nLL hb1.lt hr;have:=nLL hb2.lt hr;have:=nLL hb65.lt hr;have lo12:=nLT (Bel.size hB) hr;replace hB:=hB.tr0 hs;replace hb1:=hb1.tr0 hs;replace hb2:=hb2.tr0 hs;replace hb65:=hb65.tr0 hs;refine waI rfl ?_;refine zk hb12 rfl rfl Rz rfl zK (fun w20 hq hs=>?_);replace hB:=hB.tr1 hs lo12;replace hb1:=hb1.tr1 hs om;replace hb2:=hb2.tr1 hs om;replace hb65:=hb65.tr1 hs om;replace hb12:=hq;refine zn7 ?_;refine zV Fy (JK _ _) rfl (fun e' w21 hr=>?_);obtain⟨rfl,rfl⟩:=hr;refine⟨_,rfl,?_⟩;refine zn3 ?_;refine j7 rfl (fun c77=>?_) (fun c77=>?_)
  ·have hty:=ft10 l.length fs k hlt (by simpa using c77);refine zn3 ?_;refine zV gW (jZ _ _ _) rfl (fun e' w22 hr=>?_);obtain⟨rfl,hs⟩:=hr;replace hs:=sB hs;replace hB:=hB.tr0 hs;replace hb2:=hb2.tr0 hs;refine⟨_,rfl,?_⟩;refine zk hb2 rfl rfl xz rfl zK (fun w23 hq hs=>?_);replace hB:=hB.tr1 hs lo2;replace hb2:=hq;refine zn9 ?_;refine x5 (.inl rfl) rfl (zy U37 rfl rfl hb2.range0 xz) ?_;exact⟨qQ (hR'.trans (qV (c:=10) om hty dE)),hB⟩
  have hnm:y6 (fs[k]'hlt).name=true:=by simpa using c77
  refine zn5 ?_;refine wl (x9 (v:= .map _) rfl) (zn2 ?_);refine wl (r_lkS hb65 Tj U9 L4 rfl rfl) (wmT rfl (wl (jv (v:=_) rfl rfl) (wl (jv (v:= .bool _) rfl rfl) (wl (u7 (v:=_) rfl) (zn8 ?_)))));refine j7 rfl (fun c87=>?_) (fun c87=>?_)
  ·have hty:=ft7 l.length fs k hlt hnm ((hmp _).symm.trans c87);refine zn3 ?_;refine zV gW (jZ _ _ _) rfl (fun e' w24 hr=>?_);obtain⟨rfl,hs⟩:=hr;replace hs:=sB hs;replace hB:=hB.tr0 hs;replace hb2:=hb2.tr0 hs;refine⟨_,rfl,?_⟩;refine zk hb2 rfl rfl xz rfl zK (fun w25 hq hs=>?_);replace hB:=hB.tr1 hs lo2;replace hb2:=hq;refine zn9 ?_;refine x5 (.inl rfl) rfl (zy U37 rfl rfl hb2.range0 xz) ?_;exact⟨qQ (hR'.trans (qV (c:=7) om hty dE)),hB⟩
  have hsn:j9 ((fs.take k).map (·.name)) (fs[k]'hlt).name=false:=by rw [← hmp];exact c87
  have hmp':∀ s,lkB (Kw mp (fs[k]'hlt).name (.int .i64 k)) s=j9 ((fs.take (k + 1)).map (·.name)) s:=fun s=>by
    rw [kV _ _ _ c87,uz fs hlt,List.map_append,List.map_cons,List.map_nil,gv,← hmp];simp [lkB]
  refine zn4 ?_;refine wl (x9 (v:= .map _) rfl) (zn3 ?_);refine TX (v:= .int _ _) hb65 Tj U9 rfl rfl rfl (fun w26 hq hs=>?_);replace hB:=hB.tr1 hs lo65;replace hb1:=hb1.tr1 hs om;replace hb2:=hb2.tr1 hs om;replace hb12:=hb12.tr1 hs om;replace hb65:=hq;refine zn3 ?_;refine x7 [94,95,96,97,98,99,100,101,102,103,104,105,106,107,108,109,110,111,112,113,114,115,116,117] 117 (.bool (decide ((fs[k]'hlt).of < 0∨(l.length:Int)≤(fs[k]'hlt).of∨(fs[k]'hlt).val < 0∨(l.length:Int)≤(fs[k]'hlt).val))) nu ?_ (fun gq=>?_)
  ·refine zn5 ?_;refine zj 97 rfl (fun g97=>?_) (fun g97=>?_)
   ·refine zn20 ?_;refine zZ (e_R ⟨rfl,agA,?_⟩);exact clA
   refine oY ?_;refine zj 105 rfl (fun g105=>?_) (fun g105=>?_)
   ·refine yj ?_;refine zZ (e_R ⟨rfl,agA,?_⟩);exact clA
   refine zn8 ?_;refine zj 110 rfl (fun g110=>?_) (fun g110=>?_)
   ·refine zn7 ?_;refine zZ (e_R ⟨rfl,agA,?_⟩);exact clA
   refine jq ?_;refine zZ (e_R ⟨rfl,agA,?_⟩);exact clA
  refine e_S ?_;refine zw rfl (fun c117=>?_) (fun c117=>?_)
  ·have hty:=ft3 l.length fs k hlt hnm hsn c117;refine zn3 ?_;refine zV gW (jZ _ _ _) rfl (fun e' w27 hr=>?_);obtain⟨rfl,hs⟩:=hr;replace hs:=sB hs;replace hB:=hB.tr0 hs;replace hb2:=hb2.tr0 hs;refine⟨_,rfl,?_⟩;refine zk hb2 rfl rfl xz rfl zK (fun w28 hq hs=>?_);replace hB:=hB.tr1 hs lo2;replace hb2:=hq;refine zn8 ?_;refine x5 (.inl rfl) rfl (zy U37 rfl rfl hb2.range0 xz) ?_;exact⟨qQ (hR'.trans (qV (c:=3) om hty dE)),hB⟩
  have hty:=ft0 l.length fs k hlt hnm hsn c117;refine zn7 ?_;refine xv (fs.length - (k + 1)) om agA ?_;exact⟨k + 1,Kw mp (fs[k]'hlt).name (.int .i64 k),by omega,rfl,rfl,hB,hb1,hb2,hb65,hmp',hR'.trans (yx hlt hty)⟩
 refine zn7 ?_;refine wl (uw (vs:=#[]) (cs:=#[.int .i64 0,.int .i64 0]) (by simp) kR) ?_;refine zk hb2 rfl rfl xz rfl zK (fun w29 hq hs=>?_);replace hB:=hB.tr1 hs lo2;replace hb2:=hq;refine zn3 ?_;refine x5 (.inl rfl) rfl (zy U37 rfl rfl hb2.range0 xz) ?_;exact⟨qQ (hR'.trans (yK om)),hB⟩
end Go.Proofs.YtdkfnakncaggoaaGreatDoor
namespace Go.Proofs.YtdkfnakncaggoaaGreatDoor
open Go.RowKit
theorem meet_yes {l:List Ty} (h60:l.length≤60) {a b m c:Nat} (hm:m < l.length) (hcm:kZ l a b m=true) (hl:∀ i,i < m→kZ l a b i=false) (hc:c < l.length) (hcc:kZ l a b c=true) (hs:sub l c m=false):(oj l a b).2.2=true:=by
  have h0:yV l a b≠0:=fun h=>by
    have:=mask_eq_zero.1 h m hm;rw [hcm] at this;cases this
  have hz:=K1 h60 h0;have he:Lib.ctz 64 (yV l a b)=m:=by
    have h1:¬Lib.ctz 64 (yV l a b) < m:=fun h=>by
      have:=hl _ h;rw [show kZ l a b (Lib.ctz 64 (yV l a b))=true from hz.2.1] at this;cases this
    have h2:¬m < Lib.ctz 64 (yV l a b):=fun h=>by
      have:=hz.2.2 m h;rw [hcm] at this;cases this
    omega
  have hd:oJ l (Lib.ctz 64 (yV l a b))≠yV l a b:=fun h=>by
    rw [he] at h;have:=mask_inj.1 h c hc;rw [hs,hcc] at this;cases this
  simp only [oj,if_neg h0,if_pos hd]
theorem meet_none {l:List Ty} {a b:Nat} (h:∀ i,i < l.length→kZ l a b i=false):(oj l a b).2.2=false:=by
  have h0:yV l a b=0:=mask_eq_zero.2 h;simp only [oj,if_pos h0]
theorem meet_some {l:List Ty} (hv:VT l) (h60:l.length≤60) {a b m:Nat} (hm:m < l.length) (hcm:kZ l a b m=true) (hl:∀ i,i < m→kZ l a b i=false) (hs:∀ i,i < l.length→kZ l a b i=true→sub l i m=true):(oj l a b).2.2=false:=by
  have h0:yV l a b≠0:=fun h=>by
    have:=mask_eq_zero.1 h m hm;rw [hcm] at this;cases this
  have hz:=K1 h60 h0;have he:Lib.ctz 64 (yV l a b)=m:=by
    have h1:¬Lib.ctz 64 (yV l a b) < m:=fun h=>by
      have:=hl _ h;rw [show kZ l a b (Lib.ctz 64 (yV l a b))=true from hz.2.1] at this;cases this
    have h2:¬m < Lib.ctz 64 (yV l a b):=fun h=>by
      have:=hz.2.2 m h;rw [hcm] at this;cases this
    omega
  have hd:oJ l (Lib.ctz 64 (yV l a b))=yV l a b:=by
    rw [he];refine vY (fun i hi=>?_);cases h1:sub l i m with
    | true=>
      simp only [kZ,Bool.and_eq_true] at hcm;simp [kZ,Mv hv h1 hcm.1,Mv hv h1 hcm.2]
    | false=>
      cases h2:kZ l a b i with
      | false=>rfl
      | true=>rw [hs i hi h2] at h1;cases h1
  simp only [oj,if_neg h0,hd,ne_eq,not_true_eq_false,if_false]
inductive MS (l:List Ty) (a b c:Nat) (m:Int):Prop
  | none (h:m= -1) (h0:∀ i,i < c→kZ l a b i=false)
  | some (n:Nat) (h:m=n) (hn:n < c) (h1:kZ l a b n=true) (h2:∀ i,i < n→kZ l a b i=false) (h3:∀ i,i < c→kZ l a b i=true→sub l i n=true)
theorem MS.start (l:List Ty) (a b:Nat):MS l a b 0 (-1):= .none rfl (fun i h=>by omega)
theorem MS.skip {l:List Ty} {a b c:Nat} {m:Int} (h:MS l a b c m) (hc:kZ l a b c=false):MS l a b (c + 1) m:=by
  cases h with
  | none h h0=>exact .none h (fun i hi=>by
      by_cases e:i=c
      · subst e;exact hc
      · exact h0 i om)
  | some n h hn h1 h2 h3=>exact .some n h om h1 h2 (fun i hi hci=>by
      by_cases e:i=c
      · subst e;rw [hc] at hci;cases hci
      · exact h3 i om hci)
theorem MS.first {l:List Ty} (hv:VT l) {a b c:Nat} {m:Int} (h:MS l a b c m) (hm:m < 0) (hc:kZ l a b c=true):MS l a b (c + 1) c:=by
  cases h with
  | none h h0=>exact .some c rfl om hc h0 (fun i hi hci=>by
      by_cases e:i=c
      · subst e;exact VW hv _
      · rw [h0 i om] at hci;cases hci)
  | some n h=>omega
theorem MS.pos {l:List Ty} {a b c:Nat} {m:Int} (h:MS l a b c m) (hm:¬m < 0):∃ n:Nat,m=n∧n < c∧kZ l a b n=true∧(∀ i,i < n→kZ l a b i=false)∧∀ i,i < c→kZ l a b i=true→sub l i n=true:=by
  cases h with
  | none h=>omega
  | some n h hn h1 h2 h3=>exact⟨n,h,hn,h1,h2,h3⟩
theorem MS.end_ {l:List Ty} (hv:VT l) (h60:l.length≤60) {a b:Nat} {m:Int} (h:MS l a b l.length m):(oj l a b).2.2=false:=by
  cases h with
  | none h h0=>exact meet_none h0
  | some n h hn h1 h2 h3=>exact meet_some hv h60 hn h1 h2 h3
def O4 (n:Nat) (r:Nat→Nat) (k i:Nat):Value:=if i < k then .slice (some ⟨r i,0,none⟩) n n else .slice none 0 0
def CJ (l:List Ty):Int:=if (ky l).1=0 then -1 else (ky l).2
theorem M5 {l:List Ty} {k:Int} (h:ky l=(16,k)):CJ l=k:=by simp [CJ,h]
theorem W7 {l:List Ty} (h:ky l=(0,0)):CJ l= -1:=by simp [CJ,h]
theorem uQ {a b:Int} (h:a=b):Ending.returned (.int .i64 b)= .returned (.int .i64 a):=by rw [h]
theorem fn46:zQ Tryz.prog 46=true:=by kernel_rfl
theorem in126:(Tryz.prog.info? 126).map (fun i=>(i.zero,i.size,i.bytes))=some (some (.slice none 0 0),1,24):=by kernel_rfl
theorem in4_Unmet:(Tryz.prog.info? 4).map (fun i=>(i.zero,i.size,i.bytes))=some (some (.bool false),1,1):=by kernel_rfl
theorem sz126:(Tryz.prog.info? 126).map (·.size)=some 1:=by kernel_rfl
theorem NJ:(Tryz.prog.info? 4).map (·.size)=some 1:=by kernel_rfl
theorem TV (A:Option Addr) (c:Nat) (l:List Ty) (w:World) (hT:TypesIn w A l) (hv:VT l) (h60:l.length≤60):Calls Tryz.prog 58 #[.slice A l.length c] w fun e w'=>e= .returned (.int .i64 (CJ l))∧Bel w w':=by
 refine enter Tryz.func58 Tryz.ntmps58 rfl (Nat.le_of_ble_eq_true rfl) ?_;have hB:Bel w w:=Below.refl _ _;refine Zk ?_;refine V2 (m:=l.length) Tryz.underlying132 in126 rfl rfl rfl om om (fun b14 w1 hb14 hs hr=>?_);have lo14:=nLT (Bel.size hB) hr;replace hB:=hB.tr0 hs;refine vx ?_;refine q8 [5,6,16,17,18,19,20,21,22,23,24,25,26,27,28,29,30,31,32,33,34,35,36,37,38,39] (fun m g w'=>∃ (k:Nat) (r:Nat→Nat),k≤l.length∧m=l.length - k∧g 16= .int .i64 k∧Bel w w'∧Blk w' b14 126 (row l.length (fun i=>O4 l.length r k i))∧(∀ i,i < k→Blk w' (r i) 4 (row l.length (fun j=> .bool (sub l i j))))) (l.length) ?_ (fun m g4 w2 hI=>?_)
 ·refine⟨0,fun _=>0,Nat.zero_le _,rfl,rfl,hB,?_,fun i hi=>by omega⟩;rw [yy (g':=fun _=> .slice none 0 0) (fun j _=>by simp [O4])];exact hb14
 obtain⟨k,r,hk,hm,h16,hB,hb14,hrw⟩:=hI;refine zJ 16 (.int .i64 k) h16 nu (zn6 ?_);refine zw rfl (fun c17=>?_) (fun c17=>?_)
 ·have hlt:k < l.length:=by omega
  refine Zk ?_;refine V2 (m:=l.length) Y5 in4_Unmet rfl rfl rfl om om (fun b22 w3 hb22 hs hr=>?_);have:=nLL hb14.lt hr;have or_hrw_b22:=(fun(i:Nat) (hi:i < k)=>nLL (hrw i hi).lt hr)
  have lo22:=nLT (Bel.size hB) hr;replace hB:=hB.tr0 hs;replace hb14:=hb14.tr0 hs;replace hrw:=fun i hi=>(hrw i hi).tr0 hs
  refine zn1 ?_;refine xY (v:= .slice _ _ _) hb14 rfl rfl sz126 (by rw [row_size];omega) rfl u3 (fun w4 hq hs=>?_);replace hB:=hB.tr1 hs lo14;replace hrw:=fun i hi=>(hrw i hi).tr1 hs (by first | (have:=or_hrw_b22 i hi;omega) | exact fun h=>absurd (jQ (h ▸ hrw i hi) hb14) dE)
  replace hb22:=hb22.tr1 hs om;replace hb14:=hq
  rw [yy (g':=fun i=>O4 l.length (fun i=>if i=k then b22 else r i) (k + 1) i) (fun j _=>by
    by_cases e:j=k
    · subst e;simp [O4]
    · have e1:(j < k + 1) ↔ (j < k):=by omega
      simp [O4,e,e1])] at hb14
  have e14:O4 l.length (fun i=>if i=k then b22 else r i) (k + 1) k= .slice (some ⟨b22,0,none⟩) l.length l.length:=by simp [O4]
  refine zn9 ?_;refine q8 [6,25,26,27,28,29,30,31,32,33,34,35,36,37,38] (fun m g w'=>∃ (j:Nat),j≤l.length∧m=l.length - j∧g 25= .int .i64 j∧Bel w w'∧Blk w' b14 126 (row l.length (fun i=>O4 l.length (fun i=>if i=k then b22 else r i) (k + 1) i))∧Blk w' b22 4 (row l.length (fun x=> .bool (if x < j then sub l k x else false)))∧(∀ i,i < k→Blk w' (r i) 4 (row l.length (fun j=> .bool (sub l i j))))) (l.length) ?_ (fun m g8 w5 hI=>?_)
  ·refine⟨0,Nat.zero_le _,rfl,rfl,hB,hb14,?_,hrw⟩;rw [yy (g':=fun _=> .bool false) (fun j _=>by simp)];exact hb22
  obtain⟨j,hj,hmj,h25,hB,hb14,hb22,hrw⟩:=hI;refine zJ 25 (.int .i64 j) h25 nu (zn6 ?_);refine zw rfl (fun c26=>?_) (fun c26=>?_)
  ·have hlj:j < l.length:=by omega
   refine yq ?_;refine yk 10 [28,29,30,31,32,33,34,35,36,37] (fun _=>false) (fun ix v wv=>match ix with | 0=>v= .slice (some ⟨b14,0,none⟩) l.length l.length | 1=>v= .int .i64 k | 2=>v= .pointer (some ⟨b14,0 + k * 1,none⟩) | 3=>v= .slice (some ⟨b22,0,none⟩) l.length l.length | 4=>v= .int .i64 j | 5=>v= .slice A l.length c | 6=>v= .int .i64 k | 7=>v= .int .i64 j | 8=>v= .bool (sub l k j) | 9=>v= .pointer (some ⟨b22,0 + j * 1,none⟩) | _=>True) kR kR ?_ ?_ ?_
   ·intro ix v wv wv2 h hs
    match ix,h with
    | 0,h=>exact h
    | 1,h=>exact h
    | 2,h=>exact h
    | 3,h=>exact h
    | 4,h=>exact h
    | 5,h=>exact h
    | 6,h=>exact h
    | 7,h=>exact h
    | 8,h=>exact h
    | 9,h=>exact h
    | _ + 10,h=>exact trivial
   ·intro ix o hix hoq gg wx hs hd hdis
    match ix,hix,hoq with
    | 0,_,hoq=>
     cases sI hoq;exact oV (x9 (v:= .slice _ _ _) rfl) rfl
    | 1,_,hoq=>
     cases sI hoq;exact oV (x9 (v:= .int _ _) rfl) rfl
    | 2,_,hoq=>
     cases sI hoq;refine z4 28 (.slice (some ⟨b14,0,none⟩) l.length l.length) (hd 0 (zz kR)) nu (z4 29 (.int .i64 k) (hd 1 (zz kR)) nu ?_);exact oV (yQ (i:=k) Tryz.underlying132 sz126 rfl rfl om rfl) rfl
    | 3,_,hoq=>
     cases sI hoq;replace hb14:=hb14.tr0 hs;refine z4 30 (.pointer (some ⟨b14,0 + k * 1,none⟩)) (hd 2 (zz kR)) nu ?_;exact oV (qk (v:= .slice (some ⟨b22,0,none⟩) l.length l.length) Y5 rfl rfl (by rw [← e14];exact hb14.cell (vK hlt))) rfl
    | 4,_,hoq=>
     cases sI hoq;exact oV (x9 (v:= .int _ _) rfl) rfl
    | 5,_,hoq=>
     cases sI hoq;exact oV (x9 (v:= .slice _ _ _) rfl) rfl
    | 6,_,hoq=>
     cases sI hoq;exact oV (x9 (v:= .int _ _) rfl) rfl
    | 7,_,hoq=>
     cases sI hoq;exact oV (x9 (v:= .int _ _) rfl) rfl
    | 8,_,hoq=>
     cases sI hoq;replace hB:=hB.tr0 hs;refine z4 33 (.slice A l.length c) (hd 5 (zz kR)) nu (z4 34 (.int .i64 k) (hd 6 (zz kR)) nu (z4 35 (.int .i64 j) (hd 7 (zz kR)) nu ?_));refine qx fn46 (EY _ _ _ _ _ wx (hT.mono hB) hv h60 hlt hlj) rfl (fun e' w2 hr=>?_);obtain⟨rfl,hs⟩:=hr;exact⟨_,rfl,sB hs,rfl,zX⟩
    | 9,_,hoq=>
     cases sI hoq;refine z4 31 (.slice (some ⟨b22,0,none⟩) l.length l.length) (hd 3 (zz kR)) nu (z4 32 (.int .i64 j) (hd 4 (zz kR)) nu ?_);exact oV (yQ (i:=j) Y5 NJ rfl rfl om rfl) rfl
    | _ + 10,hix,_=>exact absurd hix om
   intro gg w6 hs hR hdis;replace hB:=hB.tr0 hs;replace hb14:=hb14.tr0 hs;replace hrw:=fun i hi=>(hrw i hi).tr0 hs
   replace hb22:=hb22.tr0 hs;refine qK 36 (.bool (sub l k j)) (hR 8 dE) nu (qK 37 (.pointer (some ⟨b22,0 + j * 1,none⟩)) (hR 9 dE) nu ?_);refine xY (v:= .bool _) hb22 rfl rfl NJ (by rw [row_size];omega) rfl u3 (fun w7 hq hs=>?_);replace hB:=hB.tr1 hs lo22;replace hb14:=hb14.tr1 hs om;replace hrw:=fun i hi=>(hrw i hi).tr1 hs (by first | (have:=or_hrw_b22 i hi;omega) | exact fun h=>absurd (jQ (h ▸ hrw i hi) hb14) dE)
   replace hb22:=hq
   rw [yy (g':=fun x=> .bool (if x < j + 1 then sub l k x else false)) (fun x _=>by
     by_cases e:x=j
     · subst e;simp
     · have e1:(x < j + 1) ↔ (x < j):=by omega
       simp [e,e1])] at hb22
   refine zn7 ?_;refine xv (l.length - (j + 1)) om agA ?_;exact⟨j + 1,by omega,rfl,rfl,hB,hb14,hb22,hrw⟩
  have hjl:j=l.length:=by omega
  rw [hjl,yy (g':=fun x=> .bool (sub l k x)) (fun x hx=>by simp [hx])] at hb22;replace hrw:∀ i,i < k + 1→Blk w5 (if i=k then b22 else r i) 4 (row l.length (fun j=> .bool (sub l i j))):=fun i hi=>by
    by_cases e:i=k
    · subst e;simp only [if_true];exact hb22
    · simp only [if_neg e];exact hrw i om
  refine yq ?_;refine xv (l.length - (k + 1)) om agA ?_;exact⟨k + 1,fun i=>if i=k then b22 else r i,by omega,rfl,rfl,hB,hb14,hrw⟩
 have hkl:k=l.length:=by omega
 rw [hkl,yy (g':=fun i=> .slice (some ⟨r i,0,none⟩) l.length l.length) (fun j hj=>by simp [O4,hj])] at hb14;rw [hkl] at hrw;refine jq ?_;refine q8 [2,7,8,9,10,41,42,43,44,45,46,47,48,49,50,51,52,53,54,55,56,57,58,59,60,61,62,63,64,65,66,67,68,69,70,71,72,73,74,75,76,77,78,79,80,81,82] (fun m g w'=>∃ (k:Nat),k≤l.length∧m=l.length - k∧g 41= .int .i64 k∧w2=w'∧ky l=qy (Ij l) k (l.length - k)) (l.length) ?_ (fun m g14 w8 hI=>?_)
 ·exact⟨0,Nat.zero_le _,rfl,rfl,rfl,rfl⟩
 obtain⟨k,hk2,hm,h41,rfl,hU⟩:=hI;refine zJ 41 (.int .i64 k) h41 nu (zn6 ?_);refine zw rfl (fun c42=>?_) (fun c42=>?_)
 ·have hlt:k < l.length:=by omega
  refine M0 ?_;refine q8 [2,8,9,10,45,46,47,48,49,50,51,52,53,54,55,56,57,58,59,60,61,62,63,64,65,66,67,68,69,70,71,72,73,74,75,76,77,78,79,80,81] (fun m g w'=>∃ (a:Nat),a≤k∧m=k - a∧g 45= .int .i64 a∧w2=w'∧(∀ j,j < a→(oj l j k).2.2=false)) (k) ?_ (fun m g17 w9 hI=>?_)
  ·exact⟨0,Nat.zero_le _,rfl,rfl,rfl,fun j hj=>by omega⟩
  obtain⟨a,ha,hma,h45,rfl,hM⟩:=hI;refine zJ 45 (.int .i64 a) h45 nu (zn6 ?_);refine zw rfl (fun c46=>?_) (fun c46=>?_)
  ·refine zn22 ?_;refine q8 [2,9,10,49,50,51,52,53,54,55,56,57,58,59,60,61,62,63,64,65,66,67,68,69,70,71,72,73,74,75,76,77,78,79,80] (fun m g w'=>∃ (x:Nat) (m9:Int),x≤l.length∧m=l.length - x∧g 49= .int .i64 x∧g 9= .int .i64 m9∧w2=w'∧MS l a k x m9) (l.length) ?_ (fun m g21 w10 hI=>?_)
   ·exact⟨0,-1,Nat.zero_le _,rfl,rfl,rfl,rfl,MS.start l a k⟩
   obtain⟨x,m9,hx,hmx,h49,h9,rfl,hS⟩:=hI;refine zJ 49 (.int .i64 x) h49 nu (zJ 9 (.int .i64 m9) h9 nu (zn6 ?_));refine zw rfl (fun c50=>?_) (fun c50=>?_)
   ·have hlx:x < l.length:=by omega
    refine vx ?_;refine x7 [52,53,54,55,56,57,58,59,60,61,62,63,64,65,66,67] 67 (.bool (decide (kZ l a k x=true))) nu ?_ (fun gq=>?_)
    ·refine zn4 ?_;refine wl (qk (v:= .slice _ _ _) Y5 rfl rfl (hb14.cell (vK hlx))) (zn2 ?_);refine wl (qk (v:= .bool _) U4 rfl rfl ((hrw x hlx).cell (vK om))) (wl (x9 (v:= .bool _) rfl) ?_);refine M2 59 rfl (fun g59=>?_) (fun g59=>?_)
     ·refine zn7 ?_;refine wl (qk (v:= .slice _ _ _) Y5 rfl rfl (hb14.cell (vK hlx))) (zn5 ?_);refine wl (qk (v:= .bool _) U4 rfl rfl ((hrw x hlx).cell (vK hlt))) (zn1 ?_);refine zZ (e_R ⟨rfl,agA,?_⟩);show Value.bool _=Value.bool _;exact congrArg Value.bool (by simp [kZ,g59])
     refine zn8 ?_;refine zZ (e_R ⟨rfl,agA,?_⟩);show Value.bool _=Value.bool _;exact congrArg Value.bool (by simp [kZ,g59])
    refine e_S ?_;refine zw rfl (fun c67=>?_) (fun c67=>?_)
    ·refine zn6 ?_;refine zw rfl (fun c69=>?_) (fun c69=>?_)
     ·have hS2:=hS.first hv c69 c67;refine yq ?_;refine xv (l.length - (x + 1)) om agA ?_;exact⟨x + 1,_,by omega,rfl,rfl,rfl,rfl,hS2⟩
     obtain⟨mn,rfl,hmn,hq1,hq2,hq3⟩:=hS.pos c69;refine zn5 ?_;refine wl (qk (v:= .slice _ _ _) Y5 rfl rfl (hb14.cell (vK hlx))) (zn2 ?_);refine wl (qk (v:= .bool _) U4 rfl rfl ((hrw x hlx).cell (vK om))) (zn3 ?_);refine j7 rfl (fun c78=>?_) (fun c78=>?_)
     ·have hme:=meet_yes h60 (show mn < l.length by omega) hq1 hq2 hlx c67 (by simpa using c78);have hun:=M6 (show a < k by omega) hme;have hfin:=M5 (hU.trans (qV om hun dE));refine zn21 ?_;exact⟨uQ hfin,hB⟩
     have hS2:MS l a k (x + 1) (mn:Int):= .some mn rfl om hq1 hq2 (fun i hi hci=>by
       by_cases e:i=x
       · subst e;simpa using c78
       · exact hq3 i om hci)
     refine zn7 ?_;refine xv (l.length - (x + 1)) om agA ?_;exact⟨x + 1,_,by omega,rfl,rfl,rfl,rfl,hS2⟩
    have hS2:=hS.skip (by simpa using c67);refine zn7 ?_;refine xv (l.length - (x + 1)) om agA ?_;exact⟨x + 1,_,by omega,rfl,rfl,rfl,rfl,hS2⟩
   have hxl:x=l.length:=by omega
   subst hxl;have hme:=hS.end_ hv h60;refine yq ?_;refine xv (k - (a + 1)) om agA ?_
   exact⟨a + 1,by omega,rfl,rfl,rfl,fun j hj=>by
     by_cases e:j=a
     · subst e;exact hme
     · exact hM j om⟩
  have hun:Ij l k=0:=W8 (fun j hj=>hM j om);refine yq ?_;refine xv (l.length - (k + 1)) om agA ?_;exact⟨k + 1,by omega,rfl,rfl,rfl,hU.trans (yx hlt hun)⟩
 have hfin:=W7 (hU.trans (yK om));refine yj ?_;exact⟨uQ hfin,hB⟩
end Go.Proofs.YtdkfnakncaggoaaGreatDoor
