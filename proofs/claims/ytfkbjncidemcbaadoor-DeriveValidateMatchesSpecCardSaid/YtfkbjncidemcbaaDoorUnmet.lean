/- What these functions of the program compute, at every world: glosswright/hierarchy.Tables. What these functions of the program compute, at every world: glosswright/hierarchy.Validate. What these functions of the program compute, at every world: glosswright/glosswrightref3.Unmet. -/
import Derived.Test.YtfkbjncidemcbaaDoorU
import Derived.Test.YtfkbjncidemcbaaDoorMeet
namespace Go.Proofs.YtfkbjncidemcbaaDoor
open Go.RowKit
def J1 (l:List Ty) (k:Nat) (ps:List Int) (x:Nat):Bool:=decide (x=k) || ps.any (fun p=>sub l p.toNat x)
theorem Gw {l:List Ty} {k:Nat} (hk:k < l.length):kv (J1 l k []) l.length=2 ^ k:=by
  rw [S6 hk];exact kq (fun j _=>by simp [J1])
theorem Gy {l:List Ty} {k j:Nat} {ps:List Int} (hj:j < ps.length):kv (J1 l k (ps.take j)) l.length ||| upN l (ps[j]).toNat=kv (J1 l k (ps.take (j + 1))) l.length:=by
  unfold upN;rw [Ww];refine kq (fun x _=>?_);simp only [J1];rw [List.take_succ_eq_append_getElem hj,List.any_append];simp [Bool.or_assoc]
theorem parM_end {l:List Ty} (hv:VT l) {k:Nat} (hk:k < l.length):kv (J1 l k (l[k]).par) l.length=upN l k:=by
  unfold upN;refine kq (fun x _=>?_);rw [TV hv];have e1:decide (x=k)=decide (k=x):=by simp only [eq_comm]
  simp only [J1,e1]
  congr 1
  simp only [M3,List.getElem?_eq_getElem hk,List.any_map];rfl
def upP (l:List Ty) (k i:Nat):Nat:=if i < k then upN l i else 0
def uS (l:List Ty) (k X i:Nat):Nat:=if i=k then X else upP l k i
theorem uS_k (l:List Ty) (k X:Nat):uS l k X k=X:=by simp [uS]
theorem uS_lt {l:List Ty} {k X p:Nat} (h:p < k):uS l k X p=upN l p:=by
  have:p≠k:=by omega
  simp [uS,upP,this,h]
theorem uS_end (l:List Ty) (k i:Nat):uS l k (upN l k) i=upP l (k + 1) i:=by
  unfold uS upP;by_cases h:i=k
  · subst h;simp
  · have:(i < k + 1) ↔ (i < k):=by omega
    simp [h,this]
def dnP (l:List Ty) (k j:Nat):Nat:=kv (fun i=>decide (i < k) && sub l i j) l.length
theorem dnP_zero (l:List Ty) (j:Nat):dnP l 0 j=0:=mask_eq_zero.2 (fun i _=>by simp)
theorem dnP_yes {l:List Ty} {k j:Nat} (hk:k < l.length) (h:sub l k j=true):dnP l k j ||| 2 ^ k=dnP l (k + 1) j:=by
  unfold dnP;rw [S6 hk,Ww];refine kq (fun i _=>?_);by_cases e:i=k
  · subst e;simp [h]
  · have e1:decide (i < k + 1)=decide (i < k):=decide_eq_decide.2 om
    simp [e,e1]
theorem dnP_no {l:List Ty} {k j:Nat} (h:sub l k j=false):dnP l k j=dnP l (k + 1) j:=by
  unfold dnP;refine kq (fun i _=>?_);by_cases e:i=k
  · subst e;simp [h]
  · have e1:decide (i < k + 1)=decide (i < k):=decide_eq_decide.2 om
    simp [e1]
theorem dnP_end (l:List Ty) (j:Nat):dnP l l.length j=Zj l j:=by
  unfold dnP Zj;exact kq (fun i hi=>by simp [hi])
theorem upP_end {l:List Ty} {i:Nat} (h:i < l.length):upP l l.length i=upN l i:=by simp [upP,h]
def dS (l:List Ty) (k j x:Nat):Nat:=if x < j then dnP l (k + 1) x else dnP l k x
theorem dS_j (l:List Ty) (k j:Nat):dS l k j j=dnP l k j:=by simp [dS]
theorem dS_yes {l:List Ty} {k j:Nat} (hk:k < l.length) (h:sub l k j=true) (x:Nat):(if x=j then dS l k j j ||| 2 ^ k else dS l k j x)=dS l k (j + 1) x:=by
  by_cases e:x=j
  · subst e;simp only [if_true,dS_j,dnP_yes hk h];simp [dS]
  · have e1:(x < j + 1) ↔ (x < j):=by omega
    simp [e,dS,e1]
theorem dS_no {l:List Ty} {k j:Nat} (h:sub l k j=false) (x:Nat):dS l k j x=dS l k (j + 1) x:=by
  by_cases e:x=j
  · subst e;rw [dS_j,dnP_no h];simp [dS]
  · have e1:(x < j + 1) ↔ (x < j):=by omega
    simp [dS,e1]
theorem dS_lt {l:List Ty} (h:l.length≤60) (k j x:Nat):dS l k j x < 18446744073709551616:=by
  unfold dS dnP;split <;> exact ZK _ h
theorem uS_bd {l:List Ty} (h:l.length≤60) {k X x:Nat} (hX:X < 18446744073709551616):uS l k X x < 18446744073709551616:=by
  unfold uS upP;split
  · exact hX
  · split
    · exact T8 h _
    · decide
theorem YX {n:Nat} {g:Nat→Nat} {f:Nat→Nat} (h:∀ j,j < n→g j=f j):row n (fun j=>Value.int .u64 ((g j:Nat):Int))=row n (fun j=>Value.int .u64 ((f j:Nat):Int)):=j6 (fun j hj=>by rw [h j hj])
theorem R5 {n k c:Nat} {g:Nat→Nat}:row n (fun j=>if j=k then Value.int .u64 (c:Int) else Value.int .u64 ((g j:Nat):Int))=row n (fun j=>Value.int .u64 ((if j=k then c else g j:Nat):Int)):=j6 (fun j _=>by split <;> rfl)
theorem in126:(Tryd.prog.info? 126).map (fun i=>(i.zero,i.size,i.bytes))=some (some (.int .u64 0),1,8):=by kernel_rfl
theorem Xx:(Tryd.prog.info? 122).map (·.size)=some 2:=by kernel_rfl
theorem kz:(Tryd.prog.info? 3).map (·.size)=some 1:=by kernel_rfl
theorem CW:(Tryd.prog.info? 73).map (·.size)=some 1:=by kernel_rfl
theorem HZ:(Tryd.prog.info? 89).map (·.size)=some 2:=by kernel_rfl
theorem O2:(Tryd.prog.info? 122).map (·.zero)=some (some (.agg #[.string ⟨#[]⟩,.slice none 0 0])):=by kernel_rfl
theorem ze89:(Tryd.prog.info? 89).map (·.zero)=some (some (.agg #[.slice none 0 0,.slice none 0 0])):=by kernel_rfl
theorem MW (A:Option Addr) (c:Nat) (l:List Ty) (w:World) (hT:TypesIn w A l) (hv:VT l) (h60:l.length≤60):Calls Tryd.prog 36 #[.slice A l.length c] w fun e w'=>∃ bu bd,e= .returned (J9 l.length bu bd)∧TableIn w' l bu bd∧Bel w w':=by
 refine enter Tryd.func36 Tryd.ntmps36 rfl (Nat.le_of_ble_eq_true rfl) ?_;have hB:Bel w w:=Below.refl _ _;refine zz (z4 ?_);refine xQ (cs:=#[.slice none 0 0,.slice none 0 0]) ze89 rfl (fun b2 w1 hb2 hs hr=>?_);have lo2:=nLT (Bel.size hB) hr;replace hB:=hB.tr0 hs;refine zq (e_S (zz ?_));have z2:=hb2.lt;have hsz:=Bel.size hB;refine jv 8 [9,10,11,12,13,14,15,3] (fun ix=>Nat.beq ix 2 || Nat.beq ix 5 || Nat.beq ix 7) (fun ix v wv=>match ix with | 0=>v= .slice A l.length c | 1=>v= .int .i64 l.length | 2=>∃ bu,v= .slice (some ⟨bu,0,none⟩) l.length l.length∧w1.heap.size≤bu∧Blk wv bu 126 (row l.length (fun _=> .int .u64 0)) | 3=>v= .slice A l.length c | 4=>v= .int .i64 l.length | 5=>∃ bd,v= .slice (some ⟨bd,0,none⟩) l.length l.length∧w1.heap.size≤bd∧Blk wv bd 126 (row l.length (fun _=> .int .u64 0)) | 6=>∃ bu bd,v= .agg #[.slice (some ⟨bu,0,none⟩) l.length l.length,.slice (some ⟨bd,0,none⟩) l.length l.length]∧w1.heap.size≤bu∧Blk wv bu 126 (row l.length (fun _=> .int .u64 0))∧w1.heap.size≤bd∧Blk wv bd 126 (row l.length (fun _=> .int .u64 0))∧bu≠bd | 7=>∃ b,v= .pointer (some ⟨b,0,none⟩)∧w1.heap.size≤b∧Blk wv b 89 #[.slice none 0 0,.slice none 0 0] | _=>True) kR kR ?_ ?_ ?_
 ·intro ix v wv wv2 h hs
  match ix,h with
  | 0,h=>exact h
  | 1,h=>exact h
  | 2,h=>
   obtain⟨bu,e11,lobu,hbu⟩:=(show ∃ bu,v= .slice (some ⟨bu,0,none⟩) l.length l.length∧w1.heap.size≤bu∧Blk wv bu 126 (row l.length (fun _=> .int .u64 0)) from h)
   exact⟨bu,e11,lobu,hbu.tr0 hs⟩
  | 3,h=>exact h
  | 4,h=>exact h
  | 5,h=>
   obtain⟨bd,e14,lobd,hbd⟩:=(show ∃ bd,v= .slice (some ⟨bd,0,none⟩) l.length l.length∧w1.heap.size≤bd∧Blk wv bd 126 (row l.length (fun _=> .int .u64 0)) from h)
   exact⟨bd,e14,lobd,hbd.tr0 hs⟩
  | 6,h=>
   obtain⟨bu,bd,e15,lobu,hbu,lobd,hbd,hne⟩:=(show ∃ bu bd,v= .agg #[.slice (some ⟨bu,0,none⟩) l.length l.length,.slice (some ⟨bd,0,none⟩) l.length l.length]∧w1.heap.size≤bu∧Blk wv bu 126 (row l.length (fun _=> .int .u64 0))∧w1.heap.size≤bd∧Blk wv bd 126 (row l.length (fun _=> .int .u64 0))∧bu≠bd from h)
   exact⟨bu,bd,e15,lobu,hbu.tr0 hs,lobd,hbd.tr0 hs,hne⟩
  | 7,h=>
   obtain⟨b3,e3,lo3,hb3⟩:=(show ∃ b,v= .pointer (some ⟨b,0,none⟩)∧w1.heap.size≤b∧Blk wv b 89 #[.slice none 0 0,.slice none 0 0] from h)
   exact⟨b3,e3,lo3,hb3.tr0 hs⟩
  | _ + 8,h=>exact trivial
 ·intro ix o hix hoq gg wx hs hd hdis
  match ix,hix,hoq with
  | 0,_,hoq=>
   cases sI hoq;exact oV (qy (v:= .slice _ _ _) rfl) rfl
  | 1,_,hoq=>
   cases sI hoq;have d0:gg 9= .slice A l.length c:=hd 0 (zj kR);have e9:=d0;refine zx 9 (.slice A l.length c) e9 nu ?_;exact oV (x6 U22 rfl) rfl
  | 2,_,hoq=>
   cases sI hoq;have hs0:=hs;have d1:gg 10= .int .i64 l.length:=hd 1 (zj kR);have e10:=d1;refine zx 10 (.int .i64 l.length) e10 nu ?_;refine kJ (fun ops Q K=>?_);refine Vy U87 in126 rfl rfl rfl om om (fun b11 w2 hb11 hs hr=>?_);exact K _ _ ⟨hs,⟨_,rfl,nLT hs0.size hr,hb11⟩,fR hr hb11.lt⟩
  | 3,_,hoq=>
   cases sI hoq;exact oV (qy (v:= .slice _ _ _) rfl) rfl
  | 4,_,hoq=>
   cases sI hoq;have d3:gg 12= .slice A l.length c:=hd 3 (zj kR);have e12:=d3;refine zx 12 (.slice A l.length c) e12 nu ?_;exact oV (x6 U22 rfl) rfl
  | 5,_,hoq=>
   cases sI hoq;have hs0:=hs;have d4:gg 13= .int .i64 l.length:=hd 4 (zj kR);have e13:=d4;refine zx 13 (.int .i64 l.length) e13 nu ?_;refine kJ (fun ops Q K=>?_);refine Vy U87 in126 rfl rfl rfl om om (fun b14 w3 hb14 hs hr=>?_);exact K _ _ ⟨hs,⟨_,rfl,nLT hs0.size hr,hb14⟩,fR hr hb14.lt⟩
  | 6,_,hoq=>
   cases sI hoq;have d2:∃ bu,gg 11= .slice (some ⟨bu,0,none⟩) l.length l.length∧w1.heap.size≤bu∧Blk wx bu 126 (row l.length (fun _=> .int .u64 0)):=hd 2 (zj kR);obtain⟨bu,e11,lobu,hbu⟩:=d2;have d5:∃ bd,gg 14= .slice (some ⟨bd,0,none⟩) l.length l.length∧w1.heap.size≤bd∧Blk wx bd 126 (row l.length (fun _=> .int .u64 0)):=hd 5 (zj kR);obtain⟨bd,e14,lobd,hbd⟩:=d5;have hne:bu≠bd:=fun h=>hdis 2 5 bu (zj kR) (zj kR) dE rfl rfl (show jj (gg 11)=some bu by rw [e11];rfl) (show jj (gg 14)=some bu by rw [e14,h];rfl)
   refine zx 11 (.slice (some ⟨bu,0,none⟩) l.length l.length) e11 nu (zx 14 (.slice (some ⟨bd,0,none⟩) l.length l.length) e14 nu ?_);exact oV (vZ (v0:= .slice _ _ _) (v1:= .slice _ _ _) (fun v0 v1=>#[v0,v1]) rfl rfl kR) ⟨_,_,rfl,lobu,hbu,lobd,hbd,hne⟩
  | 7,_,hoq=>
   cases sI hoq;have hs0:=hs;refine kJ (fun ops Q K=>?_);refine xQ (cs:=#[.slice none 0 0,.slice none 0 0]) ze89 rfl (fun b3 w4 hb3 hs hr=>?_);exact K _ _ ⟨hs,⟨_,rfl,nLT hs0.size hr,hb3⟩,fR hr hb3.lt⟩
  | _ + 8,hix,_=>exact absurd hix om
 intro gg w5 hs hR hdis;replace hB:=hB.tr0 hs;replace hb2:=hb2.tr0 hs;have d6:∃ bu bd,gg 15= .agg #[.slice (some ⟨bu,0,none⟩) l.length l.length,.slice (some ⟨bd,0,none⟩) l.length l.length]∧w1.heap.size≤bu∧Blk w5 bu 126 (row l.length (fun _=> .int .u64 0))∧w1.heap.size≤bd∧Blk w5 bd 126 (row l.length (fun _=> .int .u64 0))∧bu≠bd:=hR 6 dE;obtain⟨bu,bd,e15,lobu,hbu,lobd,hbd,hne⟩:=d6;have d7:∃ b,gg 3= .pointer (some ⟨b,0,none⟩)∧w1.heap.size≤b∧Blk w5 b 89 #[.slice none 0 0,.slice none 0 0]:=hR 7 dE;obtain⟨b3,e3,lo3,hb3⟩:=d7;have h3u:b3≠bu:=fun h=>absurd (u3 (h ▸ hb3) hbu) dE
 have h3d:b3≠bd:=fun h=>absurd (u3 (h ▸ hb3) hbd) dE
 have or_2_3:b2 < b3:=nLL z2 lo3;have or_2_u:b2 < bu:=nLL z2 lobu;have or_2_d:b2 < bd:=nLL z2 lobd;replace lo3:=nLT hsz lo3;replace lobu:=nLT hsz lobu;replace lobd:=nLT hsz lobd;refine y5 15 (.agg #[.slice (some ⟨bu,0,none⟩) l.length l.length,.slice (some ⟨bd,0,none⟩) l.length l.length]) e15 nu (y5 3 (.pointer (some ⟨b3,0,none⟩)) e3 nu ?_);refine qz hb3 rfl rfl HZ rfl qX (fun w6 hq hs=>?_);replace hB:=hB.tr1 hs lo3;replace hb2:=hb2.tr1 hs om;replace hbu:=hbu.tr1 hs om;replace hbd:=hbd.tr1 hs om;replace hb3:=hq;refine zq (e_S (zz (zz (z4 (wmS rfl (wl (x6 U22 rfl) (wmI rfl (zq (e_S (zY ?_))))))))));refine x8 [4,5,7,8,18,19,20,21,22,23,24,25,26,27,28,29,30,31,32,33,34,35,36,37,38,39,40,41,42,43,44,45,46,47,48,49,50,51,52,53,54,55,56,57,58,59,60,61,62,63,64,65,66,67,68,69,70,71,72,73] (fun m g w'=>∃ (k:Nat),k≤l.length∧m=l.length - k∧g 18= .int .i64 k∧Bel w w'∧Blk w' b2 89 #[.slice none 0 0,.slice none 0 0]∧Blk w' b3 89 #[.slice (some ⟨bu,0,none⟩) l.length l.length,.slice (some ⟨bd,0,none⟩) l.length l.length]∧Blk w' bu 126 (row l.length (fun i=> .int .u64 ((upP l k i:Nat):Int)))∧Blk w' bd 126 (row l.length (fun i=> .int .u64 ((dnP l k i:Nat):Int)))) (l.length) ?_ (fun m g3 w7 hI=>?_)
 ·refine⟨0,Nat.zero_le _,rfl,rfl,hB,hb2,hb3,?_,?_⟩
  · rw [YX (f:=fun _=>0) (fun j _=>by simp [upP])];exact hbu
  · rw [YX (f:=fun _=>0) (fun j _=>dnP_zero l j)];exact hbd
 obtain⟨k,hk,hm,h18,hB,hb2,hb3,hbu,hbd⟩:=hI;refine qv 18 (.int .i64 k) h18 nu (zz (z4 (wl (x9 rfl rfl) (zq (e_S (zz ?_))))));refine qx rfl (fun c19=>?_) (fun c19=>?_)
 ·have hlt:k < l.length:=by omega
  obtain⟨tb,to,A',cp,rfl,htb,htr,hpar⟩:=hT.at_ hB hlt;have hmx:=hpar.1;unfold jJ at hmx;refine zK (e_S (zz (zY (zz (z4 (wmI rfl (wl (xX (i:=k) U22 Xx rfl rfl om rfl) (wl (zW QJ rfl rfl htr Xx) ?_))))))));refine xQ (cs:=#[.string ⟨#[]⟩,.slice none 0 0]) O2 rfl (fun b5 w8 hb5 hs hr=>?_);have:=nLL hb2.lt hr;have:=nLL hbu.lt hr;have:=nLL hbd.lt hr;have:=nLL hb3.lt hr;have lo5:=nLT (Bel.size hB) hr;replace hB:=hB.tr0 hs;replace hb2:=hb2.tr0 hs;replace hbu:=hbu.tr0 hs;replace hbd:=hbd.tr0 hs;replace hb3:=hb3.tr0 hs;refine waI rfl ?_;refine qz hb5 rfl rfl Xx rfl qX (fun w9 hq hs=>?_);replace hB:=hB.tr1 hs lo5;replace hb2:=hb2.tr1 hs om;replace hbu:=hbu.tr1 hs om;replace hbd:=hbd.tr1 hs om;replace hb3:=hb3.tr1 hs om;replace hb5:=hq;refine zq (e_S (zz ?_));refine Iv 6 kR kR (fun w10 hs=>?_);replace hB:=hB.tr0 hs;replace hb2:=hb2.tr0 hs;replace hbu:=hbu.tr0 hs;replace hbd:=hbd.tr0 hs;replace hb3:=hb3.tr0 hs;replace hb5:=hb5.tr0 hs;refine ws (zV U89 O8 dE rfl rfl rfl) (ws (zQ (v:= .slice _ _ _) U87 rfl rfl (hb3.cell rfl)) (ws (qy (v:= .int _ _) rfl) (ws (qy (v:= .int _ _) rfl) (ws (r_shl1 rfl rfl om rfl) (ws (xX (i:=k) U87 Qz rfl rfl om rfl) (I4 ?_))))));refine vw (v:= .int _ _) hbu rfl rfl Qz (by rw [row_size];omega) rfl oq (fun w11 hq hs=>?_);replace hB:=hB.tr1 hs lobu;replace hb2:=hb2.tr1 hs om;replace hbd:=hbd.tr1 hs om;replace hb3:=hb3.tr1 hs om;replace hb5:=hb5.tr1 hs om;replace hbu:=hq;replace hbu:Blk w11 bu 126 (row l.length (fun i=> .int .u64 ((uS l k (kv (J1 l k ((l[k]'hlt).par.take 0)) l.length) i:Nat):Int))):=by
    rw [R5 (g:=fun i=>upP l k i)] at hbu;rw [YX (f:=fun i=>if i=k then 2 ^ k else upP l k i) (fun j _=>by rw [List.take_zero,Gw hlt];rfl)];exact hbu
  refine zq (e_S (zz (zz (z4 (wl (zV QJ CW dE rfl rfl rfl) (wl (zQ (v:= .slice _ _ _) U73 rfl rfl (hb5.cell rfl)) (wl (x6 U73 rfl) (wmI rfl (zq (e_S (zY ?_)))))))))));refine x8 [7,32,33,34,35,36,37,38,39,40,41,42,43,44,45,46,47,48] (fun m g w'=>∃ (j:Nat),j≤(l[k]'hlt).par.length∧m=(l[k]'hlt).par.length - j∧g 32= .int .i64 j∧Bel w w'∧Blk w' b2 89 #[.slice none 0 0,.slice none 0 0]∧Blk w' b3 89 #[.slice (some ⟨bu,0,none⟩) l.length l.length,.slice (some ⟨bd,0,none⟩) l.length l.length]∧Blk w' bu 126 (row l.length (fun i=> .int .u64 ((uS l k (kv (J1 l k ((l[k]'hlt).par.take j)) l.length) i:Nat):Int)))∧Blk w' bd 126 (row l.length (fun i=> .int .u64 ((dnP l k i:Nat):Int)))∧Blk w' b5 122 #[.string (l[k]'hlt).name,.slice A' (l[k]'hlt).par.length cp]) ((l[k]'hlt).par.length) ?_ (fun m g7 w12 hI=>?_)
  ·exact⟨0,Nat.zero_le _,rfl,rfl,hB,hb2,hb3,hbu,hbd,hb5⟩
  obtain⟨j,hj,hmj,h32,hB,hb2,hb3,hbu,hbd,hb5⟩:=hI;refine qv 32 (.int .i64 j) h32 nu (zz (z4 (wl (x9 rfl rfl) (zq (e_S (zz ?_))))));refine qx rfl (fun c33=>?_) (fun c33=>?_)
  ·have hlj:j < (l[k]'hlt).par.length:=by omega
   obtain⟨pb,po,rfl,hpb,hpc⟩:=hpar.at_ hlj;replace hpc:=hB.cell hpb hpc;have hpr:=hv k hlt _ (List.getElem_mem hlj);obtain⟨pn,hpn⟩:∃ pn:Nat,pn=((l[k]'hlt).par[j]).toNat:=⟨_,rfl⟩
   have hpi:(l[k]'hlt).par[j]=(pn:Int):=by rw [hpn];exact(Int.toNat_of_nonneg hpr.1).symm
   rw [hpi] at hpc hpr;have hXl:=ZK (J1 l k ((l[k]'hlt).par.take j)) h60;refine zK (e_S (zz (zY (zz (z4 (wl (xX (i:=j) U73 kz rfl rfl om rfl) (wl (zQ (v:= .int _ _) U3 rfl rfl hpc) (waI rfl (zq (e_S ?_))))))))));refine Iv 12 kR kR (fun w13 hs=>?_);replace hB:=hB.tr0 hs;replace hb2:=hb2.tr0 hs;replace hbu:=hbu.tr0 hs;replace hbd:=hbd.tr0 hs;replace hb3:=hb3.tr0 hs;replace hb5:=hb5.tr0 hs;refine ws (zV U89 O8 dE rfl rfl rfl) (ws (zQ (v:= .slice _ _ _) U87 rfl rfl (hb3.cell rfl)) (ws (qy (v:= .int _ _) rfl) (ws (xX (i:=k) U87 Qz rfl rfl om rfl) (ws (zQ (v:= .int _ _) Vx rfl rfl (hbu.cell (jV hlt))) (ws (zV U89 O8 dE rfl rfl rfl) (ws (zQ (v:= .slice _ _ _) U87 rfl rfl (hb3.cell rfl)) (ws (qy (v:= .int _ _) rfl) (ws (xX (i:=pn) U87 Qz rfl rfl om rfl) (ws (zQ (v:= .int _ _) Vx rfl rfl (hbu.cell (jV om))) (ws (X4 rfl rfl (uS_bd h60 hXl) (uS_bd h60 hXl)) (ws (xX (i:=k) U87 Qz rfl rfl om rfl) (I4 ?_))))))))))));refine vw (v:= .int _ _) hbu rfl rfl Qz (by rw [row_size];omega) rfl oq (fun w14 hq hs=>?_);replace hB:=hB.tr1 hs lobu;replace hb2:=hb2.tr1 hs om;replace hbd:=hbd.tr1 hs om;replace hb3:=hb3.tr1 hs om;replace hb5:=hb5.tr1 hs om;replace hbu:=hq;replace hbu:Blk w14 bu 126 (row l.length (fun i=> .int .u64 ((uS l k (kv (J1 l k ((l[k]'hlt).par.take (j + 1))) l.length) i:Nat):Int))):=by
     rw [R5 (g:=fun i=>uS l k (kv (J1 l k ((l[k]'hlt).par.take j)) l.length) i)] at hbu
     rw [YX (f:=fun i=>if i=k then uS l k (kv (J1 l k ((l[k]'hlt).par.take j)) l.length) k ||| uS l k (kv (J1 l k ((l[k]'hlt).par.take j)) l.length) pn else uS l k (kv (J1 l k ((l[k]'hlt).par.take j)) l.length) i) (fun i _=>by
       rw [uS_k,uS_lt (show pn < k by omega),hpn,Gy hlj];by_cases e:i=k
       · simp [e,uS_k]
       · simp [e,uS])]
     exact hbu
   refine zq (e_B (e_S (z4 (wl (xw rfl rfl rfl om) (wmI rfl (zq (yw ((l[k]'hlt).par.length - (j + 1)) om agA ?_)))))));exact⟨j + 1,by omega,rfl,rfl,hB,hb2,hb3,hbu,hbd,hb5⟩
  have hjl:j=(l[k]'hlt).par.length:=by omega
  rw [hjl,List.take_length,parM_end hv hlt,YX (f:=fun i=>upP l (k + 1) i) (fun i _=>uS_end l k i)] at hbu;refine xx (vx (yq (vj (e_S (zz (z4 (wmS rfl (wl (x6 U22 rfl) (wmI rfl (zq (e_S (zY ?_))))))))))));refine x8 [8,51,52,53,54,55,56,57,58,59,60,61,62,63,64,65,66,67,68,69,70,71,72] (fun m g w'=>∃ (j:Nat),j≤l.length∧m=l.length - j∧g 51= .int .i64 j∧Bel w w'∧Blk w' b2 89 #[.slice none 0 0,.slice none 0 0]∧Blk w' b3 89 #[.slice (some ⟨bu,0,none⟩) l.length l.length,.slice (some ⟨bd,0,none⟩) l.length l.length]∧Blk w' bu 126 (row l.length (fun i=> .int .u64 ((upP l (k + 1) i:Nat):Int)))∧Blk w' bd 126 (row l.length (fun i=> .int .u64 ((dS l k j i:Nat):Int)))) (l.length) ?_ (fun m g12 w15 hI=>?_)
  ·refine⟨0,Nat.zero_le _,rfl,rfl,hB,hb2,hb3,hbu,?_⟩;rw [YX (f:=fun i=>dnP l k i) (fun i _=>by simp [dS])];exact hbd
  obtain⟨j,hj,hmj,h51,hB,hb2,hb3,hbu,hbd⟩:=hI;refine qv 51 (.int .i64 j) h51 nu (zz (z4 (wl (x9 rfl rfl) (zq (e_S (zz ?_))))));refine qx rfl (fun c52=>?_) (fun c52=>?_)
  ·have hlj:j < l.length:=by omega
   have huk:upP l (k + 1) k=upN l k:=by simp [upP]
   have huv:=T8 h60 k;have hbit:=Ey (upN l k) j;have hbt:(upN l k).testBit j=sub l k j:=by unfold upN;rw [kj];simp [hlj]
   rw [hbt] at hbit;refine zK (e_S (zz (zY (zz (z4 (wmI rfl (waI rfl (zq (e_S (zz (z4 (wl (zV U89 O8 dE rfl rfl rfl) (wl (zQ (v:= .slice _ _ _) U87 rfl rfl (hb3.cell rfl)) (wmI rfl (wl (xX (i:=k) U87 Qz rfl rfl om rfl) (wl (zQ (v:= .int _ _) Vx rfl rfl (hbu.cell (jV hlt))) (wmI rfl (wl (Wz (b:=j) rfl rfl om rfl) (wl (J0 (b:=1) rfl rfl (by rw [huk];exact Nat.lt_of_le_of_lt (Nat.shiftRight_le _ _) huv) dE) (wl (xv rfl rfl) (zq (e_S ?_))))))))))))))))))))));refine qx rfl (fun c62=>?_) (fun c62=>?_)
   ·have hs1:sub l k j=true:=by rw [← hbit];exact decide_eq_true (by rw [huk] at c62;omega)
    refine Iv 9 kR kR (fun w16 hs=>?_);replace hB:=hB.tr0 hs;replace hb2:=hb2.tr0 hs;replace hbu:=hbu.tr0 hs;replace hbd:=hbd.tr0 hs;replace hb3:=hb3.tr0 hs;refine ws (zV U89 O8 dE rfl rfl rfl) (ws (zQ (v:= .slice _ _ _) U87 rfl rfl (hb3.cell rfl)) (ws (qy (v:= .int _ _) rfl) (ws (xX (i:=j) U87 Qz rfl rfl om rfl) (ws (zQ (v:= .int _ _) Vx rfl rfl (hbd.cell (jV hlj))) (ws (qy (v:= .int _ _) rfl) (ws (r_shl1 rfl rfl om rfl) (ws (X4 rfl rfl (dS_lt h60 _ _ _) (nLL (Nat.pow_lt_pow_right dE (show k < 60 by omega)) dE)) (ws (xX (i:=j) U87 Qz rfl rfl om rfl) (I4 ?_)))))))));refine vw (v:= .int _ _) hbd rfl rfl Qz (by rw [row_size];omega) rfl oq (fun w17 hq hs=>?_);replace hB:=hB.tr1 hs lobd;replace hb2:=hb2.tr1 hs om;replace hbu:=hbu.tr1 hs om;replace hb3:=hb3.tr1 hs om;replace hbd:=hq;rw [R5 (g:=fun i=>dS l k j i),YX (f:=fun i=>dS l k (j + 1) i) (fun i _=>dS_yes hlt hs1 i)] at hbd;refine zq (e_B (e_S (z4 (wl (xw rfl rfl rfl om) (wmI rfl (zq (yw (l.length - (j + 1)) om agA ?_)))))));exact⟨j + 1,by omega,rfl,rfl,hB,hb2,hb3,hbu,hbd⟩
   have hs1:sub l k j=false:=by rw [← hbit];exact decide_eq_false (by rw [huk] at c62;omega)
   rw [YX (f:=fun i=>dS l k (j + 1) i) (fun i _=>dS_no hs1 i)] at hbd;refine zK (e_B (e_S (z4 (wl (xw rfl rfl rfl om) (wmI rfl (zq (yw (l.length - (j + 1)) om agA ?_)))))));exact⟨j + 1,by omega,rfl,rfl,hB,hb2,hb3,hbu,hbd⟩
  have hjl:j=l.length:=by omega
  rw [hjl,YX (f:=fun i=>dnP l (k + 1) i) (fun i hi=>by simp [dS,hi])] at hbd;refine xx (vx (yq (vj (e_B (e_S (z4 (wl (xw rfl rfl rfl om) (wmI rfl (zq (yw (l.length - (k + 1)) om agA ?_))))))))));exact⟨k + 1,by omega,rfl,rfl,hB,hb2,hb3,hbu,hbd⟩
 have hkl:k=l.length:=by omega
 subst hkl;refine xx (vx (yq (vj (e_S (zz (z4 (wl (zW U89 rfl rfl hb3.range0 HZ) ?_)))))));refine qz hb2 rfl rfl HZ rfl qX (fun w18 hq hs=>?_);replace hB:=hB.tr1 hs lo2;replace hbu:=hbu.tr1 hs om;replace hbd:=hbd.tr1 hs om;replace hb2:=hq;refine zq (e_S (q8 (qK (.inl rfl) rfl (qq U89 rfl rfl hb2.range0 HZ) ?_)));refine⟨bu,bd,rfl,⟨?_,?_⟩,hB⟩
 · rw [YX (f:=upN l) (fun i hi=>upP_end hi)] at hbu;exact hbu
 · rw [YX (f:=Zj l) (fun i _=>dnP_end l i)] at hbd;exact hbd
end Go.Proofs.YtfkbjncidemcbaaDoor
namespace Go.Proofs.YtfkbjncidemcbaaDoor
open Go.RowKit
theorem IX {i:Int}:∀ {ps:List Int} {last:Int},jK i last ps=0→∀ p ∈ ps,0≤p∧p < i
  | [],_,_,p,hp=>by cases hp
  | q :: ps,last,h,p,hp=>by
    unfold jK at h
    by_cases h1:q < 0∨i≤q
    · rw [if_pos h1] at h;cases h
    rw [if_neg h1] at h
    by_cases h2:q≤last
    · rw [if_pos h2] at h;cases h
    rw [if_neg h2] at h
    rcases List.mem_cons.1 hp with rfl | hp
    · omega
    · exact IX h p hp
theorem Tk {l:List Ty} {k:Nat} (hk:k < l.length) (h:vW l k=0):yK (l[k]).name=true∧ky ((l.take k).map (·.name)) (l[k]).name=false∧(decide (k=0) == (l[k]).par.isEmpty)=true∧jK k (-1) (l[k]).par=0:=by
  cases h1:yK (l[k]).name with
  | false=>rw [ty10 l k hk h1] at h;cases h
  | true=>
    cases h2:ky ((l.take k).map (·.name)) (l[k]).name with
    | true=>rw [ty7 l k hk h1 h2] at h;cases h
    | false=>
      cases h3:(decide (k=0) == (l[k]).par.isEmpty) with
      | false=>rw [ty5 l k hk h1 h2 h3] at h;cases h
      | true=>
        rw [O6 l k hk h1 h2 h3,List.drop_zero] at h;exact⟨rfl,rfl,rfl,h⟩
theorem oW {f:Nat→Int}:∀ {m i:Nat},(xV f i m).1=0→∀ j,i≤j→j < i + m→f j=0
  | 0,i,_,j,h1,h2=>by omega
  | m + 1,i,h,j,h1,h2=>by
    unfold xV at h
    by_cases h3:f i≠0
    · rw [if_pos h3] at h;exact absurd h h3
    rw [if_neg h3] at h
    by_cases e:j=i
    · subst e;exact Decidable.not_not.1 h3
    · exact oW h j om om
theorem KK {l:List Ty} (h:(y9 l).1=0):¬(l.length=0∨60 < l.length):=by
  intro hb;simp only [y9,if_pos hb] at h;cases h
theorem types_ok {l:List Ty} (h:(y9 l).1=0) {k:Nat} (hk:k < l.length):vW l k=0:=by
  have hb:=KK h;simp only [y9,if_neg hb] at h;exact oW h k (Nat.zero_le _) om
theorem vt_of {l:List Ty} (h:(y9 l).1=0):VT l:=fun _ hi p hp=>IX (Tk hi (types_ok h hi)).2.2.2 p hp
def M2 (l:List Ty) (b:Nat):Int:=if (List.range b).any (fun a=>(Z5 l a b).2.2) then 16 else 0
theorem MQ {l:List Ty} {a b:Nat} (h:a < b) (hm:(Z5 l a b).2.2=true):M2 l b=16:=by
  unfold M2;rw [if_pos (List.any_eq_true.2 ⟨a,List.mem_range.2 h,hm⟩)]
theorem Fx {l:List Ty} {b:Nat} (h:∀ a,a < b→(Z5 l a b).2.2=false):M2 l b=0:=by
  unfold M2;rw [if_neg];intro hc;obtain⟨a,ha,hm⟩:=List.any_eq_true.1 hc;rw [h a (List.mem_range.1 ha)] at hm;cases hm
def NZ (n:Nat) (t:Ft):Prop:=t.of < 0∨(n:Int)≤t.of∨t.val < 0∨(n:Int)≤t.val
instance (n:Nat) (t:Ft):Decidable (NZ n t):=by unfold NZ;infer_instance
def oj (n:Nat) (fs:List Ft) (i:Nat):Int:=match fs[i]? with
  | none=>0
  | some t=>if yK t.name=false then 10 else if ky ((fs.take i).map (·.name)) t.name=true then 7 else if NZ n t then 3 else 0
theorem ft10 (n:Nat) (l:List Ft) (k:Nat) (hlt:k < l.length) (h1:yK l[k].name=false):oj n l k=10:=by
  simp only [oj,List.getElem?_eq_getElem hlt,h1,if_true]
theorem ft7 (n:Nat) (l:List Ft) (k:Nat) (hlt:k < l.length) (h1:yK l[k].name=true) (h2:ky ((l.take k).map (·.name)) l[k].name=true):oj n l k=7:=by
  simp only [oj,List.getElem?_eq_getElem hlt,h1,h2,if_true];rfl
theorem ft3 (n:Nat) (l:List Ft) (k:Nat) (hlt:k < l.length) (h1:yK l[k].name=true) (h2:ky ((l.take k).map (·.name)) l[k].name=false) (h3:NZ n l[k]):oj n l k=3:=by
  simp only [oj,List.getElem?_eq_getElem hlt,h1,h2,if_pos h3];rfl
theorem ft0 (n:Nat) (l:List Ft) (k:Nat) (hlt:k < l.length) (h1:yK l[k].name=true) (h2:ky ((l.take k).map (·.name)) l[k].name=false) (h3:¬NZ n l[k]):oj n l k=0:=by
  simp only [oj,List.getElem?_eq_getElem hlt,h1,h2,if_neg h3];rfl
def uJ (l:List Ty):Fl:=xV (M2 l) 0 l.length
def xJ (l:List Ty) (fs:List Ft):Fl:=
  if 40 < fs.length then (2,-1)
  else if (y9 l).1≠0 then y9 l
  else if (uJ l).1≠0 then uJ l
  else xV (oj l.length fs) 0 fs.length
theorem WY {l:List Ty} {fs:List Ft} (h:l.length=0∨60 < l.length∨40 < fs.length):xJ l fs=(2,-1):=by
  unfold xJ;by_cases h4:40 < fs.length
  · rw [if_pos h4]
  · have hb:l.length=0∨60 < l.length:=by omega
    have ht:y9 l=(2,-1):=by simp only [y9,if_pos hb]
    rw [if_neg h4,ht];rfl
theorem Sw {l:List Ty} {fs:List Ft} (h:¬40 < fs.length) (ht:(y9 l).1≠0):xJ l fs=((y9 l).1,(y9 l).2):=by
  unfold xJ;rw [if_neg h,if_pos ht]
theorem Sv {l:List Ty} {fs:List Ft} (h:¬40 < fs.length) (ht:(y9 l).1=0) {k:Int} (hu:uJ l=(16,k)):xJ l fs=(16,k):=by
  unfold xJ;rw [if_neg h,if_neg (by rw [ht];exact fun h=>h rfl),hu];rfl
theorem H0 {l:List Ty} {fs:List Ft} (h:¬40 < fs.length) (ht:(y9 l).1=0) (hu:uJ l=(0,0)):xJ l fs=xV (oj l.length fs) 0 (fs.length - 0):=by
  unfold xJ;rw [if_neg h,if_neg (by rw [ht];exact fun h=>h rfl),hu];rfl
theorem fn36:qj Tryd.prog 36=true:=by kernel_rfl
theorem F1:qj Tryd.prog 37=true:=by kernel_rfl
theorem Q2:qj Tryd.prog 61=true:=by kernel_rfl
theorem fn62:qj Tryd.prog 62=true:=by kernel_rfl
theorem fn63:qj Tryd.prog 63=true:=by kernel_rfl
theorem N3:(Tryd.prog.info? 22).map (·.size)=some 1:=by kernel_rfl
theorem sz23:(Tryd.prog.info? 23).map (·.size)=some 1:=by kernel_rfl
theorem xK:(Tryd.prog.info? 43).map (·.size)=some 2:=by kernel_rfl
theorem E3:(Tryd.prog.info? 75).map (·.size)=some 3:=by kernel_rfl
theorem uZ:(Tryd.prog.info? 9).map (·.size)=some 1:=by kernel_rfl
theorem H9:(Tryd.prog.info? 3).map (·.zero)=some (some (.int .i64 0)):=by kernel_rfl
theorem X9:(Tryd.prog.info? 43).map (·.zero)=some (some (.agg #[.int .i64 0,.int .i64 0])):=by kernel_rfl
theorem ze75:(Tryd.prog.info? 75).map (·.zero)=some (some (.agg #[.string ⟨#[]⟩,.int .i64 0,.int .i64 0])):=by kernel_rfl
theorem O5 (A B:Option Addr) (c d:Nat) (l:List Ty) (fs:List Ft) (w:World) (hTab:TabIn w) (hT:TypesIn w A l) (hF:FeatsIn w B fs):Calls Tryd.prog 34 #[.agg #[.slice A l.length c,.slice B fs.length d]] w fun e w'=>e= .returned (flV (xJ l fs))∧Bel w w':=by
 refine enter Tryd.func34 Tryd.ntmps34 rfl (Nat.le_of_ble_eq_true rfl) ?_;have hB:Bel w w:=Below.refl _ _;refine zz (z4 ?_);refine yx (v:= .agg #[_,_]) (cs:=#[_,_]) rfl rfl (fun b1 w1 hb1 hs hr=>?_);replace hB:=hB.tr0 hs;refine xQ (cs:=#[.int .i64 0,.int .i64 0]) X9 rfl (fun b2 w2 hb2 hs hr=>?_);have lo2:=nLT (Bel.size hB) hr;replace hB:=hB.tr0 hs;replace hb1:=hb1.tr0 hs;refine zq (e_S (zz (zz ?_)));refine y7 [15,16,17,18,19,20,21,22,23,24,25,26,27,28,29,30] 30 (.bool (decide (l.length=0∨60 < l.length∨40 < fs.length))) nu ?_ (fun gq=>?_)
 ·refine z4 (wl (zV U25 N3 dE rfl rfl rfl) (wl (zQ (v:= .slice _ _ _) U22 rfl rfl (hb1.cell rfl)) (wl (x6 U22 rfl) (wl (xv rfl rfl) (wmB rfl ?_)))));refine zJ 19 rfl (fun g19=>?_) (fun g19=>?_)
  ·refine zy 19 rfl rfl rfl (zy 19 rfl rfl rfl (zy 19 rfl rfl rfl (zy 19 rfl rfl rfl (wl (qw (v:= .bool _) rfl rfl) (wmB rfl (zy 25 rfl rfl rfl (zy 25 rfl rfl rfl (zy 25 rfl rfl rfl (zy 25 rfl rfl rfl (wl (qw (v:= .bool _) rfl rfl) ?_))))))))));refine zq (e_R ⟨rfl,agA,?_⟩);exact clA
  refine zw 19 rfl rfl (wl (zV U25 N3 dE rfl rfl rfl) (zw 19 rfl rfl (wl (zQ (v:= .slice _ _ _) U22 rfl rfl (hb1.cell rfl)) (zw 19 rfl rfl (wl (x6 U22 rfl) (zw 19 rfl rfl (wl (yX rfl rfl) (wl (qV (v:= .bool _) rfl rfl) (wmB rfl ?_)))))))));refine zJ 25 rfl (fun g25=>?_) (fun g25=>?_)
  ·refine zy 25 rfl rfl rfl (zy 25 rfl rfl rfl (zy 25 rfl rfl rfl (zy 25 rfl rfl rfl (wl (qw (v:= .bool _) rfl rfl) ?_))));refine zq (e_R ⟨rfl,agA,?_⟩);exact clA
  refine zw 25 rfl rfl (wl (zV U25 sz23 dE rfl rfl rfl) (zw 25 rfl rfl (wl (zQ (v:= .slice _ _ _) U23 rfl rfl (hb1.cell rfl)) (zw 25 rfl rfl (wl (x6 U23 rfl) (zw 25 rfl rfl (wl (yX rfl rfl) (wl (qV (v:= .bool _) rfl rfl) ?_))))))));refine zq (e_R ⟨rfl,agA,?_⟩);exact clA
 refine e_S ?_;refine qx rfl (fun c30=>?_) (fun c30=>?_)
 ·refine zz (z4 ?_);refine qJ Q2 (kY _ _ _) rfl (fun e' w3 hr=>?_);obtain⟨rfl,hs⟩:=hr;replace hs:=sB hs;replace hB:=hB.tr0 hs;replace hb2:=hb2.tr0 hs;refine⟨_,rfl,?_⟩;refine qz hb2 rfl rfl xK rfl qX (fun w4 hq hs=>?_);replace hB:=hB.tr1 hs lo2;replace hb2:=hq;refine zq (e_S (q8 (qQ (qK (.inl rfl) rfl (qq U43 rfl rfl hb2.range0 xK) ?_))));exact⟨xj (WY c30),hB⟩
 refine zK (e_S (zz (zz (z4 (wl (zV U25 N3 dE rfl rfl rfl) (wl (zQ (v:= .slice _ _ _) U22 rfl rfl (hb1.cell rfl)) ?_))))));refine qJ fn62 (Hv _ _ _ _ (hT.mono hB)) rfl (fun e' w5 hr=>?_);obtain⟨rfl,hs⟩:=hr;replace hs:=sB hs;replace hB:=hB.tr0 hs;replace hb1:=hb1.tr0 hs;replace hb2:=hb2.tr0 hs;refine⟨_,rfl,?_⟩;refine yW (cs:=#[.int .i64 0,.int .i64 0]) X9 rfl (fun _=>rfl) (fun _=>rfl) xK rfl qX (fun b3 w7 hb3 hs hr=>?_);replace hB:=hB.tr0 hs;replace hb1:=hb1.tr0 hs;replace hb2:=hb2.tr0 hs;refine zq (e_S (zz (z4 (wl (zV U43 kz dE rfl rfl rfl) (wl (zQ (v:= .int _ _) U3 rfl rfl (hb3.cell rfl)) (wl (yY rfl rfl) (zq (e_S ?_))))))));refine qx rfl (fun c37=>?_) (fun c37=>?_)
 ·refine zz (z4 (wl (zW U43 rfl rfl hb3.range0 xK) ?_));refine qz hb2 rfl rfl xK rfl qX (fun w8 hq hs=>?_);replace hB:=hB.tr1 hs lo2;replace hb2:=hq;refine zq (e_S (q8 (qQ (qK (.inl rfl) rfl (qq U43 rfl rfl hb2.range0 xK) ?_))));exact⟨xj (Sw om om),hB⟩
 have ht0:(y9 l).1=0:=by omega
 have hv:=vt_of ht0;refine zK (e_S (zz (z4 (wl (zV U25 N3 dE rfl rfl rfl) (wl (zQ (v:= .slice _ _ _) U22 rfl rfl (hb1.cell rfl)) ?_)))));refine qJ fn36 (MW _ _ _ _ (hT.mono hB) hv om) rfl (fun e' w9 hr=>?_);obtain⟨bu,bd,rfl,⟨hbu,hbd⟩,hs⟩:=hr;replace hs:=sB hs;replace hB:=hB.tr0 hs;replace hb1:=hb1.tr0 hs;replace hb2:=hb2.tr0 hs;replace hb3:=hb3.tr0 hs;have h2u:b2≠bu:=fun h=>absurd (u3 (h ▸ hb2) hbu) dE
 have h2d:b2≠bd:=fun h=>absurd (u3 (h ▸ hb2) hbd) dE
 refine⟨_,rfl,?_⟩;refine yW (cs:=#[.slice none 0 0,.slice none 0 0]) ze89 rfl (fun _=>rfl) (fun _=>rfl) HZ rfl qX (fun b4 w11 hb4 hs hr=>?_);replace hB:=hB.tr0 hs;replace hb1:=hb1.tr0 hs;replace hb2:=hb2.tr0 hs;replace hbu:=hbu.tr0 hs;replace hbd:=hbd.tr0 hs;refine zq (e_S (zz (zz (z4 (wl (zV U25 N3 dE rfl rfl rfl) (wl (zQ (v:= .slice _ _ _) U22 rfl rfl (hb1.cell rfl)) (wl (x6 U22 rfl) (wmI rfl (zq (e_S (zY ?_)))))))))));refine x8 [5,6,7,8,9,45,46,47,48,49,50,51,52,53,54,55,56,57,58,59,60,61,62,63,64] (fun m g w'=>∃ (k:Nat),k≤l.length∧m=l.length - k∧g 45= .int .i64 k∧Bel w w'∧Blk w' b1 25 #[.slice A l.length c,.slice B fs.length d]∧Blk w' b2 43 #[.int .i64 0,.int .i64 0]∧Blk w' b4 89 #[.slice (some ⟨bu,0,none⟩) l.length l.length,.slice (some ⟨bd,0,none⟩) l.length l.length]∧Blk w' bu 126 (rU l.length (upN l))∧Blk w' bd 126 (rU l.length (Zj l))∧uJ l=xV (M2 l) k (l.length - k)) (l.length) ?_ (fun m g8 w12 hI=>?_)
 ·exact⟨0,Nat.zero_le _,rfl,rfl,hB,hb1,hb2,hb4,hbu,hbd,rfl⟩
 obtain⟨k,hk,hm,h45,hB,hb1,hb2,hb4,hbu,hbd,hU⟩:=hI;refine qv 45 (.int .i64 k) h45 nu (zz (z4 (wl (x9 rfl rfl) (zq (e_S (zz ?_))))));refine qx rfl (fun c46=>?_) (fun c46=>?_)
 ·have hlt:k < l.length:=by omega
  refine zK (e_S (zz (zY (zz (z4 (wmI rfl (waI rfl (zq (e_S (zz (z4 (wmI rfl (wmI rfl (zq (e_S (zY ?_))))))))))))))));refine x8 [6,7,8,9,49,50,51,52,53,54,55,56,57,58,59,60,61,62,63] (fun m g w'=>∃ (a:Nat),a≤k∧m=k - a∧g 49= .int .i64 a∧Bel w w'∧Blk w' b1 25 #[.slice A l.length c,.slice B fs.length d]∧Blk w' b2 43 #[.int .i64 0,.int .i64 0]∧Blk w' b4 89 #[.slice (some ⟨bu,0,none⟩) l.length l.length,.slice (some ⟨bd,0,none⟩) l.length l.length]∧Blk w' bu 126 (rU l.length (upN l))∧Blk w' bd 126 (rU l.length (Zj l))∧(∀ j,j < a→(Z5 l j k).2.2=false)) (k) ?_ (fun m g11 w13 hI=>?_)
  ·exact⟨0,Nat.zero_le _,rfl,rfl,hB,hb1,hb2,hb4,hbu,hbd,fun j hj=>by omega⟩
  obtain⟨a,ha,hma,h49,hB,hb1,hb2,hb4,hbu,hbd,hM⟩:=hI;refine qv 49 (.int .i64 a) h49 nu (zz (z4 (wl (x9 rfl rfl) (zq (e_S (zz ?_))))));refine qx rfl (fun c50=>?_) (fun c50=>?_)
  ·refine zK (e_S (zz (zY (zz (z4 (wmI rfl (waI rfl (zq (e_S (zz (z4 (wl (zW U89 rfl rfl hb4.range0 HZ) (wmI rfl (wmI rfl ?_))))))))))))));refine qJ fn63 (meet_any l bu bd a k _ (hTab.mono hB) ⟨hbu,hbd⟩ hv om om hlt) rfl (fun e' w14 hr=>?_);obtain⟨rfl,hs⟩:=hr;replace hs:=sB hs;replace hB:=hB.tr0 hs;replace hb1:=hb1.tr0 hs;replace hb2:=hb2.tr0 hs;replace hbu:=hbu.tr0 hs;replace hbd:=hbd.tr0 hs;replace hb4:=hb4.tr0 hs;refine⟨_,rfl,?_⟩;refine wmT rfl (wl (uk (v:= .int _ _) rfl rfl) (wl (uk (v:= .bool _) rfl rfl) (wl (uk (v:= .bool _) rfl rfl) (waI rfl (waB rfl (waB rfl (zq (e_S (zz (z4 (wmB rfl (zq (e_S ?_)))))))))))));refine kZ rfl (fun c60=>?_) (fun c60=>?_)
   ·have hun:=MQ (show a < k by omega) c60;have hfin:=Sv (fs:=fs) om ht0 (hU.trans (xy om hun dE));refine zz (z4 (wmI rfl ?_));refine qJ Q2 (kY _ _ _) rfl (fun e' w15 hr=>?_);obtain⟨rfl,hs⟩:=hr;replace hs:=sB hs;replace hB:=hB.tr0 hs;replace hb2:=hb2.tr0 hs;refine⟨_,rfl,?_⟩;refine qz hb2 rfl rfl xK rfl qX (fun w16 hq hs=>?_);replace hB:=hB.tr1 hs lo2;replace hb2:=hq;refine zq (e_S (q8 (qW (qQ (y8 (qW (qW (qQ (y8 (qW (qQ (qK (.inl rfl) rfl (qq U43 rfl rfl hb2.range0 xK) ?_))))))))))));exact⟨xj hfin,hB⟩
   refine zK (e_B (e_S (z4 (wl (xw rfl rfl rfl om) (wmI rfl (zq (yw (k - (a + 1)) om agA ?_)))))))
   exact⟨a + 1,by omega,rfl,rfl,hB,hb1,hb2,hb4,hbu,hbd,fun j hj=>by
     by_cases e:j=a
     · subst e;exact c60
     · exact hM j om⟩
  have hun:M2 l k=0:=Fx (fun j hj=>hM j om);refine xx (vx (yq (vj (e_B (e_S (z4 (wl (xw rfl rfl rfl om) (wmI rfl (zq (yw (l.length - (k + 1)) om agA ?_))))))))));exact⟨k + 1,by omega,rfl,rfl,hB,hb1,hb2,hb4,hbu,hbd,hU.trans (vV hlt hun)⟩
 have hR:=Lib.hid (H0 (fs:=fs) om ht0 (hU.trans (jz om)));refine xx (vx (yq (vj (e_S (zz (z4 ?_))))));refine wl_mm (fun b65 w17 hb65 hs hr=>?_);have:=nLL hb1.lt hr;have:=nLL hb2.lt hr;have lo65:=nLT (Bel.size hB) hr;replace hB:=hB.tr0 hs;replace hb1:=hb1.tr0 hs;replace hb2:=hb2.tr0 hs;refine wl (oy (v:= .map _) rfl) (zq (e_S (zz (zz (z4 (wl (zV U25 sz23 dE rfl rfl rfl) (wl (zQ (v:= .slice _ _ _) U23 rfl rfl (hb1.cell rfl)) (wl (x6 U23 rfl) (wmI rfl (zq (e_S (zY ?_))))))))))));refine x8 [11,12,13,14,69,70,71,72,73,74,75,76,77,78,79,80,81,82,83,84,85,86,87,88,89,90,91,92,93,94,95,96,97,98,99,100,101,102,103,104,105,106,107,108,109,110,111,112,113,114,115,116,117,118,119,120] (fun m g w'=>∃ (k:Nat) (mp:List (ByteArray×Value)),k≤fs.length∧m=fs.length - k∧g 69= .int .i64 k∧Bel w w'∧Blk w' b1 25 #[.slice A l.length c,.slice B fs.length d]∧Blk w' b2 43 #[.int .i64 0,.int .i64 0]∧MapS w' b65 mp∧(∀ s,lkB mp s=ky ((fs.take k).map (·.name)) s)∧xJ l fs=xV (oj l.length fs) k (fs.length - k)) (fs.length) ?_ (fun m g20 w18 hI=>?_)
 ·exact⟨0,[],Nat.zero_le _,rfl,rfl,hB,hb1,hb2,hb65,fun s=>rfl,hR.out⟩
 obtain⟨k,mp,hk,hm,h69,hB,hb1,hb2,hb65,hmp,hR'⟩:=hI;refine qv 69 (.int .i64 k) h69 nu (zz (z4 (wl (x9 rfl rfl) (zq (e_S (zz ?_))))));refine qx rfl (fun c70=>?_) (fun c70=>?_)
 ·have hlt:k < fs.length:=by omega
  obtain⟨tb,to,rfl,htb,htr⟩:=hF.at_ hB hlt;refine zK (e_S (zz (zY (zz (z4 (wmI rfl (wl (xX (i:=k) U23 E3 rfl rfl om rfl) (wl (zW U75 rfl rfl htr E3) ?_))))))));refine xQ (cs:=#[.string ⟨#[]⟩,.int .i64 0,.int .i64 0]) ze75 rfl (fun b12 w19 hb12 hs hr=>?_);have:=nLL hb1.lt hr;have:=nLL hb2.lt hr;have:=nLL hb65.lt hr;have lo12:=nLT (Bel.size hB) hr;replace hB:=hB.tr0 hs;replace hb1:=hb1.tr0 hs;replace hb2:=hb2.tr0 hs;replace hb65:=hb65.tr0 hs;refine waI rfl ?_;refine qz hb12 rfl rfl E3 rfl qX (fun w20 hq hs=>?_);replace hB:=hB.tr1 hs lo12;replace hb1:=hb1.tr1 hs om;replace hb2:=hb2.tr1 hs om;replace hb65:=hb65.tr1 hs om;replace hb12:=hq;refine zq (e_S (zz (zz (z4 (wl (zV U75 uZ dE rfl rfl rfl) (wl (zQ (v:= .string _) U9 rfl rfl (hb12.cell rfl)) ?_))))));refine qJ F1 (Kq _ _) rfl (fun e' w21 hr=>?_);obtain⟨rfl,rfl⟩:=hr;refine⟨_,rfl,?_⟩;refine wl (vY rfl) (zq (e_S ?_));refine kZ rfl (fun c77=>?_) (fun c77=>?_)
  ·have hty:=ft10 l.length fs k hlt (by simpa using c77);refine zz (z4 (wmI rfl ?_));refine qJ Q2 (kY _ _ _) rfl (fun e' w22 hr=>?_);obtain⟨rfl,hs⟩:=hr;replace hs:=sB hs;replace hB:=hB.tr0 hs;replace hb2:=hb2.tr0 hs;refine⟨_,rfl,?_⟩;refine qz hb2 rfl rfl xK rfl qX (fun w23 hq hs=>?_);replace hB:=hB.tr1 hs lo2;replace hb2:=hq;refine zq (e_S (q8 (qQ (qW (qQ (y8 (qW (qQ (qK (.inl rfl) rfl (qq U43 rfl rfl hb2.range0 xK) ?_)))))))));exact⟨xj (hR'.trans (xy (c:=10) om hty dE)),hB⟩
  have hnm:yK (fs[k]'hlt).name=true:=by simpa using c77
  refine zK (e_S (zz (zz (z4 (wl (qy (v:= .map _) rfl) (wl (zV U75 uZ dE rfl rfl rfl) (wl (zQ (v:= .string _) U9 rfl rfl (hb12.cell rfl)) (wl (r_lkS hb65 U91 U9 H9 rfl rfl) (wmT rfl (wl (uk (v:=_) rfl rfl) (wl (uk (v:= .bool _) rfl rfl) (wl (oy (v:=_) rfl) (waB rfl (zq (e_S (zz (z4 (wmB rfl (zq (e_S ?_))))))))))))))))))));refine kZ rfl (fun c87=>?_) (fun c87=>?_)
  ·have hty:=ft7 l.length fs k hlt hnm ((hmp _).symm.trans c87);refine zz (z4 (wmI rfl ?_));refine qJ Q2 (kY _ _ _) rfl (fun e' w24 hr=>?_);obtain⟨rfl,hs⟩:=hr;replace hs:=sB hs;replace hB:=hB.tr0 hs;replace hb2:=hb2.tr0 hs;refine⟨_,rfl,?_⟩;refine qz hb2 rfl rfl xK rfl qX (fun w25 hq hs=>?_);replace hB:=hB.tr1 hs lo2;replace hb2:=hq;refine zq (e_S (q8 (qQ (qW (qQ (y8 (qW (qQ (qK (.inl rfl) rfl (qq U43 rfl rfl hb2.range0 xK) ?_)))))))));exact⟨xj (hR'.trans (xy (c:=7) om hty dE)),hB⟩
  have hsn:ky ((fs.take k).map (·.name)) (fs[k]'hlt).name=false:=by rw [← hmp];exact c87
  have hmp':∀ s,lkB (I3 mp (fs[k]'hlt).name (.int .i64 k)) s=ky ((fs.take (k + 1)).map (·.name)) s:=fun s=>by
    rw [o7 _ _ _ c87,oQ fs hlt,List.map_append,List.map_cons,List.map_nil,ZJ,← hmp];simp [lkB]
  refine zK (e_S (zz (z4 (wl (qy (v:= .map _) rfl) (wl (zV U75 uZ dE rfl rfl rfl) (wl (zQ (v:= .string _) U9 rfl rfl (hb12.cell rfl)) (wmI rfl ?_)))))));refine T7 (v:= .int _ _) hb65 U91 U9 rfl rfl rfl (fun w26 hq hs=>?_);replace hB:=hB.tr1 hs lo65;replace hb1:=hb1.tr1 hs om;replace hb2:=hb2.tr1 hs om;replace hb12:=hb12.tr1 hs om;replace hb65:=hq;refine zq (e_S (zz ?_));refine y7 [94,95,96,97,98,99,100,101,102,103,104,105,106,107,108,109,110,111,112,113,114,115,116,117] 117 (.bool (decide ((fs[k]'hlt).of < 0∨(l.length:Int)≤(fs[k]'hlt).of∨(fs[k]'hlt).val < 0∨(l.length:Int)≤(fs[k]'hlt).val))) nu ?_ (fun gq=>?_)
  ·refine z4 (wl (zV U75 kz dE rfl rfl rfl) (wl (zQ (v:= .int _ _) U3 rfl rfl (hb12.cell rfl)) (wl (x9 rfl rfl) (wmB rfl ?_))));refine zJ 97 rfl (fun g97=>?_) (fun g97=>?_)
   ·refine zy 97 rfl rfl rfl (zy 97 rfl rfl rfl (zy 97 rfl rfl rfl (zy 97 rfl rfl rfl (zy 97 rfl rfl rfl (zy 97 rfl rfl rfl (wl (qw (v:= .bool _) rfl rfl) (wmB rfl (zy 105 rfl rfl rfl (zy 105 rfl rfl rfl (zy 105 rfl rfl rfl (wl (qw (v:= .bool _) rfl rfl) (wmB rfl (zy 110 rfl rfl rfl (zy 110 rfl rfl rfl (zy 110 rfl rfl rfl (zy 110 rfl rfl rfl (zy 110 rfl rfl rfl (zy 110 rfl rfl rfl (wl (qw (v:= .bool _) rfl rfl) ?_)))))))))))))))))));refine zq (e_R ⟨rfl,agA,?_⟩);exact clA
   refine zw 97 rfl rfl (wl (zV U75 kz dE rfl rfl rfl) (zw 97 rfl rfl (wl (zQ (v:= .int _ _) U3 rfl rfl (hb12.cell rfl)) (zw 97 rfl rfl (wl (zV U25 N3 dE rfl rfl rfl) (zw 97 rfl rfl (wl (zQ (v:= .slice _ _ _) U22 rfl rfl (hb1.cell rfl)) (zw 97 rfl rfl (wl (x6 U22 rfl) (zw 97 rfl rfl (wl (vK rfl rfl) (wl (qV (v:= .bool _) rfl rfl) (wmB rfl ?_)))))))))))));refine zJ 105 rfl (fun g105=>?_) (fun g105=>?_)
   ·refine zy 105 rfl rfl rfl (zy 105 rfl rfl rfl (zy 105 rfl rfl rfl (wl (qw (v:= .bool _) rfl rfl) (wmB rfl (zy 110 rfl rfl rfl (zy 110 rfl rfl rfl (zy 110 rfl rfl rfl (zy 110 rfl rfl rfl (zy 110 rfl rfl rfl (zy 110 rfl rfl rfl (wl (qw (v:= .bool _) rfl rfl) ?_)))))))))));refine zq (e_R ⟨rfl,agA,?_⟩);exact clA
   refine zw 105 rfl rfl (wl (zV U75 kz dE rfl rfl rfl) (zw 105 rfl rfl (wl (zQ (v:= .int _ _) U3 rfl rfl (hb12.cell rfl)) (zw 105 rfl rfl (wl (x9 rfl rfl) (wl (qV (v:= .bool _) rfl rfl) (wmB rfl ?_)))))));refine zJ 110 rfl (fun g110=>?_) (fun g110=>?_)
   ·refine zy 110 rfl rfl rfl (zy 110 rfl rfl rfl (zy 110 rfl rfl rfl (zy 110 rfl rfl rfl (zy 110 rfl rfl rfl (zy 110 rfl rfl rfl (wl (qw (v:= .bool _) rfl rfl) ?_))))));refine zq (e_R ⟨rfl,agA,?_⟩);exact clA
   refine zw 110 rfl rfl (wl (zV U75 kz dE rfl rfl rfl) (zw 110 rfl rfl (wl (zQ (v:= .int _ _) U3 rfl rfl (hb12.cell rfl)) (zw 110 rfl rfl (wl (zV U25 N3 dE rfl rfl rfl) (zw 110 rfl rfl (wl (zQ (v:= .slice _ _ _) U22 rfl rfl (hb1.cell rfl)) (zw 110 rfl rfl (wl (x6 U22 rfl) (zw 110 rfl rfl (wl (vK rfl rfl) (wl (qV (v:= .bool _) rfl rfl) ?_))))))))))));refine zq (e_R ⟨rfl,agA,?_⟩);exact clA
  refine e_S ?_;refine qx rfl (fun c117=>?_) (fun c117=>?_)
  ·have hty:=ft3 l.length fs k hlt hnm hsn c117;refine zz (z4 (wmI rfl ?_));refine qJ Q2 (kY _ _ _) rfl (fun e' w27 hr=>?_);obtain⟨rfl,hs⟩:=hr;replace hs:=sB hs;replace hB:=hB.tr0 hs;replace hb2:=hb2.tr0 hs;refine⟨_,rfl,?_⟩;refine qz hb2 rfl rfl xK rfl qX (fun w28 hq hs=>?_);replace hB:=hB.tr1 hs lo2;replace hb2:=hq;refine zq (e_S (q8 (qW (qQ (y8 (qW (qQ (qK (.inl rfl) rfl (qq U43 rfl rfl hb2.range0 xK) ?_))))))));exact⟨xj (hR'.trans (xy (c:=3) om hty dE)),hB⟩
  have hty:=ft0 l.length fs k hlt hnm hsn c117;refine zK (e_B (e_S (z4 (wl (xw rfl rfl rfl om) (wmI rfl (zq (yw (fs.length - (k + 1)) om agA ?_)))))));exact⟨k + 1,I3 mp (fs[k]'hlt).name (.int .i64 k),by omega,rfl,rfl,hB,hb1,hb2,hb65,hmp',hR'.trans (vV hlt hty)⟩
 refine xx (vx (yq (vj (e_S (zz (z4 (wl (gZ (vs:=#[]) (cs:=#[.int .i64 0,.int .i64 0]) (by simp) kR) ?_)))))));refine qz hb2 rfl rfl xK rfl qX (fun w29 hq hs=>?_);replace hB:=hB.tr1 hs lo2;replace hb2:=hq;refine zq (e_S (q8 (qK (.inl rfl) rfl (qq U43 rfl rfl hb2.range0 xK) ?_)));exact⟨xj (hR'.trans (jz om)),hB⟩
end Go.Proofs.YtfkbjncidemcbaaDoor
namespace Go.Proofs.YtfkbjncidemcbaaDoor
open Go.RowKit
theorem meet_yes {l:List Ty} (h60:l.length≤60) {a b m c:Nat} (hm:m < l.length) (hcm:uV l a b m=true) (hl:∀ i,i < m→uV l a b i=false) (hc:c < l.length) (hcc:uV l a b c=true) (hs:sub l c m=false):(Z5 l a b).2.2=true:=by
  have h0:jq l a b≠0:=fun h=>by
    have:=mask_eq_zero.1 h m hm;rw [hcm] at this;cases this
  have hz:=Kw h60 h0;have he:Lib.ctz 64 (jq l a b)=m:=by
    have h1:¬Lib.ctz 64 (jq l a b) < m:=fun h=>by
      have:=hl _ h;rw [show uV l a b (Lib.ctz 64 (jq l a b))=true from hz.2.1] at this;cases this
    have h2:¬m < Lib.ctz 64 (jq l a b):=fun h=>by
      have:=hz.2.2 m h;rw [hcm] at this;cases this
    omega
  have hd:Zj l (Lib.ctz 64 (jq l a b))≠jq l a b:=fun h=>by
    rw [he] at h;have:=mask_inj.1 h c hc;rw [hs,hcc] at this;cases this
  simp only [Z5,if_neg h0,if_pos hd]
theorem GW {l:List Ty} {a b:Nat} (h:∀ i,i < l.length→uV l a b i=false):(Z5 l a b).2.2=false:=by
  have h0:jq l a b=0:=mask_eq_zero.2 h;simp only [Z5,if_pos h0]
theorem GK {l:List Ty} (hv:VT l) (h60:l.length≤60) {a b m:Nat} (hm:m < l.length) (hcm:uV l a b m=true) (hl:∀ i,i < m→uV l a b i=false) (hs:∀ i,i < l.length→uV l a b i=true→sub l i m=true):(Z5 l a b).2.2=false:=by
  have h0:jq l a b≠0:=fun h=>by
    have:=mask_eq_zero.1 h m hm;rw [hcm] at this;cases this
  have hz:=Kw h60 h0;have he:Lib.ctz 64 (jq l a b)=m:=by
    have h1:¬Lib.ctz 64 (jq l a b) < m:=fun h=>by
      have:=hl _ h;rw [show uV l a b (Lib.ctz 64 (jq l a b))=true from hz.2.1] at this;cases this
    have h2:¬m < Lib.ctz 64 (jq l a b):=fun h=>by
      have:=hz.2.2 m h;rw [hcm] at this;cases this
    omega
  have hd:Zj l (Lib.ctz 64 (jq l a b))=jq l a b:=by
    rw [he];refine kq (fun i hi=>?_);cases h1:sub l i m with
    | true=>
      simp only [uV,Bool.and_eq_true] at hcm;simp [uV,N5 hv h1 hcm.1,N5 hv h1 hcm.2]
    | false=>
      cases h2:uV l a b i with
      | false=>rfl
      | true=>rw [hs i hi h2] at h1;cases h1
  simp only [Z5,if_neg h0,hd,ne_eq,not_true_eq_false,if_false]
inductive MS (l:List Ty) (a b c:Nat) (m:Int):Prop
  | none (h:m= -1) (h0:∀ i,i < c→uV l a b i=false)
  | some (n:Nat) (h:m=n) (hn:n < c) (h1:uV l a b n=true) (h2:∀ i,i < n→uV l a b i=false) (h3:∀ i,i < c→uV l a b i=true→sub l i n=true)
theorem MS.start (l:List Ty) (a b:Nat):MS l a b 0 (-1):= .none rfl (fun i h=>by omega)
theorem MS.skip {l:List Ty} {a b c:Nat} {m:Int} (h:MS l a b c m) (hc:uV l a b c=false):MS l a b (c + 1) m:=by
  cases h with
  | none h h0=>exact .none h (fun i hi=>by
      by_cases e:i=c
      · subst e;exact hc
      · exact h0 i om)
  | some n h hn h1 h2 h3=>exact .some n h om h1 h2 (fun i hi hci=>by
      by_cases e:i=c
      · subst e;rw [hc] at hci;cases hci
      · exact h3 i om hci)
theorem MS.first {l:List Ty} (hv:VT l) {a b c:Nat} {m:Int} (h:MS l a b c m) (hm:m < 0) (hc:uV l a b c=true):MS l a b (c + 1) c:=by
  cases h with
  | none h h0=>exact .some c rfl om hc h0 (fun i hi hci=>by
      by_cases e:i=c
      · subst e;exact Jx hv _
      · rw [h0 i om] at hci;cases hci)
  | some n h=>omega
theorem MS.pos {l:List Ty} {a b c:Nat} {m:Int} (h:MS l a b c m) (hm:¬m < 0):∃ n:Nat,m=n∧n < c∧uV l a b n=true∧(∀ i,i < n→uV l a b i=false)∧∀ i,i < c→uV l a b i=true→sub l i n=true:=by
  cases h with
  | none h=>omega
  | some n h hn h1 h2 h3=>exact⟨n,h,hn,h1,h2,h3⟩
theorem MS.end_ {l:List Ty} (hv:VT l) (h60:l.length≤60) {a b:Nat} {m:Int} (h:MS l a b l.length m):(Z5 l a b).2.2=false:=by
  cases h with
  | none h h0=>exact GW h0
  | some n h hn h1 h2 h3=>exact GK hv h60 hn h1 h2 h3
def Ok (n:Nat) (r:Nat→Nat) (k i:Nat):Value:=if i < k then .slice (some ⟨r i,0,none⟩) n n else .slice none 0 0
def CQ (l:List Ty):Int:=if (uJ l).1=0 then -1 else (uJ l).2
theorem MZ {l:List Ty} {k:Int} (h:uJ l=(16,k)):CQ l=k:=by simp [CQ,h]
theorem Fq {l:List Ty} (h:uJ l=(0,0)):CQ l= -1:=by simp [CQ,h]
theorem gy {a b:Int} (h:a=b):Ending.returned (.int .i64 b)= .returned (.int .i64 a):=by rw [h]
theorem fn50:qj Tryd.prog 50=true:=by kernel_rfl
theorem in135:(Tryd.prog.info? 135).map (fun i=>(i.zero,i.size,i.bytes))=some (some (.slice none 0 0),1,24):=by kernel_rfl
theorem in4_Unmet:(Tryd.prog.info? 4).map (fun i=>(i.zero,i.size,i.bytes))=some (some (.bool false),1,1):=by kernel_rfl
theorem Ew:(Tryd.prog.info? 135).map (·.size)=some 1:=by kernel_rfl
theorem QV:(Tryd.prog.info? 4).map (·.size)=some 1:=by kernel_rfl
theorem Tz (A:Option Addr) (c:Nat) (l:List Ty) (w:World) (hT:TypesIn w A l) (hv:VT l) (h60:l.length≤60):Calls Tryd.prog 72 #[.slice A l.length c] w fun e w'=>e= .returned (.int .i64 (CQ l))∧Bel w w':=by
 refine enter Tryd.func72 Tryd.ntmps72 rfl (Nat.le_of_ble_eq_true rfl) ?_;have hB:Bel w w:=Below.refl _ _;refine zz (z4 (waI rfl (zq (e_S (zz (z4 (wmS rfl (wl (x6 U22 rfl) (waI rfl (zq (e_S (zz (z4 (wmI rfl ?_))))))))))))));refine Vy (m:=l.length) U152 in135 rfl rfl rfl om om (fun b14 w1 hb14 hs hr=>?_);have lo14:=nLT (Bel.size hB) hr;replace hB:=hB.tr0 hs;refine waS rfl (zq (e_S (zz (zz (z4 (wmI rfl (wmI rfl (zq (e_S (zY ?_))))))))));refine x8 [5,6,16,17,18,19,20,21,22,23,24,25,26,27,28,29,30,31,32,33,34,35,36,37,38,39] (fun m g w'=>∃ (k:Nat) (r:Nat→Nat),k≤l.length∧m=l.length - k∧g 16= .int .i64 k∧Bel w w'∧Blk w' b14 135 (row l.length (fun i=>Ok l.length r k i))∧(∀ i,i < k→Blk w' (r i) 4 (row l.length (fun j=> .bool (sub l i j))))) (l.length) ?_ (fun m g4 w2 hI=>?_)
 ·refine⟨0,fun _=>0,Nat.zero_le _,rfl,rfl,hB,?_,fun i hi=>by omega⟩;rw [j6 (g':=fun _=> .slice none 0 0) (fun j _=>by simp [Ok])];exact hb14
 obtain⟨k,r,hk,hm,h16,hB,hb14,hrw⟩:=hI;refine qv 16 (.int .i64 k) h16 nu (zz (z4 (wl (x9 rfl rfl) (zq (e_S (zz ?_))))));refine qx rfl (fun c17=>?_) (fun c17=>?_)
 ·have hlt:k < l.length:=by omega
  refine zK (e_S (zz (zY (zz (z4 (wmI rfl (waI rfl (zq (e_S (zz (z4 (wmS rfl (wmI rfl (wmI rfl ?_))))))))))))));refine Vy (m:=l.length) ZQ in4_Unmet rfl rfl rfl om om (fun b22 w3 hb22 hs hr=>?_);have:=nLL hb14.lt hr;have or_hrw_b22:=(fun(i:Nat) (hi:i < k)=>nLL (hrw i hi).lt hr)
  have lo22:=nLT (Bel.size hB) hr;replace hB:=hB.tr0 hs;replace hb14:=hb14.tr0 hs;replace hrw:=fun i hi=>(hrw i hi).tr0 hs
  refine wl (xX (i:=k) U152 Ew rfl rfl om rfl) ?_;refine vw (v:= .slice _ _ _) hb14 rfl rfl Ew (by rw [row_size];omega) rfl oq (fun w4 hq hs=>?_);replace hB:=hB.tr1 hs lo14;replace hrw:=fun i hi=>(hrw i hi).tr1 hs (by first | (have:=or_hrw_b22 i hi;omega) | exact fun h=>absurd (u3 (h ▸ hrw i hi) hb14) dE)
  replace hb22:=hb22.tr1 hs om;replace hb14:=hq
  rw [j6 (g':=fun i=>Ok l.length (fun i=>if i=k then b22 else r i) (k + 1) i) (fun j _=>by
    by_cases e:j=k
    · subst e;simp [Ok]
    · have e1:(j < k + 1) ↔ (j < k):=by omega
      simp [Ok,e,e1])] at hb14
  have e14:Ok l.length (fun i=>if i=k then b22 else r i) (k + 1) k= .slice (some ⟨b22,0,none⟩) l.length l.length:=by simp [Ok]
  refine zq (e_S (zz (z4 (wmI rfl (wmI rfl (zq (e_S (zY ?_))))))));refine x8 [6,25,26,27,28,29,30,31,32,33,34,35,36,37,38] (fun m g w'=>∃ (j:Nat),j≤l.length∧m=l.length - j∧g 25= .int .i64 j∧Bel w w'∧Blk w' b14 135 (row l.length (fun i=>Ok l.length (fun i=>if i=k then b22 else r i) (k + 1) i))∧Blk w' b22 4 (row l.length (fun x=> .bool (if x < j then sub l k x else false)))∧(∀ i,i < k→Blk w' (r i) 4 (row l.length (fun j=> .bool (sub l i j))))) (l.length) ?_ (fun m g8 w5 hI=>?_)
  ·refine⟨0,Nat.zero_le _,rfl,rfl,hB,hb14,?_,hrw⟩;rw [j6 (g':=fun _=> .bool false) (fun j _=>by simp)];exact hb22
  obtain⟨j,hj,hmj,h25,hB,hb14,hb22,hrw⟩:=hI;refine qv 25 (.int .i64 j) h25 nu (zz (z4 (wl (x9 rfl rfl) (zq (e_S (zz ?_))))));refine qx rfl (fun c26=>?_) (fun c26=>?_)
  ·have hlj:j < l.length:=by omega
   refine zK (e_S (zz (zY (zz (z4 (wmI rfl (waI rfl (zq (e_S ?_)))))))));refine jv 10 [28,29,30,31,32,33,34,35,36,37] (fun _=>false) (fun ix v wv=>match ix with | 0=>v= .slice (some ⟨b14,0,none⟩) l.length l.length | 1=>v= .int .i64 k | 2=>v= .pointer (some ⟨b14,0 + k * 1,none⟩) | 3=>v= .slice (some ⟨b22,0,none⟩) l.length l.length | 4=>v= .int .i64 j | 5=>v= .slice A l.length c | 6=>v= .int .i64 k | 7=>v= .int .i64 j | 8=>v= .bool (sub l k j) | 9=>v= .pointer (some ⟨b22,0 + j * 1,none⟩) | _=>True) kR kR ?_ ?_ ?_
   ·intro ix v wv wv2 h hs
    match ix,h with
    | 0,h=>exact h
    | 1,h=>exact h
    | 2,h=>exact h
    | 3,h=>exact h
    | 4,h=>exact h
    | 5,h=>exact h
    | 6,h=>exact h
    | 7,h=>exact h
    | 8,h=>exact h
    | 9,h=>exact h
    | _ + 10,h=>exact trivial
   ·intro ix o hix hoq gg wx hs hd hdis
    match ix,hix,hoq with
    | 0,_,hoq=>
     cases sI hoq;exact oV (qy (v:= .slice _ _ _) rfl) rfl
    | 1,_,hoq=>
     cases sI hoq;exact oV (qy (v:= .int _ _) rfl) rfl
    | 2,_,hoq=>
     cases sI hoq;refine zx 28 (.slice (some ⟨b14,0,none⟩) l.length l.length) (hd 0 (zj kR)) nu (zx 29 (.int .i64 k) (hd 1 (zj kR)) nu ?_);exact oV (xX (i:=k) U152 Ew rfl rfl om rfl) rfl
    | 3,_,hoq=>
     cases sI hoq;replace hb14:=hb14.tr0 hs;refine zx 30 (.pointer (some ⟨b14,0 + k * 1,none⟩)) (hd 2 (zj kR)) nu ?_;exact oV (zQ (v:= .slice (some ⟨b22,0,none⟩) l.length l.length) ZQ rfl rfl (by rw [← e14];exact hb14.cell (jV hlt))) rfl
    | 4,_,hoq=>
     cases sI hoq;exact oV (qy (v:= .int _ _) rfl) rfl
    | 5,_,hoq=>
     cases sI hoq;exact oV (qy (v:= .slice _ _ _) rfl) rfl
    | 6,_,hoq=>
     cases sI hoq;exact oV (qy (v:= .int _ _) rfl) rfl
    | 7,_,hoq=>
     cases sI hoq;exact oV (qy (v:= .int _ _) rfl) rfl
    | 8,_,hoq=>
     cases sI hoq;replace hB:=hB.tr0 hs;refine zx 33 (.slice A l.length c) (hd 5 (zj kR)) nu (zx 34 (.int .i64 k) (hd 6 (zj kR)) nu (zx 35 (.int .i64 j) (hd 7 (zj kR)) nu ?_));refine xq fn50 (O9 _ _ _ _ _ wx (hT.mono hB) hv h60 hlt hlj) rfl (fun e' w2 hr=>?_);obtain⟨rfl,hs⟩:=hr;exact⟨_,rfl,sB hs,rfl,qZ⟩
    | 9,_,hoq=>
     cases sI hoq;refine zx 31 (.slice (some ⟨b22,0,none⟩) l.length l.length) (hd 3 (zj kR)) nu (zx 32 (.int .i64 j) (hd 4 (zj kR)) nu ?_);exact oV (xX (i:=j) ZQ QV rfl rfl om rfl) rfl
    | _ + 10,hix,_=>exact absurd hix om
   intro gg w6 hs hR hdis;replace hB:=hB.tr0 hs;replace hb14:=hb14.tr0 hs;replace hrw:=fun i hi=>(hrw i hi).tr0 hs
   replace hb22:=hb22.tr0 hs;refine y5 36 (.bool (sub l k j)) (hR 8 dE) nu (y5 37 (.pointer (some ⟨b22,0 + j * 1,none⟩)) (hR 9 dE) nu ?_);refine vw (v:= .bool _) hb22 rfl rfl QV (by rw [row_size];omega) rfl oq (fun w7 hq hs=>?_);replace hB:=hB.tr1 hs lo22;replace hb14:=hb14.tr1 hs om;replace hrw:=fun i hi=>(hrw i hi).tr1 hs (by first | (have:=or_hrw_b22 i hi;omega) | exact fun h=>absurd (u3 (h ▸ hrw i hi) hb14) dE)
   replace hb22:=hq
   rw [j6 (g':=fun x=> .bool (if x < j + 1 then sub l k x else false)) (fun x _=>by
     by_cases e:x=j
     · subst e;simp
     · have e1:(x < j + 1) ↔ (x < j):=by omega
       simp [e,e1])] at hb22
   refine zq (e_B (e_S (z4 (wl (xw rfl rfl rfl om) (wmI rfl (zq (yw (l.length - (j + 1)) om agA ?_)))))));exact⟨j + 1,by omega,rfl,rfl,hB,hb14,hb22,hrw⟩
  have hjl:j=l.length:=by omega
  rw [hjl,j6 (g':=fun x=> .bool (sub l k x)) (fun x hx=>by simp [hx])] at hb22;replace hrw:∀ i,i < k + 1→Blk w5 (if i=k then b22 else r i) 4 (row l.length (fun j=> .bool (sub l i j))):=fun i hi=>by
    by_cases e:i=k
    · subst e;simp only [if_true];exact hb22
    · simp only [if_neg e];exact hrw i om
  refine xx (vx (yq (vj (e_B (e_S (z4 (wl (xw rfl rfl rfl om) (wmI rfl (zq (yw (l.length - (k + 1)) om agA ?_))))))))));exact⟨k + 1,fun i=>if i=k then b22 else r i,by omega,rfl,rfl,hB,hb14,hrw⟩
 have hkl:k=l.length:=by omega
 rw [hkl,j6 (g':=fun i=> .slice (some ⟨r i,0,none⟩) l.length l.length) (fun j hj=>by simp [Ok,hj])] at hb14;rw [hkl] at hrw;refine xx (vx (yq (vj (e_S (zz (zz (z4 (wmI rfl (wmI rfl (zq (e_S (zY ?_))))))))))));refine x8 [2,7,8,9,10,41,42,43,44,45,46,47,48,49,50,51,52,53,54,55,56,57,58,59,60,61,62,63,64,65,66,67,68,69,70,71,72,73,74,75,76,77,78,79,80,81,82] (fun m g w'=>∃ (k:Nat),k≤l.length∧m=l.length - k∧g 41= .int .i64 k∧w2=w'∧uJ l=xV (M2 l) k (l.length - k)) (l.length) ?_ (fun m g14 w8 hI=>?_)
 ·exact⟨0,Nat.zero_le _,rfl,rfl,rfl,rfl⟩
 obtain⟨k,hk2,hm,h41,rfl,hU⟩:=hI;refine qv 41 (.int .i64 k) h41 nu (zz (z4 (wl (x9 rfl rfl) (zq (e_S (zz ?_))))));refine qx rfl (fun c42=>?_) (fun c42=>?_)
 ·have hlt:k < l.length:=by omega
  refine zK (e_S (zz (zY (zz (z4 (wmI rfl (waI rfl (zq (e_S (zz (z4 (wmI rfl (wmI rfl (zq (e_S (zY ?_))))))))))))))));refine x8 [2,8,9,10,45,46,47,48,49,50,51,52,53,54,55,56,57,58,59,60,61,62,63,64,65,66,67,68,69,70,71,72,73,74,75,76,77,78,79,80,81] (fun m g w'=>∃ (a:Nat),a≤k∧m=k - a∧g 45= .int .i64 a∧w2=w'∧(∀ j,j < a→(Z5 l j k).2.2=false)) (k) ?_ (fun m g17 w9 hI=>?_)
  ·exact⟨0,Nat.zero_le _,rfl,rfl,rfl,fun j hj=>by omega⟩
  obtain⟨a,ha,hma,h45,rfl,hM⟩:=hI;refine qv 45 (.int .i64 a) h45 nu (zz (z4 (wl (x9 rfl rfl) (zq (e_S (zz ?_))))));refine qx rfl (fun c46=>?_) (fun c46=>?_)
  ·refine zK (e_S (zz (zY (zz (z4 (wmI rfl (waI rfl (zq (e_S (zz (z4 (waI rfl (zq (e_S (zz (z4 (wmI rfl (wmI rfl (zq (e_S (zY ?_)))))))))))))))))))));refine x8 [2,9,10,49,50,51,52,53,54,55,56,57,58,59,60,61,62,63,64,65,66,67,68,69,70,71,72,73,74,75,76,77,78,79,80] (fun m g w'=>∃ (x:Nat) (m9:Int),x≤l.length∧m=l.length - x∧g 49= .int .i64 x∧g 9= .int .i64 m9∧w2=w'∧MS l a k x m9) (l.length) ?_ (fun m g21 w10 hI=>?_)
   ·exact⟨0,-1,Nat.zero_le _,rfl,rfl,rfl,rfl,MS.start l a k⟩
   obtain⟨x,m9,hx,hmx,h49,h9,rfl,hS⟩:=hI;refine qv 49 (.int .i64 x) h49 nu (qv 9 (.int .i64 m9) h9 nu (zz (z4 (wl (x9 rfl rfl) (zq (e_S (zz ?_)))))));refine qx rfl (fun c50=>?_) (fun c50=>?_)
   ·have hlx:x < l.length:=by omega
    refine zK (e_S (zz (zY (zz (z4 (wmI rfl (waI rfl (zq (e_S (zz ?_))))))))));refine y7 [52,53,54,55,56,57,58,59,60,61,62,63,64,65,66,67] 67 (.bool (decide (uV l a k x=true))) nu ?_ (fun gq=>?_)
    ·refine z4 (wmS rfl (wmI rfl (wl (xX (i:=x) U152 Ew rfl rfl om rfl) (wl (zQ (v:= .slice _ _ _) ZQ rfl rfl (hb14.cell (jV hlx))) (wmI rfl (wl (xX (i:=a) ZQ QV rfl rfl om rfl) (wl (zQ (v:= .bool _) U4 rfl rfl ((hrw x hlx).cell (jV om))) (wmB rfl ?_))))))));refine Mv 59 rfl (fun g59=>?_) (fun g59=>?_)
     ·refine zw 59 rfl rfl (wmS rfl (zw 59 rfl rfl (wmI rfl (zw 59 rfl rfl (wl (xX (i:=x) U152 Ew rfl rfl om rfl) (zw 59 rfl rfl (wl (zQ (v:= .slice _ _ _) ZQ rfl rfl (hb14.cell (jV hlx))) (zw 59 rfl rfl (wmI rfl (zw 59 rfl rfl (wl (xX (i:=k) ZQ QV rfl rfl om rfl) (zw 59 rfl rfl (wl (zQ (v:= .bool _) U4 rfl rfl ((hrw x hlx).cell (jV hlt))) (wl (qw (v:= .bool _) rfl rfl) ?_))))))))))))));refine zq (e_R ⟨rfl,agA,?_⟩);show Value.bool _=Value.bool _;exact congrArg Value.bool (by simp [uV,g59])
     refine zy 59 rfl rfl rfl (zy 59 rfl rfl rfl (zy 59 rfl rfl rfl (zy 59 rfl rfl rfl (zy 59 rfl rfl rfl (zy 59 rfl rfl rfl (zy 59 rfl rfl rfl (wl (qV (v:= .bool _) rfl rfl) ?_)))))));refine zq (e_R ⟨rfl,agA,?_⟩);show Value.bool _=Value.bool _;exact congrArg Value.bool (by simp [uV,g59])
    refine e_S ?_;refine qx rfl (fun c67=>?_) (fun c67=>?_)
    ·refine zz (z4 (wmI rfl (wl (x9 rfl rfl) (zq (e_S ?_)))));refine qx rfl (fun c69=>?_) (fun c69=>?_)
     ·have hS2:=hS.first hv c69 c67;refine z4 (wmI rfl (waI rfl (zq (e_B (e_S (z4 (wl (xw rfl rfl rfl om) (wmI rfl (zq (yw (l.length - (x + 1)) om agA ?_))))))))));exact⟨x + 1,_,by omega,rfl,rfl,rfl,rfl,hS2⟩
     obtain⟨mn,rfl,hmn,hq1,hq2,hq3⟩:=hS.pos c69;refine zz (z4 (wmS rfl (wmI rfl (wl (xX (i:=x) U152 Ew rfl rfl om rfl) (wl (zQ (v:= .slice _ _ _) ZQ rfl rfl (hb14.cell (jV hlx))) (wmI rfl (wl (xX (i:=mn) ZQ QV rfl rfl om rfl) (wl (zQ (v:= .bool _) U4 rfl rfl ((hrw x hlx).cell (jV om))) (wl (vY rfl) (zq (e_S ?_)))))))))));refine kZ rfl (fun c78=>?_) (fun c78=>?_)
     ·have hme:=meet_yes h60 (show mn < l.length by omega) hq1 hq2 hlx c67 (by simpa using c78);have hun:=MQ (show a < k by omega) hme;have hfin:=MZ (hU.trans (xy om hun dE));refine zz (z4 (wmI rfl (waI rfl (zq (e_S (q8 (qW (qQ (y8 (qW (qW (qQ (y8 (qW (qW (qQ (y8 (qW (qQ (qK (.inl rfl) rfl rfl ?_))))))))))))))))))));exact⟨gy hfin,hB⟩
     have hS2:MS l a k (x + 1) (mn:Int):= .some mn rfl om hq1 hq2 (fun i hi hci=>by
       by_cases e:i=x
       · subst e;simpa using c78
       · exact hq3 i om hci)
     refine zK (e_B (e_S (z4 (wl (xw rfl rfl rfl om) (wmI rfl (zq (yw (l.length - (x + 1)) om agA ?_)))))));exact⟨x + 1,_,by omega,rfl,rfl,rfl,rfl,hS2⟩
    have hS2:=hS.skip (by simpa using c67);refine zK (e_B (e_S (z4 (wl (xw rfl rfl rfl om) (wmI rfl (zq (yw (l.length - (x + 1)) om agA ?_)))))));exact⟨x + 1,_,by omega,rfl,rfl,rfl,rfl,hS2⟩
   have hxl:x=l.length:=by omega
   subst hxl;have hme:=hS.end_ hv h60;refine xx (vx (yq (vj (e_B (e_S (z4 (wl (xw rfl rfl rfl om) (wmI rfl (zq (yw (k - (a + 1)) om agA ?_))))))))))
   exact⟨a + 1,by omega,rfl,rfl,rfl,fun j hj=>by
     by_cases e:j=a
     · subst e;exact hme
     · exact hM j om⟩
  have hun:M2 l k=0:=Fx (fun j hj=>hM j om);refine xx (vx (yq (vj (e_B (e_S (z4 (wl (xw rfl rfl rfl om) (wmI rfl (zq (yw (l.length - (k + 1)) om agA ?_))))))))));exact⟨k + 1,by omega,rfl,rfl,rfl,hU.trans (vV hlt hun)⟩
 have hfin:=Fq (hU.trans (jz om));refine xx (vx (yq (vj (e_S (zz (z4 (waI rfl (zq (e_S (q8 (qK (.inl rfl) rfl rfl ?_)))))))))));exact⟨gy hfin,hB⟩
end Go.Proofs.YtfkbjncidemcbaaDoor
