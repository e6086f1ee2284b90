/- What these functions of the program compute, at every world: glosswright/hierarchy.Tables. What these functions of the program compute, at every world: glosswright/hierarchy.Validate. What these functions of the program compute, at every world: glosswright/glosswrightref3.Unmet. What these functions of the program compute, at every world: glosswright/glosswrightref3.HierarchyFault. Plain laws of the order of types: meets, joins, remainders. No program in sight. -/
import Derived.Test.YtbcpgfnfiekbiaaGreatDoorU
import Derived.Test.YtbcpgfnfiekbiaaGreatDoorTrm
import Derived.Test.YtbcpgfnfiekbiaaGreatDoorMeet
namespace Go.Proofs.YtbcpgfnfiekbiaaGreatDoor
open Go.RowKit
def Jy (l:List Ty) (k:Nat) (ps:List Int) (x:Nat):Bool:=decide (x=k) || ps.any (fun p=>sub l p.toNat x)
theorem parM_zero {l:List Ty} {k:Nat} (hk:k < l.length):jq (Jy l k []) l.length=2 ^ k:=by
  rw [F6 hk];exact j9 (fun j _=>by simp [Jy])
theorem parM_snoc {l:List Ty} {k j:Nat} {ps:List Int} (hj:j < ps.length):jq (Jy l k (ps.take j)) l.length ||| upN l (ps[j]).toNat=jq (Jy l k (ps.take (j + 1))) l.length:=by
  unfold upN;rw [mask_or];refine j9 (fun x _=>?_);simp only [Jy];rw [List.take_succ_eq_append_getElem hj,List.any_append];simp [Bool.or_assoc]
theorem parM_end {l:List Ty} (hv:VT l) {k:Nat} (hk:k < l.length):jq (Jy l k (l[k]).par) l.length=upN l k:=by
  unfold upN;refine j9 (fun x _=>?_);rw [H4 hv];have e1:decide (x=k)=decide (k=x):=by simp only [eq_comm]
  simp only [Jy,e1]
  congr 1
  simp only [Nq,List.getElem?_eq_getElem hk,List.any_map];rfl
def upP (l:List Ty) (k i:Nat):Nat:=if i < k then upN l i else 0
def uS (l:List Ty) (k X i:Nat):Nat:=if i=k then X else upP l k i
theorem uS_k (l:List Ty) (k X:Nat):uS l k X k=X:=by simp [uS]
theorem uS_lt {l:List Ty} {k X p:Nat} (h:p < k):uS l k X p=upN l p:=by
  have:p≠k:=by omega
  simp [uS,upP,this,h]
theorem uS_end (l:List Ty) (k i:Nat):uS l k (upN l k) i=upP l (k + 1) i:=by
  unfold uS upP;by_cases h:i=k
  · subst h;simp
  · have:(i < k + 1) ↔ (i < k):=by omega
    simp [h,this]
def dnP (l:List Ty) (k j:Nat):Nat:=jq (fun i=>decide (i < k) && sub l i j) l.length
theorem dnP_zero (l:List Ty) (j:Nat):dnP l 0 j=0:=mask_eq_zero.2 (fun i _=>by simp)
theorem dnP_yes {l:List Ty} {k j:Nat} (hk:k < l.length) (h:sub l k j=true):dnP l k j ||| 2 ^ k=dnP l (k + 1) j:=by
  unfold dnP;rw [F6 hk,mask_or];refine j9 (fun i _=>?_);by_cases e:i=k
  · subst e;simp [h]
  · have e1:decide (i < k + 1)=decide (i < k):=decide_eq_decide.2 om
    simp [e,e1]
theorem dnP_no {l:List Ty} {k j:Nat} (h:sub l k j=false):dnP l k j=dnP l (k + 1) j:=by
  unfold dnP;refine j9 (fun i _=>?_);by_cases e:i=k
  · subst e;simp [h]
  · have e1:decide (i < k + 1)=decide (i < k):=decide_eq_decide.2 om
    simp [e1]
theorem dnP_end (l:List Ty) (j:Nat):dnP l l.length j=Zz l j:=by
  unfold dnP Zz;exact j9 (fun i hi=>by simp [hi])
theorem upP_end {l:List Ty} {i:Nat} (h:i < l.length):upP l l.length i=upN l i:=by simp [upP,h]
def dS (l:List Ty) (k j x:Nat):Nat:=if x < j then dnP l (k + 1) x else dnP l k x
theorem dS_j (l:List Ty) (k j:Nat):dS l k j j=dnP l k j:=by simp [dS]
theorem dS_yes {l:List Ty} {k j:Nat} (hk:k < l.length) (h:sub l k j=true) (x:Nat):(if x=j then dS l k j j ||| 2 ^ k else dS l k j x)=dS l k (j + 1) x:=by
  by_cases e:x=j
  · subst e;simp only [if_true,dS_j,dnP_yes hk h];simp [dS]
  · have e1:(x < j + 1) ↔ (x < j):=by omega
    simp [e,dS,e1]
theorem dS_no {l:List Ty} {k j:Nat} (h:sub l k j=false) (x:Nat):dS l k j x=dS l k (j + 1) x:=by
  by_cases e:x=j
  · subst e;rw [dS_j,dnP_no h];simp [dS]
  · have e1:(x < j + 1) ↔ (x < j):=by omega
    simp [dS,e1]
theorem dS_lt {l:List Ty} (h:l.length≤60) (k j x:Nat):dS l k j x < 18446744073709551616:=by
  unfold dS dnP;split <;> exact ZJ _ h
theorem uS_bd {l:List Ty} (h:l.length≤60) {k X x:Nat} (hX:X < 18446744073709551616):uS l k X x < 18446744073709551616:=by
  unfold uS upP;split
  · exact hX
  · split
    · exact Wy h _
    · decide
theorem V5 {n:Nat} {g:Nat→Nat} {f:Nat→Nat} (h:∀ j,j < n→g j=f j):row n (fun j=>Value.int .u64 ((g j:Nat):Int))=row n (fun j=>Value.int .u64 ((f j:Nat):Int)):=xQ (fun j hj=>by rw [h j hj])
theorem Hk {n k c:Nat} {g:Nat→Nat}:row n (fun j=>if j=k then Value.int .u64 (c:Int) else Value.int .u64 ((g j:Nat):Int))=row n (fun j=>Value.int .u64 ((if j=k then c else g j:Nat):Int)):=xQ (fun j _=>by split <;> rfl)
theorem in157:(Tryz.prog.info? 157).map (fun i=>(i.zero,i.size,i.bytes))=some (some (.int .u64 0),1,8):=by kernel_rfl
theorem Kq:(Tryz.prog.info? 110).map (·.size)=some 2:=by kernel_rfl
theorem sz89:(Tryz.prog.info? 89).map (·.size)=some 2:=by kernel_rfl
theorem C8:(Tryz.prog.info? 110).map (·.zero)=some (some (.agg #[.string ⟨#[]⟩,.slice none 0 0])):=by kernel_rfl
theorem ze89:(Tryz.prog.info? 89).map (·.zero)=some (some (.agg #[.slice none 0 0,.slice none 0 0])):=by kernel_rfl
theorem Jx (A:Option Addr) (c:Nat) (l:List Ty) (w:World) (hT:TypesIn w A l) (hv:VT l) (h60:l.length≤60):Calls Tryz.prog 55 #[.slice A l.length c] w fun e w'=>∃ bu bd,e= .returned (tabV l.length bu bd)∧TableIn w' l bu bd∧Bel w w':=by
 refine enT Tryz.func55 Tryz.ntmps55 rfl rfl fun hB=>?_;refine zn2 ?_;refine zY (cs:=#[.slice none 0 0,.slice none 0 0]) ze89 rfl (fun b2 w1 hb2 s1 hr=>?_);have lo2:=nLT (Bel.size hB) hr;refine zn3 ?_;have z2:=hb2.lt;replace hB:=hB.tr0 s1;have hsz:=Bel.size hB;refine jZ 8 [9,10,11,12,13,14,15,3] (fun ix=>Nat.beq ix 2 || Nat.beq ix 5 || Nat.beq ix 7) (fun ix v wv=>match ix with | 0=>v= .slice A l.length c | 1=>v= .int .i64 l.length | 2=>∃ bu,v= .slice (some ⟨bu,0,none⟩) l.length l.length∧w1.heap.size≤bu∧Blk wv bu 157 (row l.length (fun _=> .int .u64 0)) | 3=>v= .slice A l.length c | 4=>v= .int .i64 l.length | 5=>∃ bd,v= .slice (some ⟨bd,0,none⟩) l.length l.length∧w1.heap.size≤bd∧Blk wv bd 157 (row l.length (fun _=> .int .u64 0)) | 6=>∃ bu bd,v= .agg #[.slice (some ⟨bu,0,none⟩) l.length l.length,.slice (some ⟨bd,0,none⟩) l.length l.length]∧w1.heap.size≤bu∧Blk wv bu 157 (row l.length (fun _=> .int .u64 0))∧w1.heap.size≤bd∧Blk wv bd 157 (row l.length (fun _=> .int .u64 0))∧bu≠bd | 7=>∃ b,v= .pointer (some ⟨b,0,none⟩)∧w1.heap.size≤b∧Blk wv b 89 #[.slice none 0 0,.slice none 0 0] | _=>True) kR kR ?_ ?_ ?_
 ·intro ix v wv wv2 h s2
  match ix,h with
  | 0,h=>exact h
  | 1,h=>exact h
  | 2,h=>
   obtain⟨bu,e11,lobu,hbu⟩:=(show ∃ bu,v= .slice (some ⟨bu,0,none⟩) l.length l.length∧w1.heap.size≤bu∧Blk wv bu 157 (row l.length (fun _=> .int .u64 0)) from h)
   exact⟨bu,e11,lobu,hbu.tr0 s2⟩
  | 3,h=>exact h
  | 4,h=>exact h
  | 5,h=>
   obtain⟨bd,e14,lobd,hbd⟩:=(show ∃ bd,v= .slice (some ⟨bd,0,none⟩) l.length l.length∧w1.heap.size≤bd∧Blk wv bd 157 (row l.length (fun _=> .int .u64 0)) from h)
   exact⟨bd,e14,lobd,hbd.tr0 s2⟩
  | 6,h=>
   obtain⟨bu,bd,e15,lobu,hbu,lobd,hbd,hne⟩:=(show ∃ bu bd,v= .agg #[.slice (some ⟨bu,0,none⟩) l.length l.length,.slice (some ⟨bd,0,none⟩) l.length l.length]∧w1.heap.size≤bu∧Blk wv bu 157 (row l.length (fun _=> .int .u64 0))∧w1.heap.size≤bd∧Blk wv bd 157 (row l.length (fun _=> .int .u64 0))∧bu≠bd from h)
   exact⟨bu,bd,e15,lobu,hbu.tr0 s2,lobd,hbd.tr0 s2,hne⟩
  | 7,h=>
   obtain⟨b3,e3,lo3,hb3⟩:=(show ∃ b,v= .pointer (some ⟨b,0,none⟩)∧w1.heap.size≤b∧Blk wv b 89 #[.slice none 0 0,.slice none 0 0] from h)
   exact⟨b3,e3,lo3,hb3.tr0 s2⟩
  | _ + 8,h=>exact trivial
 ·intro ix o hix hoq gg wx s3 hd hdis
  match ix,hix,hoq with
  | 0,_,hoq=>
   cases sI hoq;exact oVq (xZ (v:= .slice _ _ _) rfl) rfl
  | 1,_,hoq=>
   cases sI hoq;have d0:gg 9= .slice A l.length c:=hd 0 (zq kR);have e9:=d0;refine zz 9 _ e9 nu ?_;exact oVq (Rv U22 rfl) rfl
  | 2,_,hoq=>
   cases sI hoq;have hs0:=s3;have d1:gg 10= .int .i64 l.length:=hd 1 (zq kR);have e10:=d1;refine zz 10 _ e10 nu ?_;refine vK (fun ops Q K=>?_);refine Xj U87 in157 rfl rfl rfl om om (fun b11 w2 hb11 s4 hr=>?_);exact K _ _ ⟨s4,⟨_,rfl,nLT hs0.size hr,hb11⟩,fRq hr hb11.lt⟩
  | 3,_,hoq=>
   cases sI hoq;exact oVq (xZ (v:= .slice _ _ _) rfl) rfl
  | 4,_,hoq=>
   cases sI hoq;have d3:gg 12= .slice A l.length c:=hd 3 (zq kR);have e12:=d3;refine zz 12 _ e12 nu ?_;exact oVq (Rv U22 rfl) rfl
  | 5,_,hoq=>
   cases sI hoq;have hs0:=s3;have d4:gg 13= .int .i64 l.length:=hd 4 (zq kR);have e13:=d4;refine zz 13 _ e13 nu ?_;refine vK (fun ops Q K=>?_);refine Xj U87 in157 rfl rfl rfl om om (fun b14 w3 hb14 s5 hr=>?_);exact K _ _ ⟨s5,⟨_,rfl,nLT hs0.size hr,hb14⟩,fRq hr hb14.lt⟩
  | 6,_,hoq=>
   cases sI hoq;have d2:∃ bu,gg 11= .slice (some ⟨bu,0,none⟩) l.length l.length∧w1.heap.size≤bu∧Blk wx bu 157 (row l.length (fun _=> .int .u64 0)):=hd 2 (zq kR);obtain⟨bu,e11,lobu,hbu⟩:=d2;have d5:∃ bd,gg 14= .slice (some ⟨bd,0,none⟩) l.length l.length∧w1.heap.size≤bd∧Blk wx bd 157 (row l.length (fun _=> .int .u64 0)):=hd 5 (zq kR);obtain⟨bd,e14,lobd,hbd⟩:=d5;have hne:bu≠bd:=fun h=>hdis 2 5 bu (zq kR) (zq kR) dE rfl rfl (show j6 (gg 11)=some bu by rw [e11];rfl) (show j6 (gg 14)=some bu by rw [e14,h];rfl)
   refine zz 11 _ e11 nu (zz 14 _ e14 nu ?_);exact oVq (yv (v0:= .slice _ _ _) (v1:= .slice _ _ _) (fun v0 v1=>#[v0,v1]) rfl rfl kR) ⟨_,_,rfl,lobu,hbu,lobd,hbd,hne⟩
  | 7,_,hoq=>
   cases sI hoq;have hs0:=s3;refine vK (fun ops Q K=>?_);refine zY (cs:=#[.slice none 0 0,.slice none 0 0]) ze89 rfl (fun b3 w4 hb3 s6 hr=>?_);exact K _ _ ⟨s6,⟨_,rfl,nLT hs0.size hr,hb3⟩,fRq hr hb3.lt⟩
  | _ + 8,hix,_=>exact absurd hix om
 intro gg w5 s7 hR hdis;have d6:∃ bu bd,gg 15= .agg #[.slice (some ⟨bu,0,none⟩) l.length l.length,.slice (some ⟨bd,0,none⟩) l.length l.length]∧w1.heap.size≤bu∧Blk w5 bu 157 (row l.length (fun _=> .int .u64 0))∧w1.heap.size≤bd∧Blk w5 bd 157 (row l.length (fun _=> .int .u64 0))∧bu≠bd:=hR 6 dE;obtain⟨bu,bd,e15,lobu,hbu,lobd,hbd,hne⟩:=d6;have d7:∃ b,gg 3= .pointer (some ⟨b,0,none⟩)∧w1.heap.size≤b∧Blk w5 b 89 #[.slice none 0 0,.slice none 0 0]:=hR 7 dE;obtain⟨b3,e3,lo3,hb3⟩:=d7;have h3u:b3≠bu:=fun h=>absurd (jQ (h ▸ hb3) hbu) dE
 have h3d:b3≠bd:=fun h=>absurd (jQ (h ▸ hb3) hbd) dE
 have or_2_3:b2 < b3:=nLL z2 lo3;have or_2_u:b2 < bu:=nLL z2 lobu;have or_2_d:b2 < bd:=nLL z2 lobd;replace lo3:=nLT hsz lo3;replace lobu:=nLT hsz lobu;replace lobd:=nLT hsz lobd;refine x7 15 _ e15 nu (x7 3 _ e3 nu ?_);refine zj hb3 rfl rfl sz89 rfl zX (fun w6 hq s8=>?_);replace hb3:=hq;refine yx ?_;replace hbu:=hbu.tr1 s8 om;replace hbd:=hbd.tr1 s8 om;refine zK (rg [4,5,7,8] 18 56) (fun m g w'=>∃ (k:Nat),k≤l.length∧m=l.length - k∧g 18= .int .i64 k∧Bel w w'∧Blk w' b2 89 #[.slice none 0 0,.slice none 0 0]∧Blk w' b3 89 #[.slice (some ⟨bu,0,none⟩) l.length l.length,.slice (some ⟨bd,0,none⟩) l.length l.length]∧Blk w' bu 157 (row l.length (fun i=> .int .u64 ((upP l k i:Nat):Int)))∧Blk w' bd 157 (row l.length (fun i=> .int .u64 ((dnP l k i:Nat):Int)))) (l.length) ?_ (fun m g3 w7 hI=>?_)
 ·refine⟨0,Nat.zero_le _,rfl,rfl,hB.u,hb2.u,hb3,?_,?_⟩
  · rw [V5 (f:=fun _=>0) (fun j _=>by simp [upP])];exact hbu
  · rw [V5 (f:=fun _=>0) (fun j _=>dnP_zero l j)];exact hbd
 obtain⟨k,hk,hm,h18,hB,hb2,hb3,hbu,hbd⟩:=hI;refine zQ 18 _ h18 nu (zn6 ?_);refine zy rfl (fun c19=>?_) (fun c19=>?_)
 ·have hlt:k < l.length:=by omega
  obtain⟨tb,to,A',cp,rfl,htb,htr,hpar⟩:=hT.at_ hB hlt;have hmx:=hpar.1;unfold vQ at hmx;refine zn8 ?_;refine wl (zV Nk rfl rfl htr Kq) ?_;refine zY (cs:=#[.string ⟨#[]⟩,.slice none 0 0]) C8 rfl (fun b5 w8 hb5 s9 hr=>?_);have:=nLL hb2.lt hr;have:=nLL hbu.lt hr;have:=nLL hbd.lt hr;have:=nLL hb3.lt hr;have lo5:=nLT (Bel.size hB) hr;refine waI rfl ?_;refine zj hb5 rfl rfl Kq rfl zX (fun w9 hq s10=>?_);replace hb5:=hq;refine zn3 ?_;refine QJ 6 kR kR (fun w10 s11=>?_);refine zn4 ?_;refine ws (r_shl1 rfl rfl om rfl) (zn1 ?_);refine Qk ?_;replace hbu:=((hbu.tr0 s9).tr1 s10 om).tr0 s11;refine x9 (v:= .int _ _) hbu rfl rfl sz157 (by rw [row_size];omega) rfl jV (fun w11 hq s12=>?_);replace hbu:=hq;replace hB:=(((hB.tr0 s9).tr1 s10 lo5).tr0 s11).tr1 s12 lobu;replace hb2:=(((hb2.tr0 s9).tr1 s10 om).tr0 s11).tr1 s12 om;replace hbd:=(((hbd.tr0 s9).tr1 s10 om).tr0 s11).tr1 s12 om;replace hb3:=(((hb3.tr0 s9).tr1 s10 om).tr0 s11).tr1 s12 om;replace hb5:=(hb5.tr0 s11).tr1 s12 om;replace hbu:Blk w11 bu 157 (row l.length (fun i=> .int .u64 ((uS l k (jq (Jy l k ((l[k]'hlt).par.take 0)) l.length) i:Nat):Int))):=by
    rw [Hk (g:=fun i=>upP l k i)] at hbu;rw [V5 (f:=fun i=>if i=k then 2 ^ k else upP l k i) (fun j _=>by rw [List.take_zero,parM_zero hlt];rfl)];exact hbu
  refine y8 ?_;refine zK (rg [7] 32 17) (fun m g w'=>∃ (j:Nat),j≤(l[k]'hlt).par.length∧m=(l[k]'hlt).par.length - j∧g 32= .int .i64 j∧Bel w w'∧Blk w' b2 89 #[.slice none 0 0,.slice none 0 0]∧Blk w' b3 89 #[.slice (some ⟨bu,0,none⟩) l.length l.length,.slice (some ⟨bd,0,none⟩) l.length l.length]∧Blk w' bu 157 (row l.length (fun i=> .int .u64 ((uS l k (jq (Jy l k ((l[k]'hlt).par.take j)) l.length) i:Nat):Int)))∧Blk w' bd 157 (row l.length (fun i=> .int .u64 ((dnP l k i:Nat):Int)))∧Blk w' b5 110 #[.string (l[k]'hlt).name,.slice A' (l[k]'hlt).par.length cp]) ((l[k]'hlt).par.length) ?_ (fun m g7 w12 hI=>?_)
  ·exact⟨0,Nat.zero_le _,rfl,rfl,hB,hb2,hb3,hbu,hbd,hb5⟩
  obtain⟨j,hj,hmj,h32,hB,hb2,hb3,hbu,hbd,hb5⟩:=hI;refine zQ 32 _ h32 nu (zn6 ?_);refine zy rfl (fun c33=>?_) (fun c33=>?_)
  ·have hlj:j < (l[k]'hlt).par.length:=by omega
   obtain⟨pb,po,rfl,hpb,hpc⟩:=hpar.at_ hlj;replace hpc:=hB.cell hpb hpc;have hpr:=hv k hlt _ (List.getElem_mem hlj);obtain⟨pn,hpn⟩:∃ pn:Nat,pn=((l[k]'hlt).par[j]).toNat:=⟨_,rfl⟩
   have hpi:(l[k]'hlt).par[j]=(pn:Int):=by rw [hpn];exact(Int.toNat_of_nonneg hpr.1).symm
   rw [hpi] at hpc hpr;have hXl:=ZJ (Jy l k ((l[k]'hlt).par.take j)) h60;refine zn7 ?_;refine wl (qZ (v:= .int _ _) U3 rfl rfl hpc) (zn3 ?_);refine QJ 12 kR kR (fun w13 s13=>?_);refine zn4 ?_;replace hbu:=hbu.tr0 s13;refine ws (qZ (v:= .int _ _) Yj rfl rfl (hbu.cell (yY hlt))) (zn4 ?_);refine ws (qZ (v:= .int _ _) Yj rfl rfl (hbu.cell (yY om))) (ws (X6 rfl rfl (uS_bd h60 hXl) (uS_bd h60 hXl)) (zn1 ?_));refine Qk ?_;refine x9 (v:= .int _ _) hbu rfl rfl sz157 (by rw [row_size];omega) rfl jV (fun w14 hq s14=>?_);replace hbu:=hq;replace hbu:Blk w14 bu 157 (row l.length (fun i=> .int .u64 ((uS l k (jq (Jy l k ((l[k]'hlt).par.take (j + 1))) l.length) i:Nat):Int))):=by
     rw [Hk (g:=fun i=>uS l k (jq (Jy l k ((l[k]'hlt).par.take j)) l.length) i)] at hbu
     rw [V5 (f:=fun i=>if i=k then uS l k (jq (Jy l k ((l[k]'hlt).par.take j)) l.length) k ||| uS l k (jq (Jy l k ((l[k]'hlt).par.take j)) l.length) pn else uS l k (jq (Jy l k ((l[k]'hlt).par.take j)) l.length) i) (fun i _=>by
       rw [uS_k,uS_lt (show pn < k by omega),hpn,parM_snoc hlj];by_cases e:i=k
       · simp [e,uS_k]
       · simp [e,uS])]
     exact hbu
   refine zn7 ?_;refine qV ((l[k]'hlt).par.length - (j + 1)) om agA ?_;replace hbd:=(hbd.tr0 s13).tr1 s14 om;exact⟨j + 1,by omega,rfl,rfl,hB.u,hb2.u,hb3.u,hbu,hbd,hb5.u⟩
  have hjl:j=(l[k]'hlt).par.length:=by omega
  rw [hjl,List.take_length,parM_end hv hlt,V5 (f:=fun i=>upP l (k + 1) i) (fun i _=>uS_end l k i)] at hbu;refine kJ ?_;refine zK (rg [8] 51 22) (fun m g w'=>∃ (j:Nat),j≤l.length∧m=l.length - j∧g 51= .int .i64 j∧Bel w w'∧Blk w' b2 89 #[.slice none 0 0,.slice none 0 0]∧Blk w' b3 89 #[.slice (some ⟨bu,0,none⟩) l.length l.length,.slice (some ⟨bd,0,none⟩) l.length l.length]∧Blk w' bu 157 (row l.length (fun i=> .int .u64 ((upP l (k + 1) i:Nat):Int)))∧Blk w' bd 157 (row l.length (fun i=> .int .u64 ((dS l k j i:Nat):Int)))) (l.length) ?_ (fun m g12 w15 hI=>?_)
  ·refine⟨0,Nat.zero_le _,rfl,rfl,hB,hb2,hb3,hbu,?_⟩;rw [V5 (f:=fun i=>dnP l k i) (fun i _=>by simp [dS])];exact hbd
  obtain⟨j,hj,hmj,h51,hB,hb2,hb3,hbu,hbd⟩:=hI;refine zQ 51 _ h51 nu (zn6 ?_);refine zy rfl (fun c52=>?_) (fun c52=>?_)
  ·have hlj:j < l.length:=by omega
   have huk:upP l (k + 1) k=upN l k:=by simp [upP]
   have huv:=Wy h60 k;have hbit:=D7 (upN l k) j;have hbt:(upN l k).testBit j=sub l k j:=by unfold upN;rw [jz];simp [hlj]
   rw [hbt] at hbit;refine IK ?_;refine wl (qZ (v:= .int _ _) Yj rfl rfl (hbu.cell (yY hlt))) (wmI rfl (wl (r_shr (b:=j) rfl rfl om rfl) (wl (Jw (b:=1) rfl rfl (by rw [huk];exact Nat.lt_of_le_of_lt (Nat.shiftRight_le _ _) huv) dE) (zn3 ?_))));refine zy rfl (fun c62=>?_) (fun c62=>?_)
   ·have hs1:sub l k j=true:=by rw [← hbit];exact decide_eq_true (by rw [huk] at c62;omega)
    refine QJ 9 kR kR (fun w16 s15=>?_);refine zn4 ?_;replace hbd:=hbd.tr0 s15;refine ws (qZ (v:= .int _ _) Yj rfl rfl (hbd.cell (yY hlj))) (zn1 ?_);refine ws (r_shl1 rfl rfl om rfl) (ws (X6 rfl rfl (dS_lt h60 _ _ _) (nLL (Nat.pow_lt_pow_right dE (show k < 60 by omega)) dE)) (zn1 ?_));refine Qk ?_;refine x9 (v:= .int _ _) hbd rfl rfl sz157 (by rw [row_size];omega) rfl jV (fun w17 hq s16=>?_);replace hbd:=hq;rw [Hk (g:=fun i=>dS l k j i),V5 (f:=fun i=>dS l k (j + 1) i) (fun i _=>dS_yes hlt hs1 i)] at hbd;refine zn7 ?_;refine qV (l.length - (j + 1)) om agA ?_;replace hbu:=(hbu.tr0 s15).tr1 s16 om;exact⟨j + 1,by omega,rfl,rfl,hB.u,hb2.u,hb3.u,hbu,hbd⟩
   have hs1:sub l k j=false:=by rw [← hbit];exact decide_eq_false (by rw [huk] at c62;omega)
   rw [V5 (f:=fun i=>dS l k (j + 1) i) (fun i _=>dS_no hs1 i)] at hbd;refine zn7 ?_;refine qV (l.length - (j + 1)) om agA ?_;exact⟨j + 1,by omega,rfl,rfl,hB,hb2,hb3,hbu,hbd⟩
  have hjl:j=l.length:=by omega
  rw [hjl,V5 (f:=fun i=>dnP l (k + 1) i) (fun i hi=>by simp [dS,hi])] at hbd;refine yw ?_;refine qV (l.length - (k + 1)) om agA ?_;exact⟨k + 1,by omega,rfl,rfl,hB,hb2,hb3,hbu,hbd⟩
 have hkl:k=l.length:=by omega
 subst hkl;refine zn8 ?_;refine zj hb2 rfl rfl sz89 rfl zX (fun w18 hq s17=>?_);replace hb2:=hq;refine zn3 ?_;refine x8 (.inl rfl) rfl (zk U89 rfl rfl hb2.range0 sz89) ?_;refine⟨bu,bd,rfl,⟨?_,?_⟩,hB.u⟩;replace hbu:=hbu.tr1 s17 om
 · rw [V5 (f:=upN l) (fun i hi=>upP_end hi)] at hbu;exact hbu
 replace hbd:=hbd.tr1 s17 om
 · rw [V5 (f:=Zz l) (fun i _=>dnP_end l i)] at hbd;exact hbd
end Go.Proofs.YtbcpgfnfiekbiaaGreatDoor
namespace Go.Proofs.YtbcpgfnfiekbiaaGreatDoor
open Go.RowKit
theorem V9 {i:Int}:∀ {ps:List Int} {last:Int},vx i last ps=0→∀ p ∈ ps,0≤p∧p < i
  | [],_,_,p,hp=>by cases hp
  | q :: ps,last,h,p,hp=>by
    unfold vx at h
    by_cases h1:q < 0∨i≤q
    · rw [if_pos h1] at h;cases h
    rw [if_neg h1] at h
    by_cases h2:q≤last
    · rw [if_pos h2] at h;cases h
    rw [if_neg h2] at h
    rcases List.mem_cons.1 hp with rfl | hp
    · omega
    · exact V9 h p hp
theorem Ev {l:List Ty} {k:Nat} (hk:k < l.length) (h:yQ l k=0):xK (l[k]).name=true∧jj ((l.take k).map (·.name)) (l[k]).name=false∧(decide (k=0) == (l[k]).par.isEmpty)=true∧vx k (-1) (l[k]).par=0:=by
  cases h1:xK (l[k]).name with
  | false=>rw [ty10 l k hk h1] at h;cases h
  | true=>
    cases h2:jj ((l.take k).map (·.name)) (l[k]).name with
    | true=>rw [ty7 l k hk h1 h2] at h;cases h
    | false=>
      cases h3:(decide (k=0) == (l[k]).par.isEmpty) with
      | false=>rw [ty5 l k hk h1 h2 h3] at h;cases h
      | true=>
        rw [Cj l k hk h1 h2 h3,List.drop_zero] at h;exact⟨rfl,rfl,rfl,h⟩
theorem yJ {f:Nat→Int}:∀ {m i:Nat},(zW f i m).1=0→∀ j,i≤j→j < i + m→f j=0
  | 0,i,_,j,h1,h2=>by omega
  | m + 1,i,h,j,h1,h2=>by
    unfold zW at h
    by_cases h3:f i≠0
    · rw [if_pos h3] at h;exact absurd h h3
    rw [if_neg h3] at h
    by_cases e:j=i
    · subst e;exact Decidable.not_not.1 h3
    · exact yJ h j om om
theorem VQ {l:List Ty} (h:(qY l).1=0):¬(l.length=0∨60 < l.length):=by
  intro hb;simp only [qY,if_pos hb] at h;cases h
theorem T8 {l:List Ty} (h:(qY l).1=0) {k:Nat} (hk:k < l.length):yQ l k=0:=by
  have hb:=VQ h;simp only [qY,if_neg hb] at h;exact yJ h k (Nat.zero_le _) om
theorem vt_of {l:List Ty} (h:(qY l).1=0):VT l:=fun _ hi p hp=>V9 (Ev hi (T8 h hi)).2.2.2 p hp
def Nz (l:List Ty) (b:Nat):Int:=if (List.range b).any (fun a=>(Z1 l a b).2.2) then 16 else 0
theorem Ez {l:List Ty} {a b:Nat} (h:a < b) (hm:(Z1 l a b).2.2=true):Nz l b=16:=by
  unfold Nz;rw [if_pos (List.any_eq_true.2 ⟨a,List.mem_range.2 h,hm⟩)]
theorem GQ {l:List Ty} {b:Nat} (h:∀ a,a < b→(Z1 l a b).2.2=false):Nz l b=0:=by
  unfold Nz;rw [if_neg];intro hc;obtain⟨a,ha,hm⟩:=List.any_eq_true.1 hc;rw [h a (List.mem_range.1 ha)] at hm;cases hm
def N4 (n:Nat) (t:Ft):Prop:=t.of < 0∨(n:Int)≤t.of∨t.val < 0∨(n:Int)≤t.val
instance (n:Nat) (t:Ft):Decidable (N4 n t):=by unfold N4;infer_instance
def o8 (n:Nat) (fs:List Ft) (i:Nat):Int:=match fs[i]? with
  | none=>0
  | some t=>if xK t.name=false then 10 else if jj ((fs.take i).map (·.name)) t.name=true then 7 else if N4 n t then 3 else 0
theorem ft10 (n:Nat) (l:List Ft) (k:Nat) (hlt:k < l.length) (h1:xK l[k].name=false):o8 n l k=10:=by
  simp only [o8,List.getElem?_eq_getElem hlt,h1,if_true]
theorem ft7 (n:Nat) (l:List Ft) (k:Nat) (hlt:k < l.length) (h1:xK l[k].name=true) (h2:jj ((l.take k).map (·.name)) l[k].name=true):o8 n l k=7:=by
  simp only [o8,List.getElem?_eq_getElem hlt,h1,h2,if_true];rfl
theorem ft3 (n:Nat) (l:List Ft) (k:Nat) (hlt:k < l.length) (h1:xK l[k].name=true) (h2:jj ((l.take k).map (·.name)) l[k].name=false) (h3:N4 n l[k]):o8 n l k=3:=by
  simp only [o8,List.getElem?_eq_getElem hlt,h1,h2,if_pos h3];rfl
theorem ft0 (n:Nat) (l:List Ft) (k:Nat) (hlt:k < l.length) (h1:xK l[k].name=true) (h2:jj ((l.take k).map (·.name)) l[k].name=false) (h3:¬N4 n l[k]):o8 n l k=0:=by
  simp only [o8,List.getElem?_eq_getElem hlt,h1,h2,if_neg h3];rfl
def u7 (l:List Ty):Fl:=zW (Nz l) 0 l.length
def qx (l:List Ty) (fs:List Ft):Fl:=
  if 40 < fs.length then (2,-1)
  else if (qY l).1≠0 then qY l
  else if (u7 l).1≠0 then u7 l
  else zW (o8 l.length fs) 0 fs.length
theorem hf_size {l:List Ty} {fs:List Ft} (h:l.length=0∨60 < l.length∨40 < fs.length):qx l fs=(2,-1):=by
  unfold qx;by_cases h4:40 < fs.length
  · rw [if_pos h4]
  · have hb:l.length=0∨60 < l.length:=by omega
    have ht:qY l=(2,-1):=by simp only [qY,if_pos hb]
    rw [if_neg h4,ht];rfl
theorem Fy {l:List Ty} {fs:List Ft} (h:¬40 < fs.length) (ht:(qY l).1≠0):qx l fs=((qY l).1,(qY l).2):=by
  unfold qx;rw [if_neg h,if_pos ht]
theorem Fw {l:List Ty} {fs:List Ft} (h:¬40 < fs.length) (ht:(qY l).1=0) {k:Int} (hu:u7 l=(16,k)):qx l fs=(16,k):=by
  unfold qx;rw [if_neg h,if_neg (by rw [ht];exact fun h=>h rfl),hu];rfl
theorem hf_rest {l:List Ty} {fs:List Ft} (h:¬40 < fs.length) (ht:(qY l).1=0) (hu:u7 l=(0,0)):qx l fs=zW (o8 l.length fs) 0 (fs.length - 0):=by
  unfold qx;rw [if_neg h,if_neg (by rw [ht];exact fun h=>h rfl),hu];rfl
theorem Z9:zZ Tryz.prog 104=true:=by kernel_rfl
theorem fn105:zZ Tryz.prog 105=true:=by kernel_rfl
theorem fn106:zZ Tryz.prog 106=true:=by kernel_rfl
theorem LX:zZ Tryz.prog 44=true:=by kernel_rfl
theorem fn55:zZ Tryz.prog 55=true:=by kernel_rfl
theorem qW:(Tryz.prog.info? 36).map (·.size)=some 2:=by kernel_rfl
theorem H1:(Tryz.prog.info? 68).map (·.size)=some 3:=by kernel_rfl
theorem sz9_Valid:(Tryz.prog.info? 9).map (·.size)=some 1:=by kernel_rfl
theorem ze3_Valid:(Tryz.prog.info? 3).map (·.zero)=some (some (.int .i64 0)):=by kernel_rfl
theorem Xx:(Tryz.prog.info? 36).map (·.zero)=some (some (.agg #[.int .i64 0,.int .i64 0])):=by kernel_rfl
theorem ze68:(Tryz.prog.info? 68).map (·.zero)=some (some (.agg #[.string ⟨#[]⟩,.int .i64 0,.int .i64 0])):=by kernel_rfl
theorem Cq (A B:Option Addr) (c d:Nat) (l:List Ty) (fs:List Ft) (w:World) (hTab:TabIn w) (hT:TypesIn w A l) (hF:FeatsIn w B fs):Calls Tryz.prog 74 #[.agg #[.slice A l.length c,.slice B fs.length d]] w fun e w'=>e= .returned (flV (qx l fs))∧Bel w w':=by
 refine enT Tryz.func74 Tryz.ntmps74 rfl rfl fun hB=>?_;refine zn2 ?_;refine qK (v:= .agg #[_,_]) (cs:=#[_,_]) rfl rfl (fun b1 w1 hb1 s1 hr=>?_);refine zY (cs:=#[.int .i64 0,.int .i64 0]) Xx rfl (fun b2 w2 hb2 s2 hr=>?_);have lo2:=nLT (Bel.size hB.u) hr;refine zn4 ?_;replace hB:=hB.tr0 (s1.trans s2);refine x6 (rg [] 15 16) 30 (.bool (decide (l.length=0∨60 < l.length∨40 < fs.length))) nu ?_ (fun gq=>?_)
 ·refine zn6 ?_;refine zx 19 rfl (fun g19=>?_) (fun g19=>?_)
  ·refine yx ?_;refine zw (e_R ⟨rfl,agA,?_⟩);exact clA
  refine yw ?_;refine zx 25 rfl (fun g25=>?_) (fun g25=>?_)
  ·refine zn5 ?_;refine zw (e_R ⟨rfl,agA,?_⟩);exact clA
  refine zn9 ?_;refine zw (e_R ⟨rfl,agA,?_⟩);exact clA
 refine e_S ?_;refine zy rfl (fun c30=>?_) (fun c30=>?_)
 ·refine zn2 ?_;refine zJ Z9 (kv _ _ _) rfl (fun e' w3 hr=>?_);obtain⟨rfl,s3⟩:=hr;replace s3:=sB s3;refine⟨_,rfl,?_⟩;refine zj hb2.u rfl rfl qW rfl zX (fun w4 hq s4=>?_);replace hb2:=hq;refine zn4 ?_;refine x8 (.inl rfl) rfl (zk U36 rfl rfl hb2.range0 qW) ?_;exact⟨qQ (hf_size c30),hB.u⟩
 refine zn7 ?_;refine zJ fn105 (types_any _ _ _ _ (hT.mono hB)) rfl (fun e' w5 hr=>?_);obtain⟨rfl,s5⟩:=hr;replace s5:=sB s5;refine⟨_,rfl,?_⟩;refine xW (cs:=#[.int .i64 0,.int .i64 0]) Xx rfl (fun _=>rfl) (fun _=>rfl) qW rfl zX (fun b3 w7 hb3 s6 hr=>?_);refine zn9 ?_;refine zy rfl (fun c37=>?_) (fun c37=>?_)
 ·refine zn3 ?_;refine zj hb2.u rfl rfl qW rfl zX (fun w8 hq s7=>?_);replace hb2:=hq;refine zn4 ?_;refine x8 (.inl rfl) rfl (zk U36 rfl rfl hb2.range0 qW) ?_;exact⟨qQ (Fy om om),hB.u⟩
 have ht0:(qY l).1=0:=by omega
 have hv:=vt_of ht0;refine zn6 ?_;refine zJ fn55 (Jx _ _ _ _ (hT.mono hB.u) hv om) rfl (fun e' w9 hr=>?_);obtain⟨bu,bd,rfl,⟨hbu,hbd⟩,s8⟩:=hr;replace s8:=sB s8;have h2u:b2≠bu:=fun h=>absurd (jQ (h ▸ hb2.u) hbu) dE
 have h2d:b2≠bd:=fun h=>absurd (jQ (h ▸ hb2.u) hbd) dE
 refine⟨_,rfl,?_⟩;refine xW (cs:=#[.slice none 0 0,.slice none 0 0]) ze89 rfl (fun _=>rfl) (fun _=>rfl) sz89 rfl zX (fun b4 w11 hb4 s9 hr=>?_);refine y8 ?_;replace hbu:=hbu.tr0 s9;replace hbd:=hbd.tr0 s9;refine zK (rg (rg [] 5 5) 45 20) (fun m g w'=>∃ (k:Nat),k≤l.length∧m=l.length - k∧g 45= .int .i64 k∧Bel w w'∧Blk w' b1 25 #[.slice A l.length c,.slice B fs.length d]∧Blk w' b2 36 #[.int .i64 0,.int .i64 0]∧Blk w' b4 89 #[.slice (some ⟨bu,0,none⟩) l.length l.length,.slice (some ⟨bd,0,none⟩) l.length l.length]∧Blk w' bu 157 (rU l.length (upN l))∧Blk w' bd 157 (rU l.length (Zz l))∧u7 l=zW (Nz l) k (l.length - k)) (l.length) ?_ (fun m g8 w12 hI=>?_)
 ·exact⟨0,Nat.zero_le _,rfl,rfl,hB.u,hb1.u,hb2.u,hb4,hbu,hbd,rfl⟩
 obtain⟨k,hk,hm,h45,hB,hb1,hb2,hb4,hbu,hbd,hU⟩:=hI;refine zQ 45 _ h45 nu (zn6 ?_);refine zy rfl (fun c46=>?_) (fun c46=>?_)
 ·have hlt:k < l.length:=by omega
  refine N9 ?_;refine zK (rg [6,7,8,9] 49 15) (fun m g w'=>∃ (a:Nat),a≤k∧m=k - a∧g 49= .int .i64 a∧Bel w w'∧Blk w' b1 25 #[.slice A l.length c,.slice B fs.length d]∧Blk w' b2 36 #[.int .i64 0,.int .i64 0]∧Blk w' b4 89 #[.slice (some ⟨bu,0,none⟩) l.length l.length,.slice (some ⟨bd,0,none⟩) l.length l.length]∧Blk w' bu 157 (rU l.length (upN l))∧Blk w' bd 157 (rU l.length (Zz l))∧(∀ j,j < a→(Z1 l j k).2.2=false)) (k) ?_ (fun m g11 w13 hI=>?_)
  ·exact⟨0,Nat.zero_le _,rfl,rfl,hB,hb1,hb2,hb4,hbu,hbd,fun j hj=>by omega⟩
  obtain⟨a,ha,hma,h49,hB,hb1,hb2,hb4,hbu,hbd,hM⟩:=hI;refine zQ 49 _ h49 nu (zn6 ?_);refine zy rfl (fun c50=>?_) (fun c50=>?_)
  ·refine Z6 ?_;refine zJ fn106 (meet_any l bu bd a k _ (hTab.mono hB) ⟨hbu,hbd⟩ hv om om hlt) rfl (fun e' w14 hr=>?_);obtain⟨rfl,s10⟩:=hr;replace s10:=sB s10;refine⟨_,rfl,?_⟩;refine wmT rfl (wl (jw (v:= .int _ _) rfl rfl) (wl (jw (v:= .bool _) rfl rfl) (wl (jw (v:= .bool _) rfl rfl) (yw ?_))));refine vw rfl (fun c60=>?_) (fun c60=>?_)
   ·have hun:=Ez (show a < k by omega) c60;have hfin:=Fw (fs:=fs) om ht0 (hU.trans (qw om hun dE));refine zn3 ?_;refine zJ Z9 (kv _ _ _) rfl (fun e' w15 hr=>?_);obtain⟨rfl,s11⟩:=hr;replace s11:=sB s11;refine⟨_,rfl,?_⟩;refine zj hb2.u rfl rfl qW rfl zX (fun w16 hq s12=>?_);replace hb2:=hq;refine y8 ?_;refine x8 (.inl rfl) rfl (zk U36 rfl rfl hb2.range0 qW) ?_;exact⟨qQ hfin,hB.u⟩
   refine zn7 ?_;refine qV (k - (a + 1)) om agA ?_;replace hB:=hB.tr0 s10;replace hb1:=hb1.tr0 s10;replace hb2:=hb2.tr0 s10;replace hbu:=hbu.tr0 s10;replace hbd:=hbd.tr0 s10;replace hb4:=hb4.tr0 s10
   exact⟨a + 1,by omega,rfl,rfl,hB,hb1,hb2,hb4,hbu,hbd,fun j hj=>by
     by_cases e:j=a
     · subst e;exact c60
     · exact hM j om⟩
  have hun:Nz l k=0:=GQ (fun j hj=>hM j om);refine yw ?_;refine qV (l.length - (k + 1)) om agA ?_;exact⟨k + 1,by omega,rfl,rfl,hB,hb1,hb2,hb4,hbu,hbd,hU.trans (xV hlt hun)⟩
 have hR:=Lib.hid (hf_rest (fs:=fs) om ht0 (hU.trans (yq om)));refine zn7 ?_;refine wl_mm (fun b65 w17 hb65 s13 hr=>?_);have:=nLL hb1.lt hr;have:=nLL hb2.lt hr;have lo65:=nLT (Bel.size hB) hr;refine wl (Zw (v:= .map _) rfl) (y8 ?_);refine zK (rg [11,12,13,14] 69 52) (fun m g w'=>∃ (k:Nat) (mp:List (ByteArray×Value)),k≤fs.length∧m=fs.length - k∧g 69= .int .i64 k∧Bel w w'∧Blk w' b1 25 #[.slice A l.length c,.slice B fs.length d]∧Blk w' b2 36 #[.int .i64 0,.int .i64 0]∧MapS w' b65 mp∧(∀ s,lkB mp s=jj ((fs.take k).map (·.name)) s)∧qx l fs=zW (o8 l.length fs) k (fs.length - k)) (fs.length) ?_ (fun m g20 w18 hI=>?_)
 ·exact⟨0,[],Nat.zero_le _,rfl,rfl,hB.u,hb1.u,hb2.u,hb65,fun s=>rfl,hR.out⟩
 obtain⟨k,mp,hk,hm,h69,hB,hb1,hb2,hb65,hmp,hR'⟩:=hI;refine zQ 69 _ h69 nu (zn6 ?_);refine zy rfl (fun c70=>?_) (fun c70=>?_)
 ·have hlt:k < fs.length:=by omega
  obtain⟨tb,to,rfl,htb,htr⟩:=hF.at_ hB hlt;refine zn8 ?_;refine wl (zV U68 rfl rfl htr H1) ?_;refine zY (cs:=#[.string ⟨#[]⟩,.int .i64 0,.int .i64 0]) ze68 rfl (fun b12 w19 hb12 s14 hr=>?_);have:=nLL hb1.lt hr;have:=nLL hb2.lt hr;have:=nLL hb65.lt hr;have lo12:=nLT (Bel.size hB) hr;refine waI rfl ?_;refine zj hb12 rfl rfl H1 rfl zX (fun w20 hq s15=>?_);replace hb12:=hq;refine zn7 ?_;refine zJ LX (I9 _ _) rfl (fun e' w21 hr=>?_);obtain⟨rfl,rfl⟩:=hr;refine⟨_,rfl,?_⟩;refine zn3 ?_;refine vw rfl (fun c77=>?_) (fun c77=>?_)
  ·have hty:=ft10 l.length fs k hlt (by simpa using c77);refine zn3 ?_;refine zJ Z9 (kv _ _ _) rfl (fun e' w22 hr=>?_);obtain⟨rfl,s16⟩:=hr;replace s16:=sB s16;refine⟨_,rfl,?_⟩;refine zj hb2.u rfl rfl qW rfl zX (fun w23 hq s17=>?_);replace hb2:=hq;refine zn9 ?_;refine x8 (.inl rfl) rfl (zk U36 rfl rfl hb2.range0 qW) ?_;exact⟨qQ (hR'.trans (qw (c:=10) om hty dE)),hB.u⟩
  have hnm:xK (fs[k]'hlt).name=true:=by simpa using c77
  refine zn5 ?_;refine wl (xZ (v:= .map _) rfl) (zn2 ?_);replace hb65:=(hb65.tr0 s14).tr1 s15 om;refine wl (r_lkS hb65 U94 U9 ze3_Valid rfl rfl) (wmT rfl (wl (jw (v:=_) rfl rfl) (wl (jw (v:= .bool _) rfl rfl) (wl (Zw (v:=_) rfl) (zn8 ?_)))));refine vw rfl (fun c87=>?_) (fun c87=>?_)
  ·have hty:=ft7 l.length fs k hlt hnm ((hmp _).symm.trans c87);refine zn3 ?_;refine zJ Z9 (kv _ _ _) rfl (fun e' w24 hr=>?_);obtain⟨rfl,s18⟩:=hr;replace s18:=sB s18;refine⟨_,rfl,?_⟩;refine zj hb2.u rfl rfl qW rfl zX (fun w25 hq s19=>?_);replace hb2:=hq;refine zn9 ?_;refine x8 (.inl rfl) rfl (zk U36 rfl rfl hb2.range0 qW) ?_;exact⟨qQ (hR'.trans (qw (c:=7) om hty dE)),hB.u⟩
  have hsn:jj ((fs.take k).map (·.name)) (fs[k]'hlt).name=false:=by rw [← hmp];exact c87
  have hmp':∀ s,lkB (M4 mp (fs[k]'hlt).name (.int .i64 k)) s=jj ((fs.take (k + 1)).map (·.name)) s:=fun s=>by
    rw [o5 _ _ _ c87,ux fs hlt,List.map_append,List.map_cons,List.map_nil,ZQ,← hmp];simp [lkB]
  refine zn4 ?_;refine wl (xZ (v:= .map _) rfl) (zn3 ?_);refine Wj (v:= .int _ _) hb65 U94 U9 rfl rfl rfl (fun w26 hq s20=>?_);replace hb65:=hq;refine zn3 ?_;replace hB:=((hB.tr0 s14).tr1 s15 lo12).tr1 s20 lo65;replace hb2:=((hb2.tr0 s14).tr1 s15 om).tr1 s20 om;refine x6 (rg [] 94 24) 117 (.bool (decide ((fs[k]'hlt).of < 0∨(l.length:Int)≤(fs[k]'hlt).of∨(fs[k]'hlt).val < 0∨(l.length:Int)≤(fs[k]'hlt).val))) nu ?_ (fun gq=>?_)
  ·refine zn5 ?_;refine zx 97 rfl (fun g97=>?_) (fun g97=>?_)
   ·refine zn20 ?_;refine zw (e_R ⟨rfl,agA,?_⟩);exact clA
   refine gV ?_;refine zx 105 rfl (fun g105=>?_) (fun g105=>?_)
   ·refine y8 ?_;refine zw (e_R ⟨rfl,agA,?_⟩);exact clA
   refine zn8 ?_;refine zx 110 rfl (fun g110=>?_) (fun g110=>?_)
   ·refine zn7 ?_;refine zw (e_R ⟨rfl,agA,?_⟩);exact clA
   refine kJ ?_;refine zw (e_R ⟨rfl,agA,?_⟩);exact clA
  refine e_S ?_;refine zy rfl (fun c117=>?_) (fun c117=>?_)
  ·have hty:=ft3 l.length fs k hlt hnm hsn c117;refine zn3 ?_;refine zJ Z9 (kv _ _ _) rfl (fun e' w27 hr=>?_);obtain⟨rfl,s21⟩:=hr;replace s21:=sB s21;refine⟨_,rfl,?_⟩;refine zj hb2.u rfl rfl qW rfl zX (fun w28 hq s22=>?_);replace hb2:=hq;refine zn8 ?_;refine x8 (.inl rfl) rfl (zk U36 rfl rfl hb2.range0 qW) ?_;exact⟨qQ (hR'.trans (qw (c:=3) om hty dE)),hB.u⟩
  have hty:=ft0 l.length fs k hlt hnm hsn c117;refine zn7 ?_;refine qV (fs.length - (k + 1)) om agA ?_;exact⟨k + 1,M4 mp (fs[k]'hlt).name (.int .i64 k),by omega,rfl,rfl,hB,hb1.u,hb2,hb65,hmp',hR'.trans (xV hlt hty)⟩
 refine zn7 ?_;refine wl (uv (vs:=#[]) (cs:=#[.int .i64 0,.int .i64 0]) (by simp) kR) ?_;refine zj hb2 rfl rfl qW rfl zX (fun w29 hq s23=>?_);replace hb2:=hq;refine zn3 ?_;refine x8 (.inl rfl) rfl (zk U36 rfl rfl hb2.range0 qW) ?_;exact⟨qQ (hR'.trans (yq om)),hB.u⟩
end Go.Proofs.YtbcpgfnfiekbiaaGreatDoor
namespace Go.Proofs.YtbcpgfnfiekbiaaGreatDoor
open Go.RowKit
theorem meet_yes {l:List Ty} (h60:l.length≤60) {a b m c:Nat} (hm:m < l.length) (hcm:uQ l a b m=true) (hl:∀ i,i < m→uQ l a b i=false) (hc:c < l.length) (hcc:uQ l a b c=true) (hs:sub l c m=false):(Z1 l a b).2.2=true:=by
  have h0:vk l a b≠0:=fun h=>by
    have:=mask_eq_zero.1 h m hm;rw [hcm] at this;cases this
  have hz:=Iw h60 h0;have he:Lib.ctz 64 (vk l a b)=m:=by
    have h1:¬Lib.ctz 64 (vk l a b) < m:=fun h=>by
      have:=hl _ h;rw [show uQ l a b (Lib.ctz 64 (vk l a b))=true from hz.2.1] at this;cases this
    have h2:¬m < Lib.ctz 64 (vk l a b):=fun h=>by
      have:=hz.2.2 m h;rw [hcm] at this;cases this
    omega
  have hd:Zz l (Lib.ctz 64 (vk l a b))≠vk l a b:=fun h=>by
    rw [he] at h;have:=mask_inj.1 h c hc;rw [hs,hcc] at this;cases this
  simp only [Z1,if_neg h0,if_pos hd]
theorem meet_none {l:List Ty} {a b:Nat} (h:∀ i,i < l.length→uQ l a b i=false):(Z1 l a b).2.2=false:=by
  have h0:vk l a b=0:=mask_eq_zero.2 h;simp only [Z1,if_pos h0]
theorem meet_some {l:List Ty} (hv:VT l) (h60:l.length≤60) {a b m:Nat} (hm:m < l.length) (hcm:uQ l a b m=true) (hl:∀ i,i < m→uQ l a b i=false) (hs:∀ i,i < l.length→uQ l a b i=true→sub l i m=true):(Z1 l a b).2.2=false:=by
  have h0:vk l a b≠0:=fun h=>by
    have:=mask_eq_zero.1 h m hm;rw [hcm] at this;cases this
  have hz:=Iw h60 h0;have he:Lib.ctz 64 (vk l a b)=m:=by
    have h1:¬Lib.ctz 64 (vk l a b) < m:=fun h=>by
      have:=hl _ h;rw [show uQ l a b (Lib.ctz 64 (vk l a b))=true from hz.2.1] at this;cases this
    have h2:¬m < Lib.ctz 64 (vk l a b):=fun h=>by
      have:=hz.2.2 m h;rw [hcm] at this;cases this
    omega
  have hd:Zz l (Lib.ctz 64 (vk l a b))=vk l a b:=by
    rw [he];refine j9 (fun i hi=>?_);cases h1:sub l i m with
    | true=>
      simp only [uQ,Bool.and_eq_true] at hcm;simp [uQ,M2 hv h1 hcm.1,M2 hv h1 hcm.2]
    | false=>
      cases h2:uQ l a b i with
      | false=>rfl
      | true=>rw [hs i hi h2] at h1;cases h1
  simp only [Z1,if_neg h0,hd,ne_eq,not_true_eq_false,if_false]
inductive MS (l:List Ty) (a b c:Nat) (m:Int):Prop
  | none (h:m= -1) (h0:∀ i,i < c→uQ l a b i=false)
  | some (n:Nat) (h:m=n) (hn:n < c) (h1:uQ l a b n=true) (h2:∀ i,i < n→uQ l a b i=false) (h3:∀ i,i < c→uQ l a b i=true→sub l i n=true)
theorem MS.start (l:List Ty) (a b:Nat):MS l a b 0 (-1):= .none rfl (fun i h=>by omega)
theorem MS.skip {l:List Ty} {a b c:Nat} {m:Int} (h:MS l a b c m) (hc:uQ l a b c=false):MS l a b (c + 1) m:=by
  cases h with
  | none h h0=>exact .none h (fun i hi=>by
      by_cases e:i=c
      · subst e;exact hc
      · exact h0 i om)
  | some n h hn h1 h2 h3=>exact .some n h om h1 h2 (fun i hi hci=>by
      by_cases e:i=c
      · subst e;rw [hc] at hci;cases hci
      · exact h3 i om hci)
theorem MS.first {l:List Ty} (hv:VT l) {a b c:Nat} {m:Int} (h:MS l a b c m) (hm:m < 0) (hc:uQ l a b c=true):MS l a b (c + 1) c:=by
  cases h with
  | none h h0=>exact .some c rfl om hc h0 (fun i hi hci=>by
      by_cases e:i=c
      · subst e;exact YZ hv _
      · rw [h0 i om] at hci;cases hci)
  | some n h=>omega
theorem MS.pos {l:List Ty} {a b c:Nat} {m:Int} (h:MS l a b c m) (hm:¬m < 0):∃ n:Nat,m=n∧n < c∧uQ l a b n=true∧(∀ i,i < n→uQ l a b i=false)∧∀ i,i < c→uQ l a b i=true→sub l i n=true:=by
  cases h with
  | none h=>omega
  | some n h hn h1 h2 h3=>exact⟨n,h,hn,h1,h2,h3⟩
theorem MS.end_ {l:List Ty} (hv:VT l) (h60:l.length≤60) {a b:Nat} {m:Int} (h:MS l a b l.length m):(Z1 l a b).2.2=false:=by
  cases h with
  | none h h0=>exact meet_none h0
  | some n h hn h1 h2 h3=>exact meet_some hv h60 hn h1 h2 h3
def B7 (n:Nat) (r:Nat→Nat) (k i:Nat):Value:=if i < k then .slice (some ⟨r i,0,none⟩) n n else .slice none 0 0
def T7 (l:List Ty):Int:=if (u7 l).1=0 then -1 else (u7 l).2
theorem E9 {l:List Ty} {k:Int} (h:u7 l=(16,k)):T7 l=k:=by simp [T7,h]
theorem GZ {l:List Ty} (h:u7 l=(0,0)):T7 l= -1:=by simp [T7,h]
theorem gz {a b:Int} (h:a=b):Ending.returned (.int .i64 b)= .returned (.int .i64 a):=by rw [h]
theorem fn66:zZ Tryz.prog 66=true:=by kernel_rfl
theorem in106:(Tryz.prog.info? 106).map (fun i=>(i.zero,i.size,i.bytes))=some (some (.slice none 0 0),1,24):=by kernel_rfl
theorem in4_Unmet:(Tryz.prog.info? 4).map (fun i=>(i.zero,i.size,i.bytes))=some (some (.bool false),1,1):=by kernel_rfl
theorem sz106:(Tryz.prog.info? 106).map (·.size)=some 1:=by kernel_rfl
theorem sz4_Unmet:(Tryz.prog.info? 4).map (·.size)=some 1:=by kernel_rfl
theorem WZ (A:Option Addr) (c:Nat) (l:List Ty) (w:World) (hT:TypesIn w A l) (hv:VT l) (h60:l.length≤60):Calls Tryz.prog 62 #[.slice A l.length c] w fun e w'=>e= .returned (.int .i64 (T7 l))∧Bel w w':=by
 refine enT Tryz.func62 Tryz.ntmps62 rfl rfl fun hB=>?_;refine Z6 ?_;refine Xj (m:=l.length) Tryz.underlying161 in106 rfl rfl rfl om om (fun b14 w1 hb14 s1 hr=>?_);have lo14:=nLT (Bel.size hB) hr;refine yx ?_;refine zK (rg [5,6] 16 24) (fun m g w'=>∃ (k:Nat) (r:Nat→Nat),k≤l.length∧m=l.length - k∧g 16= .int .i64 k∧Bel w w'∧Blk w' b14 106 (row l.length (fun i=>B7 l.length r k i))∧(∀ i,i < k→Blk w' (r i) 4 (row l.length (fun j=> .bool (sub l i j))))) (l.length) ?_ (fun m g4 w2 hI=>?_)
 ·refine⟨0,fun _=>0,Nat.zero_le _,rfl,rfl,hB.u,?_,fun i hi=>by omega⟩;rw [xQ (g':=fun _=> .slice none 0 0) (fun j _=>by simp [B7])];exact hb14
 obtain⟨k,r,hk,hm,h16,hB,hb14,hrw⟩:=hI;refine zQ 16 _ h16 nu (zn6 ?_);refine zy rfl (fun c17=>?_) (fun c17=>?_)
 ·have hlt:k < l.length:=by omega
  refine Z6 ?_;refine Xj (m:=l.length) J6 in4_Unmet rfl rfl rfl om om (fun b22 w3 hb22 s2 hr=>?_);have:=nLL hb14.lt hr;have or_hrw_b22:=(fun(i:Nat) (hi:i < k)=>nLL (hrw i hi).lt hr)
  have lo22:=nLT (Bel.size hB) hr;replace hrw:=fun i hi=>(hrw i hi).tr0 s2
  refine zn1 ?_;replace hb14:=hb14.tr0 s2;refine x9 (v:= .slice _ _ _) hb14 rfl rfl sz106 (by rw [row_size];omega) rfl jV (fun w4 hq s3=>?_);replace hrw:=fun i hi=>(hrw i hi).tr1 s3 (by first | (have:=or_hrw_b22 i hi;omega) | exact fun h=>absurd (jQ (h ▸ hrw i hi) hb14) dE)
  replace hb14:=hq
  rw [xQ (g':=fun i=>B7 l.length (fun i=>if i=k then b22 else r i) (k + 1) i) (fun j _=>by
    by_cases e:j=k
    · subst e;simp [B7]
    · have e1:(j < k + 1) ↔ (j < k):=by omega
      simp [B7,e,e1])] at hb14
  have e14:B7 l.length (fun i=>if i=k then b22 else r i) (k + 1) k= .slice (some ⟨b22,0,none⟩) l.length l.length:=by simp [B7]
  refine zn9 ?_;refine zK (rg [6] 25 14) (fun m g w'=>∃ (j:Nat),j≤l.length∧m=l.length - j∧g 25= .int .i64 j∧Bel w w'∧Blk w' b14 106 (row l.length (fun i=>B7 l.length (fun i=>if i=k then b22 else r i) (k + 1) i))∧Blk w' b22 4 (row l.length (fun x=> .bool (if x < j then sub l k x else false)))∧(∀ i,i < k→Blk w' (r i) 4 (row l.length (fun j=> .bool (sub l i j))))) (l.length) ?_ (fun m g8 w5 hI=>?_)
  ·refine⟨0,Nat.zero_le _,rfl,rfl,hB.u,hb14,?_,hrw⟩;replace hb22:=hb22.tr1 s3 om;rw [xQ (g':=fun _=> .bool false) (fun j _=>by simp)];exact hb22
  obtain⟨j,hj,hmj,h25,hB,hb14,hb22,hrw⟩:=hI;refine zQ 25 _ h25 nu (zn6 ?_);refine zy rfl (fun c26=>?_) (fun c26=>?_)
  ·have hlj:j < l.length:=by omega
   refine yw ?_;refine kX [] [10] [0,1,2,3,4,5,6,7,8,9,10] rfl (fun w6 s4=>?_);replace hrw:=fun i hi=>(hrw i hi).tr0 s4
   refine zn3 ?_;replace hb14:=hb14.tr0 s4;refine hl1 (v:= .slice (some ⟨b22,0,none⟩) l.length l.length) rfl J6 rfl rfl (by rw [← e14];exact hb14.cell (yY hlt)) (zn4 ?_);refine hcl (fun v wv=>v= .bool (sub l k j)) rfl fn66 (Cw _ _ _ _ _ w6 (hT.mono hB.u) hv h60 hlt hlj) rfl (fun e' w2 hr=>?_) (fun v36 w7 s5 d36=>?_)
   ·obtain⟨rfl,s6⟩:=hr;exact⟨_,rfl,sB s6,rfl⟩
   replace hrw:=fun i hi=>(hrw i hi).tr0 s5
   have e36:=d36;subst e36;refine zn1 ?_;refine h1 rfl ?_;replace hb22:=hb22.tr0 (s4.trans s5);refine x9 (v:= .bool _) hb22 rfl rfl sz4_Unmet (by rw [row_size];omega) rfl jV (fun w8 hq s7=>?_);have hsH10:=s7;replace hb14:=(hb14.tr0 s5).tr1 s7 om;replace hrw:=fun i hi=>(hrw i hi).tr1 s7 (by first | (have:=or_hrw_b22 i hi;omega) | exact fun h=>absurd (jQ (h ▸ hrw i hi) hb14) dE)
   replace hb22:=hq
   rw [xQ (g':=fun x=> .bool (if x < j + 1 then sub l k x else false)) (fun x _=>by
     by_cases e:x=j
     · subst e;simp
     · have e1:(x < j + 1) ↔ (x < j):=by omega
       simp [e,e1])] at hb22
   refine zw (Q5 [] (zn7 ?_));refine qV (l.length - (j + 1)) om agA ?_;exact⟨j + 1,by omega,rfl,rfl,hB.u,hb14,hb22,hrw⟩
  have hjl:j=l.length:=by omega
  rw [hjl,xQ (g':=fun x=> .bool (sub l k x)) (fun x hx=>by simp [hx])] at hb22;replace hrw:∀ i,i < k + 1→Blk w5 (if i=k then b22 else r i) 4 (row l.length (fun j=> .bool (sub l i j))):=fun i hi=>by
    by_cases e:i=k
    · subst e;simp only [if_true];exact hb22
    · simp only [if_neg e];exact hrw i om
  refine yw ?_;refine qV (l.length - (k + 1)) om agA ?_;exact⟨k + 1,fun i=>if i=k then b22 else r i,by omega,rfl,rfl,hB,hb14,hrw⟩
 have hkl:k=l.length:=by omega
 rw [hkl,xQ (g':=fun i=> .slice (some ⟨r i,0,none⟩) l.length l.length) (fun j hj=>by simp [B7,hj])] at hb14;rw [hkl] at hrw;refine kJ ?_;refine zK (rg [2,7,8,9,10] 41 42) (fun m g w'=>∃ (k:Nat),k≤l.length∧m=l.length - k∧g 41= .int .i64 k∧w2=w'∧u7 l=zW (Nz l) k (l.length - k)) (l.length) ?_ (fun m g14 w9 hI=>?_)
 ·exact⟨0,Nat.zero_le _,rfl,rfl,rfl,rfl⟩
 obtain⟨k,hk2,hm,h41,rfl,hU⟩:=hI;refine zQ 41 _ h41 nu (zn6 ?_);refine zy rfl (fun c42=>?_) (fun c42=>?_)
 ·have hlt:k < l.length:=by omega
  refine N9 ?_;refine zK (rg [2,8,9,10] 45 37) (fun m g w'=>∃ (a:Nat),a≤k∧m=k - a∧g 45= .int .i64 a∧w2=w'∧(∀ j,j < a→(Z1 l j k).2.2=false)) (k) ?_ (fun m g17 w10 hI=>?_)
  ·exact⟨0,Nat.zero_le _,rfl,rfl,rfl,fun j hj=>by omega⟩
  obtain⟨a,ha,hma,h45,rfl,hM⟩:=hI;refine zQ 45 _ h45 nu (zn6 ?_);refine zy rfl (fun c46=>?_) (fun c46=>?_)
  ·refine zn22 ?_;refine zK (rg [2,9,10] 49 32) (fun m g w'=>∃ (x:Nat) (m9:Int),x≤l.length∧m=l.length - x∧g 49= .int .i64 x∧g 9= .int .i64 m9∧w2=w'∧MS l a k x m9) (l.length) ?_ (fun m g21 w11 hI=>?_)
   ·exact⟨0,-1,Nat.zero_le _,rfl,rfl,rfl,rfl,MS.start l a k⟩
   obtain⟨x,m9,hx,hmx,h49,h9,rfl,hS⟩:=hI;refine zQ 49 _ h49 nu (zQ 9 _ h9 nu (zn6 ?_));refine zy rfl (fun c50=>?_) (fun c50=>?_)
   ·have hlx:x < l.length:=by omega
    refine yx ?_;refine x6 (rg [] 52 16) 67 (.bool (decide (uQ l a k x=true))) nu ?_ (fun gq=>?_)
    ·refine zn4 ?_;refine wl (qZ (v:= .slice _ _ _) J6 rfl rfl (hb14.cell (yY hlx))) (zn2 ?_);refine wl (qZ (v:= .bool _) U4 rfl rfl ((hrw x hlx).cell (yY om))) (wl (xZ (v:= .bool _) rfl) ?_);refine Yk 59 rfl (fun g59=>?_) (fun g59=>?_)
     ·refine zn7 ?_;refine wl (qZ (v:= .slice _ _ _) J6 rfl rfl (hb14.cell (yY hlx))) (zn5 ?_);refine wl (qZ (v:= .bool _) U4 rfl rfl ((hrw x hlx).cell (yY hlt))) (zn1 ?_);refine zw (e_R ⟨rfl,agA,?_⟩);show Value.bool _=Value.bool _;exact congrArg Value.bool (by simp [uQ,g59])
     refine zn8 ?_;refine zw (e_R ⟨rfl,agA,?_⟩);show Value.bool _=Value.bool _;exact congrArg Value.bool (by simp [uQ,g59])
    refine e_S ?_;refine zy rfl (fun c67=>?_) (fun c67=>?_)
    ·refine zn6 ?_;refine zy rfl (fun c69=>?_) (fun c69=>?_)
     ·have hS2:=hS.first hv c69 c67;refine yw ?_;refine qV (l.length - (x + 1)) om agA ?_;exact⟨x + 1,_,by omega,rfl,rfl,rfl,rfl,hS2⟩
     obtain⟨mn,rfl,hmn,hq1,hq2,hq3⟩:=hS.pos c69;refine zn5 ?_;refine wl (qZ (v:= .slice _ _ _) J6 rfl rfl (hb14.cell (yY hlx))) (zn2 ?_);refine wl (qZ (v:= .bool _) U4 rfl rfl ((hrw x hlx).cell (yY om))) (zn3 ?_);refine vw rfl (fun c78=>?_) (fun c78=>?_)
     ·have hme:=meet_yes h60 (show mn < l.length by omega) hq1 hq2 hlx c67 (by simpa using c78);have hun:=Ez (show a < k by omega) hme;have hfin:=E9 (hU.trans (qw om hun dE));refine zn21 ?_;exact⟨gz hfin,hB⟩
     have hS2:MS l a k (x + 1) (mn:Int):= .some mn rfl om hq1 hq2 (fun i hi hci=>by
       by_cases e:i=x
       · subst e;simpa using c78
       · exact hq3 i om hci)
     refine zn7 ?_;refine qV (l.length - (x + 1)) om agA ?_;exact⟨x + 1,_,by omega,rfl,rfl,rfl,rfl,hS2⟩
    have hS2:=hS.skip (by simpa using c67);refine zn7 ?_;refine qV (l.length - (x + 1)) om agA ?_;exact⟨x + 1,_,by omega,rfl,rfl,rfl,rfl,hS2⟩
   have hxl:x=l.length:=by omega
   subst hxl;have hme:=hS.end_ hv h60;refine yw ?_;refine qV (k - (a + 1)) om agA ?_
   exact⟨a + 1,by omega,rfl,rfl,rfl,fun j hj=>by
     by_cases e:j=a
     · subst e;exact hme
     · exact hM j om⟩
  have hun:Nz l k=0:=GQ (fun j hj=>hM j om);refine yw ?_;refine qV (l.length - (k + 1)) om agA ?_;exact⟨k + 1,by omega,rfl,rfl,rfl,hU.trans (xV hlt hun)⟩
 have hfin:=GZ (hU.trans (yq om));refine y8 ?_;exact⟨gz hfin,hB⟩
end Go.Proofs.YtbcpgfnfiekbiaaGreatDoor
namespace Go.Proofs.YtbcpgfnfiekbiaaGreatDoor
open Go.RowKit
theorem fseen_yes {l:List Ft} {j k:Nat} {s:ByteArray} (hk:k < l.length) (hj:j < k) (h:(l[j]'om).name=s):jj ((l.take k).map (·.name)) s=true:=by
  simp only [jj,List.any_eq_true,decide_eq_true_eq,List.mem_map];refine⟨_,⟨l[j]'om,?_,rfl⟩,h⟩;rw [List.mem_take_iff_getElem];exact⟨j,by omega,rfl⟩
theorem Ik (f:Nat→Int):∀ (m i:Nat),zW f i m=(0,0)∨∃ j:Nat,zW f i m=(f j,(j:Int))∧f j≠0
  | 0,_=> .inl rfl
  | m + 1,i=>by
    unfold zW
    by_cases h:f i≠0
    · exact .inr ⟨i,by rw [if_pos h],h⟩
    · rw [if_neg h];exact Ik f m (i + 1)
theorem K5 (l:List Ty):u7 l=(0,0)∨∃ j:Nat,u7 l=(16,(j:Int)):=by
  rcases Ik (Nz l) l.length 0 with h | ⟨j,h,hne⟩
  · exact .inl h
  · refine .inr ⟨j,?_⟩
    have h16:Nz l j=16:=by
      unfold Nz at hne ⊢
      split
      · rfl
      · rename_i hx;rw [if_neg hx] at hne;exact absurd rfl hne
    rw [← h16];exact h
theorem unmI_geq {l:List Ty} (h:0≤T7 l):u7 l=(16,T7 l):=by
  rcases K5 l with e | ⟨j,e⟩
  · rw [GZ e] at h;omega
  · rw [E9 e,e]
theorem unmI_lss {l:List Ty} (h:¬0≤T7 l):u7 l=(0,0):=by
  rcases K5 l with e | ⟨j,e⟩
  · exact e
  · rw [E9 e] at h;omega
theorem N5:zZ Tryz.prog 30=true:=by kernel_rfl
theorem fn61:zZ Tryz.prog 61=true:=by kernel_rfl
theorem fn62:zZ Tryz.prog 62=true:=by kernel_rfl
theorem PZ (A B:Option Addr) (c d:Nat) (l:List Ty) (fs:List Ft) (w:World) (hc:l.length≤c) (hd:fs.length≤d) (hT:TypesIn w A l) (hF:FeatsIn w B fs):Calls Tryz.prog 29 #[.agg #[.slice A l.length c,.slice B fs.length d]] w fun e w'=>e= .returned (flV (qx l fs))∧Bel w w':=by
 refine enT Tryz.func29 Tryz.ntmps29 rfl rfl fun hB=>?_;refine zn2 ?_;refine qK (v:= .agg #[_,_]) (cs:=#[_,_]) rfl rfl (fun b1 w1 hb1 s1 hr=>?_);refine zY (cs:=#[.int .i64 0,.int .i64 0]) Xx rfl (fun b2 w2 hb2 s2 hr=>?_);have lo2:=nLT (Bel.size hB.u) hr;refine yx ?_;refine zy rfl (fun c12=>?_) (fun c12=>?_)
 ·refine zn2 ?_;refine wl (yv (v0:= .int _ _) (v1:= .int _ _) (fun v0 v1=>#[v0,v1]) rfl rfl kR) ?_;refine zj hb2 rfl rfl qW rfl zX (fun w3 hq s3=>?_);replace hb2:=hq;refine zn4 ?_;refine x8 (.inl rfl) rfl (zk U36 rfl rfl hb2.range0 qW) ?_;exact⟨qQ (hf_size (.inr (.inr om))),hB.u⟩
 refine zn7 ?_;refine zJ fn61 (Ek _ _ _ _ hc (hT.mono hB.u)) rfl (fun e' w4 hr=>?_);obtain⟨rfl,s4⟩:=hr;replace s4:=sB s4;refine⟨_,rfl,?_⟩;refine xW (cs:=#[.int .i64 0,.int .i64 0]) Xx rfl (fun _=>rfl) (fun _=>rfl) qW rfl zX (fun b3 w6 hb3 s5 hr=>?_);refine zn9 ?_;refine zy rfl (fun c19=>?_) (fun c19=>?_)
 ·refine zn3 ?_;refine zj hb2.u rfl rfl qW rfl zX (fun w7 hq s6=>?_);replace hb2:=hq;refine zn4 ?_;refine x8 (.inl rfl) rfl (zk U36 rfl rfl hb2.range0 qW) ?_;exact⟨qQ (Fy om om),hB.u⟩
 have ht0:(qY l).1=0:=by omega
 have hv:=vt_of ht0;have htl:=VQ ht0;refine zn7 ?_;refine zJ fn62 (WZ _ _ _ _ (hT.mono hB.u) hv om) rfl (fun e' w8 hr=>?_);obtain⟨rfl,s7⟩:=hr;replace s7:=sB s7;refine⟨_,rfl,?_⟩;refine zn9 ?_;refine zy rfl (fun c25=>?_) (fun c25=>?_)
 ·have hfin:=Fw (fs:=fs) om ht0 (unmI_geq c25);refine zn3 ?_;refine wl (yv (v0:= .int _ _) (v1:= .int _ _) (fun v0 v1=>#[v0,v1]) rfl rfl kR) ?_;refine zj hb2.u rfl rfl qW rfl zX (fun w9 hq s8=>?_);replace hb2:=hq;refine zn4 ?_;refine x8 (.inl rfl) rfl (zk U36 rfl rfl hb2.range0 qW) ?_;exact⟨qQ hfin,hB.u⟩
 have hR:=Lib.hid (hf_rest (fs:=fs) om ht0 (unmI_lss c25));refine y8 ?_;refine zK (rg [5,6,8] 31 55) (fun m g w'=>∃ (k:Nat),k≤fs.length∧m=fs.length - k∧g 31= .int .i64 k∧Bel w w'∧Blk w' b1 25 #[.slice A l.length c,.slice B fs.length d]∧Blk w' b2 36 #[.int .i64 0,.int .i64 0]∧qx l fs=zW (o8 l.length fs) k (fs.length - k)) (fs.length) ?_ (fun m g10 w10 hI=>?_)
 ·exact⟨0,Nat.zero_le _,rfl,rfl,hB.u,hb1.u,hb2.u,hR.out⟩
 obtain⟨k,hk,hm,h31,hB,hb1,hb2,hR'⟩:=hI;refine zQ 31 _ h31 nu (zn6 ?_);refine zy rfl (fun c32=>?_) (fun c32=>?_)
 ·have hlt:k < fs.length:=by omega
  obtain⟨tb,to,rfl,htb,htr⟩:=hF.at_ hB hlt;refine zn8 ?_;refine wl (zV U68 rfl rfl htr H1) ?_;refine zY (cs:=#[.string ⟨#[]⟩,.int .i64 0,.int .i64 0]) ze68 rfl (fun b6 w11 hb6 s9 hr=>?_);have:=nLL hb1.lt hr;have:=nLL hb2.lt hr;have lo6:=nLT (Bel.size hB) hr;refine waI rfl ?_;refine zj hb6 rfl rfl H1 rfl zX (fun w12 hq s10=>?_);replace hb6:=hq;refine zn7 ?_;refine zJ N5 (M9 _ _) rfl (fun e' w13 hr=>?_);obtain⟨rfl,s11⟩:=hr;replace s11:=sB s11;refine⟨_,rfl,?_⟩;refine zn3 ?_;refine vw rfl (fun c39=>?_) (fun c39=>?_)
  ·have hty:=ft10 l.length fs k hlt (by simpa using c39);refine zn3 ?_;refine wl (yv (v0:= .int _ _) (v1:= .int _ _) (fun v0 v1=>#[v0,v1]) rfl rfl kR) ?_;refine zj hb2.u rfl rfl qW rfl zX (fun w14 hq s12=>?_);replace hb2:=hq;refine zn9 ?_;refine x8 (.inl rfl) rfl (zk U36 rfl rfl hb2.range0 qW) ?_;exact⟨qQ (hR'.trans (qw (c:=10) om hty dE)),hB.u⟩
  have hnm:xK (fs[k]'hlt).name=true:=by simpa using c39
  refine zn8 ?_;refine wl (Dj (h:=k) U23 H1 rfl rfl om) (zn5 ?_);refine zK (rg [8] 47 12) (fun m g w'=>∃ (j:Nat),j≤k∧m=k - j∧g 47= .int .i64 j∧Bel w w'∧Blk w' b1 25 #[.slice A l.length c,.slice (some ⟨tb,to,none⟩) fs.length d]∧Blk w' b2 36 #[.int .i64 0,.int .i64 0]∧Blk w' b6 68 #[.string (fs[k]'hlt).name,.int .i64 (fs[k]'hlt).of,.int .i64 (fs[k]'hlt).val]∧jj ((fs.take j).map (·.name)) (fs[k]'hlt).name=false) (k) ?_ (fun m g15 w15 hI=>?_)
  ·exact⟨0,Nat.zero_le _,rfl,rfl,hB.u,hb1.u,hb2.u,hb6.u,rfl⟩
  obtain⟨j,hj,hmj,h47,hB,hb1,hb2,hb6,hse⟩:=hI;refine zQ 47 _ h47 nu (zn6 ?_);refine zy rfl (fun c48=>?_) (fun c48=>?_)
  ·have hjt:j < fs.length:=by omega
   obtain⟨ub,uo,he,hub,hur⟩:=hF.at_ hB hjt;cases he;refine zn7 ?_;refine wl (zV U68 rfl rfl hur H1) ?_;refine xW (cs:=#[.string ⟨#[]⟩,.int .i64 0,.int .i64 0]) ze68 rfl (fun _=>rfl) (fun _=>rfl) H1 rfl zX (fun b8 w17 hb8 s13 hr=>?_);refine yx ?_;refine zy rfl (fun c55=>?_) (fun c55=>?_)
   ·have hty:=ft7 l.length fs k hlt hnm (fseen_yes hlt om c55);refine zn3 ?_;refine wl (yv (v0:= .int _ _) (v1:= .int _ _) (fun v0 v1=>#[v0,v1]) rfl rfl kR) ?_;refine zj hb2.u rfl rfl qW rfl zX (fun w18 hq s14=>?_);replace hb2:=hq;refine kJ ?_;refine x8 (.inl rfl) rfl (zk U36 rfl rfl hb2.range0 qW) ?_;exact⟨qQ (hR'.trans (qw (c:=7) om hty dE)),hB.u⟩
   have hse':jj ((fs.take (j + 1)).map (·.name)) (fs[k]'hlt).name=false:=by rw [ux fs hjt,List.map_append,List.map_cons,List.map_nil,ZQ,hse];simp [c55]
   refine zn7 ?_;refine qV (k - (j + 1)) om agA ?_;exact⟨j + 1,by omega,rfl,rfl,hB.u,hb1.u,hb2.u,hb6.u,hse'⟩
  have hsn:jj ((fs.take k).map (·.name)) (fs[k]'hlt).name=false:=by
    have e:k=j:=by omega
    subst e;exact hse
  refine zn6 ?_;refine x6 (rg [] 59 24) 82 (.bool (decide ((fs[k]'hlt).of < 0∨(l.length:Int)≤(fs[k]'hlt).of∨(fs[k]'hlt).val < 0∨(l.length:Int)≤(fs[k]'hlt).val))) nu ?_ (fun gq=>?_)
  ·refine zn5 ?_;refine zx 62 rfl (fun g62=>?_) (fun g62=>?_)
   ·refine zn20 ?_;refine zw (e_R ⟨rfl,agA,?_⟩);exact clA
   refine gV ?_;refine zx 70 rfl (fun g70=>?_) (fun g70=>?_)
   ·refine y8 ?_;refine zw (e_R ⟨rfl,agA,?_⟩);exact clA
   refine zn8 ?_;refine zx 75 rfl (fun g75=>?_) (fun g75=>?_)
   ·refine zn7 ?_;refine zw (e_R ⟨rfl,agA,?_⟩);exact clA
   refine kJ ?_;refine zw (e_R ⟨rfl,agA,?_⟩);exact clA
  refine e_S ?_;refine zy rfl (fun c82=>?_) (fun c82=>?_)
  ·have hty:=ft3 l.length fs k hlt hnm hsn c82;refine zn3 ?_;refine wl (yv (v0:= .int _ _) (v1:= .int _ _) (fun v0 v1=>#[v0,v1]) rfl rfl kR) ?_;refine zj hb2 rfl rfl qW rfl zX (fun w19 hq s15=>?_);replace hb2:=hq;refine zn8 ?_;refine x8 (.inl rfl) rfl (zk U36 rfl rfl hb2.range0 qW) ?_;exact⟨qQ (hR'.trans (qw (c:=3) om hty dE)),hB.u⟩
  have hty:=ft0 l.length fs k hlt hnm hsn c82;refine zn7 ?_;refine qV (fs.length - (k + 1)) om agA ?_;exact⟨k + 1,by omega,rfl,rfl,hB,hb1,hb2,hR'.trans (xV hlt hty)⟩
 refine zn7 ?_;refine wl (uv (vs:=#[]) (cs:=#[.int .i64 0,.int .i64 0]) (by simp) kR) ?_;refine zj hb2 rfl rfl qW rfl zX (fun w20 hq s16=>?_);replace hb2:=hq;refine zn3 ?_;refine x8 (.inl rfl) rfl (zk U36 rfl rfl hb2.range0 qW) ?_;exact⟨qQ (hR'.trans (yq om)),hB.u⟩
end Go.Proofs.YtbcpgfnfiekbiaaGreatDoor
namespace Go.Proofs.YtbcpgfnfiekbiaaGreatDoor
open Go.RowKit
def capB (l:List Ty) (a b c:Nat):Bool:=sub l a c && sub l b c
def joinB (l:List Ty) (a b c:Nat):Bool:=capB l a b c && (List.range l.length).all (fun j=>!(!(decide (j=c)) && sub l j c && capB l a b j))
def restN (l:List Ty) (a b k:Nat):Nat:=jq (fun i=>capB l a b i && decide (k≤i)) l.length
structure RestAt (l:List Ty) (a b k i:Nat):Prop where
  lt:i < l.length
  le:k≤i
  cap:capB l a b i=true
  gap:∀ j,k≤j→j < i→joinB l a b j=false
  next:restN l a b k &&& (restN l a b k - 1)=restN l a b (i + 1)
theorem meet_is {l:List Ty} (hv:VT l) (h60:l.length≤60) {a b m:Nat} (hm:m < l.length) (hcm:uQ l a b m=true) (hs:∀ i,i < l.length→uQ l a b i=true→sub l i m=true):Z1 l a b=(m,true,false):=by
  have h0:vk l a b≠0:=fun h=>by
    have:=mask_eq_zero.1 h m hm;rw [hcm] at this;cases this
  have hz:=Iw h60 h0;have he:Lib.ctz 64 (vk l a b)=m:=by
    have h1:¬m < Lib.ctz 64 (vk l a b):=fun h=>by
      have:=hz.2.2 m h;rw [hcm] at this;cases this
    have h2:=Kx hv (hs _ hz.1 hz.2.1);exact Nat.le_antisymm (Nat.le_of_not_lt h1) h2
  have hd:Zz l (Lib.ctz 64 (vk l a b))=vk l a b:=by
    rw [he];refine j9 (fun i hi=>?_);cases h1:sub l i m with
    | true=>
      simp only [uQ,Bool.and_eq_true] at hcm;simp [uQ,M2 hv h1 hcm.1,M2 hv h1 hcm.2]
    | false=>
      cases h2:uQ l a b i with
      | false=>rfl
      | true=>rw [hs i hi h2] at h1;cases h1
  unfold Z1;rw [if_neg h0,if_neg (fun h=>h hd),he]
theorem meet_comm (l:List Ty) (a b:Nat):Z1 l b a=Z1 l a b:=by
  have e:vk l b a=vk l a b:=j9 (fun i _=>Bool.and_comm _ _);unfold Z1;rw [e]
structure Sound (l:List Ty):Prop where
  vt:VT l
  pos:0 < l.length
  le:l.length≤60
  all:∀ a b i,a < l.length→b < l.length→i < l.length→uQ l a b i=true→(Z1 l a b).2.1=true
theorem YQ {l:List Ty} {fs:List Ft} (h:(qx l fs).1=0):Sound l:=by
  unfold qx at h;by_cases h4:40 < fs.length
  · rw [if_pos h4] at h;cases h
  rw [if_neg h4] at h;by_cases ht:(qY l).1≠0
  · rw [if_pos ht] at h;exact absurd h ht
  rw [if_neg ht] at h;have ht0:=Decidable.not_not.1 ht;by_cases hu:(u7 l).1≠0
  · rw [if_pos hu] at h;exact absurd h hu
  have hu0:=Decidable.not_not.1 hu;have hv:=vt_of ht0;have hl:=VQ ht0;have h60:l.length≤60:=by omega
  have hlt:∀ a b,a < b→b < l.length→(Z1 l a b).2.2=false:=fun a b hab hb=>by
    have h1:=yJ hu0 b (Nat.zero_le _) om;cases h2:(Z1 l a b).2.2 with
    | false=>rfl
    | true=>rw [Ez hab h2] at h1;cases h1
  have hall:∀ a b,a < l.length→b < l.length→(Z1 l a b).2.2=false:=fun a b ha hb=>by
    rcases Nat.lt_trichotomy a b with h1 | h1 | h1
    · exact hlt a b h1 hb
    · subst h1
      have:=meet_is hv h60 (a:=a) (b:=a) ha (by simp [uQ,YZ hv]) (fun i _ hc=>by
        simp only [uQ,Bool.and_eq_true] at hc
        exact hc.1)
      rw [this]
    · rw [← meet_comm];exact hlt b a h1 ha
  refine⟨hv,by omega,h60,fun a b i ha hb hi hc=>?_⟩;have h1:=hall a b ha hb;have h0:vk l a b≠0:=fun h=>by
    have:=mask_eq_zero.1 h i hi;rw [hc] at this;cases this
  by_cases hd:Zz l (Lib.ctz 64 (vk l a b))≠vk l a b
  · simp only [Z1,if_neg h0,if_pos hd] at h1;cases h1
  · simp only [Z1,if_neg h0,if_neg hd]
theorem sub_anti {l:List Ty} (hv:VT l) {a b:Nat} (h:sub l a b=true) (h2:sub l b a=true):a=b:=Nat.le_antisymm (Kx hv h2) (Kx hv h)
structure Tri (l:List Ty) (a b c m:Nat) (ok:Bool):Prop where
  yes:ok=true→m < l.length∧(sub l m a=true∧sub l m b=true∧sub l m c=true)∧∀ i,i < l.length→sub l i a=true→sub l i b=true→sub l i c=true→sub l i m=true
  no:ok=false→m=0∧∀ i,i < l.length→sub l i a=true→sub l i b=true→sub l i c=true→False
theorem Tri.uniq {l:List Ty} (hv:VT l) {a b c m n:Nat} {p q:Bool} (h:Tri l a b c m p) (k:Tri l a b c n q):p=q∧m=n:=by
  cases p with
  | true=>
    obtain⟨h1,⟨h2,h3,h4⟩,h5⟩:=h.yes rfl;cases q with
    | true=>
      obtain⟨k1,⟨k2,k3,k4⟩,k5⟩:=k.yes rfl;exact⟨rfl,sub_anti hv (k5 m h1 h2 h3 h4) (h5 n k1 k2 k3 k4)⟩
    | false=>exact((k.no rfl).2 m h1 h2 h3 h4).elim
  | false=>
    cases q with
    | true=>
      obtain⟨k1,⟨k2,k3,k4⟩,k5⟩:=k.yes rfl;exact((h.no rfl).2 n k1 k2 k3 k4).elim
    | false=>exact⟨rfl,(h.no rfl).1.trans (k.no rfl).1.symm⟩
def twoF (l:List Ty) (fs:List Ft) (a b:Int):Fl:=
  if (qx l fs).1≠0 then qx l fs else if a < 0∨(l.length:Int)≤a then (3,-2) else if b < 0∨(l.length:Int)≤b then (3,-3) else (0,0)
structure TwoOk (l:List Ty) (fs:List Ft) (a b:Int):Prop where
  h:(qx l fs).1=0
  s:Sound l
  a0:0≤a
  al:a < l.length
  b0:0≤b
  bl:b < l.length
  z:twoF l fs a b=(0,0)
def hsub (l:List Ty) (fs:List Ft) (a b:Int):Bool:=if (twoF l fs a b).1≠0 then false else sub l a.toNat b.toNat
theorem RK {w:World} {base:Nat} {A:Option Addr} {cap:Nat} {xs:List Int} {z:Int} (h:Own w base 3 1 A (xs.length + 1) cap (xs.map (Value.int .i64) ++ [Value.int .i64 z])):Own w base 3 1 A (xs ++ [z]).length cap ((xs ++ [z]).map (Value.int .i64)):=by
  rw [List.length_append,List.map_append];exact h
theorem sl_snoc (A:Option Addr) (cap:Nat) (xs:List Int) (z:Int):Value.slice A (xs.length + 1) cap=Value.slice A (xs ++ [z]).length cap:=by rw [List.length_append];rfl
end Go.Proofs.YtbcpgfnfiekbiaaGreatDoor
