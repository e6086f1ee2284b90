/- What these functions of the program compute, at every world: glosswright/hierarchy.Tables. What these functions of the program compute, at every world: glosswright/hierarchy.Validate. What these functions of the program compute, at every world: glosswright/glosswrightref3.Unmet. What these functions of the program compute, at every world: glosswright/glosswrightref3.HierarchyFault. Plain laws of the order of types: meets, joins, remainders. No program in sight. -/
import Derived.Test.YtbcpgfnfiekbiaaGreatDoorU
import Derived.Test.YtbcpgfnfiekbiaaGreatDoorTrm
import Derived.Test.YtbcpgfnfiekbiaaGreatDoorMeet
namespace Go.Proofs.YtbcpgfnfiekbiaaGreatDoor
open Go.RowKit
def J3 (l:List Ty) (k:Nat) (ps:List Int) (x:Nat):Bool:=decide (x=k) || ps.any (fun p=>sub l p.toNat x)
theorem parM_zero {l:List Ty} {k:Nat} (hk:k < l.length):jZ (J3 l k []) l.length=2 ^ k:=by
  rw [Fw hk];exact jw (fun j _=>by simp [J3])
theorem parM_snoc {l:List Ty} {k j:Nat} {ps:List Int} (hj:j < ps.length):jZ (J3 l k (ps.take j)) l.length ||| upN l (ps[j]).toNat=jZ (J3 l k (ps.take (j + 1))) l.length:=by
  unfold upN;rw [mask_or];refine jw (fun x _=>?_);simp only [J3];rw [List.take_succ_eq_append_getElem hj,List.any_append];simp [Bool.or_assoc]
theorem parM_end {l:List Ty} (hv:VT l) {k:Nat} (hk:k < l.length):jZ (J3 l k (l[k]).par) l.length=upN l k:=by
  unfold upN;refine jw (fun x _=>?_);rw [Hq hv];have e1:decide (x=k)=decide (k=x):=by simp only [eq_comm]
  simp only [J3,e1]
  congr 1
  simp only [MY,List.getElem?_eq_getElem hk,List.any_map];rfl
def upP (l:List Ty) (k i:Nat):Nat:=if i < k then upN l i else 0
def uS (l:List Ty) (k X i:Nat):Nat:=if i=k then X else upP l k i
theorem uS_k (l:List Ty) (k X:Nat):uS l k X k=X:=by simp [uS]
theorem uS_lt {l:List Ty} {k X p:Nat} (h:p < k):uS l k X p=upN l p:=by
  have:p≠k:=by omega
  simp [uS,upP,this,h]
theorem uS_end (l:List Ty) (k i:Nat):uS l k (upN l k) i=upP l (k + 1) i:=by
  unfold uS upP;by_cases h:i=k
  · subst h;simp
  · have:(i < k + 1) ↔ (i < k):=by omega
    simp [h,this]
def dnP (l:List Ty) (k j:Nat):Nat:=jZ (fun i=>decide (i < k) && sub l i j) l.length
theorem dnP_zero (l:List Ty) (j:Nat):dnP l 0 j=0:=mask_eq_zero.2 (fun i _=>by simp)
theorem dnP_yes {l:List Ty} {k j:Nat} (hk:k < l.length) (h:sub l k j=true):dnP l k j ||| 2 ^ k=dnP l (k + 1) j:=by
  unfold dnP;rw [Fw hk,mask_or];refine jw (fun i _=>?_);by_cases e:i=k
  · subst e;simp [h]
  · have e1:decide (i < k + 1)=decide (i < k):=decide_eq_decide.2 oM
    simp [e,e1]
theorem dnP_no {l:List Ty} {k j:Nat} (h:sub l k j=false):dnP l k j=dnP l (k + 1) j:=by
  unfold dnP;refine jw (fun i _=>?_);by_cases e:i=k
  · subst e;simp [h]
  · have e1:decide (i < k + 1)=decide (i < k):=decide_eq_decide.2 oM
    simp [e1]
theorem dnP_end (l:List Ty) (j:Nat):dnP l l.length j=Z6 l j:=by
  unfold dnP Z6;exact jw (fun i hi=>by simp [hi])
theorem upP_end {l:List Ty} {i:Nat} (h:i < l.length):upP l l.length i=upN l i:=by simp [upP,h]
def dS (l:List Ty) (k j x:Nat):Nat:=if x < j then dnP l (k + 1) x else dnP l k x
theorem dS_j (l:List Ty) (k j:Nat):dS l k j j=dnP l k j:=by simp [dS]
theorem dS_yes {l:List Ty} {k j:Nat} (hk:k < l.length) (h:sub l k j=true) (x:Nat):(if x=j then dS l k j j ||| 2 ^ k else dS l k j x)=dS l k (j + 1) x:=by
  by_cases e:x=j
  · subst e;simp only [if_true,dS_j,dnP_yes hk h];simp [dS]
  · have e1:(x < j + 1) ↔ (x < j):=by omega
    simp [e,dS,e1]
theorem dS_no {l:List Ty} {k j:Nat} (h:sub l k j=false) (x:Nat):dS l k j x=dS l k (j + 1) x:=by
  by_cases e:x=j
  · subst e;rw [dS_j,dnP_no h];simp [dS]
  · have e1:(x < j + 1) ↔ (x < j):=by omega
    simp [dS,e1]
theorem dS_lt {l:List Ty} (h:l.length≤60) (k j x:Nat):dS l k j x < 18446744073709551616:=by
  unfold dS dnP;split <;> exact ZZ _ h
theorem uS_bd {l:List Ty} (h:l.length≤60) {k X x:Nat} (hX:X < 18446744073709551616):uS l k X x < 18446744073709551616:=by
  unfold uS upP;split
  · exact hX
  · split
    · exact WY h _
    · decide
theorem Yy {n:Nat} {g:Nat→Nat} {f:Nat→Nat} (h:∀ j,j < n→g j=f j):row n (fun j=>Value.int .u64 ((g j:Nat):Int))=row n (fun j=>Value.int .u64 ((f j:Nat):Int)):=yz (fun j hj=>by rw [h j hj])
theorem HQ {n k c:Nat} {g:Nat→Nat}:row n (fun j=>if j=k then Value.int .u64 (c:Int) else Value.int .u64 ((g j:Nat):Int))=row n (fun j=>Value.int .u64 ((if j=k then c else g j:Nat):Int)):=yz (fun j _=>by split <;> rfl)
theorem in157:(Tryz.prog.info? 157).map (fun i=>(i.zero,i.size,i.bytes))=some (some (.int .u64 0),1,8):=by kernel_rfl
theorem JX:(Tryz.prog.info? 110).map (·.size)=some 2:=by kernel_rfl
theorem sz89:(Tryz.prog.info? 89).map (·.size)=some 2:=by kernel_rfl
theorem C6:(Tryz.prog.info? 110).map (·.zero)=some (some (.agg #[.string ⟨#[]⟩,.slice none 0 0])):=by kernel_rfl
theorem ze89:(Tryz.prog.info? 89).map (·.zero)=some (some (.agg #[.slice none 0 0,.slice none 0 0])):=by kernel_rfl
theorem E6 (A:Option Addr) (c:Nat) (l:List Ty) (w:World) (hT:TypesIn w A l) (hv:VT l) (h60:l.length≤60):Calls Tryz.prog 55 #[.slice A l.length c] w fun e w'=>∃ bu bd,e= .returned (tabV l.length bu bd)∧TableIn w' l bu bd∧Bel w w':=by
 refine enT Tryz.func55 Tryz.ntmps55 rfl rfl fun hB=>?_;refine zn2 ?_;refine qq (cs:=#[.slice none 0 0,.slice none 0 0]) ze89 rfl (fun b2 w1 hb2 s1 hr=>?_);have lo2:=nLT (Bel.size hB) hr;refine zn3 ?_;have z2:=hb2.lt;replace hB:=hB.tr0 s1;have hsz:=Bel.size hB;refine kK 8 [9,10,11,12,13,14,15,3] (fun ix=>Nat.beq ix 2 || Nat.beq ix 5 || Nat.beq ix 7) (fun ix v wv=>match ix with | 0=>v= .slice A l.length c | 1=>v= .int .i64 l.length | 2=>∃ bu,v= .slice (some ⟨bu,0,none⟩) l.length l.length∧w1.heap.size≤bu∧Blk wv bu 157 (row l.length (fun _=> .int .u64 0)) | 3=>v= .slice A l.length c | 4=>v= .int .i64 l.length | 5=>∃ bd,v= .slice (some ⟨bd,0,none⟩) l.length l.length∧w1.heap.size≤bd∧Blk wv bd 157 (row l.length (fun _=> .int .u64 0)) | 6=>∃ bu bd,v= .agg #[.slice (some ⟨bu,0,none⟩) l.length l.length,.slice (some ⟨bd,0,none⟩) l.length l.length]∧w1.heap.size≤bu∧Blk wv bu 157 (row l.length (fun _=> .int .u64 0))∧w1.heap.size≤bd∧Blk wv bd 157 (row l.length (fun _=> .int .u64 0))∧bu≠bd | 7=>∃ b,v= .pointer (some ⟨b,0,none⟩)∧w1.heap.size≤b∧Blk wv b 89 #[.slice none 0 0,.slice none 0 0] | _=>True) kR kR ?_ ?_ ?_
 ·intro ix v wv wv2 h s2
  match ix,h with
  | 0,h=>exact h
  | 1,h=>exact h
  | 2,h=>
   obtain⟨bu,e11,lobu,hbu⟩:=(show ∃ bu,v= .slice (some ⟨bu,0,none⟩) l.length l.length∧w1.heap.size≤bu∧Blk wv bu 157 (row l.length (fun _=> .int .u64 0)) from h)
   exact⟨bu,e11,lobu,hbu.tr0 s2⟩
  | 3,h=>exact h
  | 4,h=>exact h
  | 5,h=>
   obtain⟨bd,e14,lobd,hbd⟩:=(show ∃ bd,v= .slice (some ⟨bd,0,none⟩) l.length l.length∧w1.heap.size≤bd∧Blk wv bd 157 (row l.length (fun _=> .int .u64 0)) from h)
   exact⟨bd,e14,lobd,hbd.tr0 s2⟩
  | 6,h=>
   obtain⟨bu,bd,e15,lobu,hbu,lobd,hbd,hne⟩:=(show ∃ bu bd,v= .agg #[.slice (some ⟨bu,0,none⟩) l.length l.length,.slice (some ⟨bd,0,none⟩) l.length l.length]∧w1.heap.size≤bu∧Blk wv bu 157 (row l.length (fun _=> .int .u64 0))∧w1.heap.size≤bd∧Blk wv bd 157 (row l.length (fun _=> .int .u64 0))∧bu≠bd from h)
   exact⟨bu,bd,e15,lobu,hbu.tr0 s2,lobd,hbd.tr0 s2,hne⟩
  | 7,h=>
   obtain⟨b3,e3,lo3,hb3⟩:=(show ∃ b,v= .pointer (some ⟨b,0,none⟩)∧w1.heap.size≤b∧Blk wv b 89 #[.slice none 0 0,.slice none 0 0] from h)
   exact⟨b3,e3,lo3,hb3.tr0 s2⟩
  | _ + 8,h=>exact trivial
 ·intro ix o hix hoq gg wx s3 hd hdis
  match ix,hix,hoq with
  | 0,_,hoq=>
   cases sI hoq;exact oVq (yq (v:= .slice _ _ _) rfl) rfl
  | 1,_,hoq=>
   cases sI hoq;have d0:gg 9= .slice A l.length c:=hd 0 (zj kR);have e9:=d0;refine zx 9 _ e9 nu ?_;exact oVq (F0 U22 rfl) rfl
  | 2,_,hoq=>
   cases sI hoq;have hs0:=s3;have d1:gg 10= .int .i64 l.length:=hd 1 (zj kR);have e10:=d1;refine zx 10 _ e10 nu ?_;refine jk (fun ops Q K=>?_);refine gv U87 in157 rfl rfl rfl oM oM (fun b11 w2 hb11 s4 hr=>?_);exact K _ _ ⟨s4,⟨_,rfl,nLT hs0.size hr,hb11⟩,fRq hr hb11.lt⟩
  | 3,_,hoq=>
   cases sI hoq;exact oVq (yq (v:= .slice _ _ _) rfl) rfl
  | 4,_,hoq=>
   cases sI hoq;have d3:gg 12= .slice A l.length c:=hd 3 (zj kR);have e12:=d3;refine zx 12 _ e12 nu ?_;exact oVq (F0 U22 rfl) rfl
  | 5,_,hoq=>
   cases sI hoq;have hs0:=s3;have d4:gg 13= .int .i64 l.length:=hd 4 (zj kR);have e13:=d4;refine zx 13 _ e13 nu ?_;refine jk (fun ops Q K=>?_);refine gv U87 in157 rfl rfl rfl oM oM (fun b14 w3 hb14 s5 hr=>?_);exact K _ _ ⟨s5,⟨_,rfl,nLT hs0.size hr,hb14⟩,fRq hr hb14.lt⟩
  | 6,_,hoq=>
   cases sI hoq;have d2:∃ bu,gg 11= .slice (some ⟨bu,0,none⟩) l.length l.length∧w1.heap.size≤bu∧Blk wx bu 157 (row l.length (fun _=> .int .u64 0)):=hd 2 (zj kR);obtain⟨bu,e11,lobu,hbu⟩:=d2;have d5:∃ bd,gg 14= .slice (some ⟨bd,0,none⟩) l.length l.length∧w1.heap.size≤bd∧Blk wx bd 157 (row l.length (fun _=> .int .u64 0)):=hd 5 (zj kR);obtain⟨bd,e14,lobd,hbd⟩:=d5;have hne:bu≠bd:=fun h=>hdis 2 5 bu (zj kR) (zj kR) dE rfl rfl (show jj (gg 11)=some bu by rw [e11];rfl) (show jj (gg 14)=some bu by rw [e14,h];rfl)
   refine zx 11 _ e11 nu (zx 14 _ e14 nu ?_);exact oVq (xY (v0:= .slice _ _ _) (v1:= .slice _ _ _) (fun v0 v1=>#[v0,v1]) rfl rfl kR) ⟨_,_,rfl,lobu,hbu,lobd,hbd,hne⟩
  | 7,_,hoq=>
   cases sI hoq;have hs0:=s3;refine jk (fun ops Q K=>?_);refine qq (cs:=#[.slice none 0 0,.slice none 0 0]) ze89 rfl (fun b3 w4 hb3 s6 hr=>?_);exact K _ _ ⟨s6,⟨_,rfl,nLT hs0.size hr,hb3⟩,fRq hr hb3.lt⟩
  | _ + 8,hix,_=>exact absurd hix oM
 intro gg w5 s7 hR hdis;have d6:∃ bu bd,gg 15= .agg #[.slice (some ⟨bu,0,none⟩) l.length l.length,.slice (some ⟨bd,0,none⟩) l.length l.length]∧w1.heap.size≤bu∧Blk w5 bu 157 (row l.length (fun _=> .int .u64 0))∧w1.heap.size≤bd∧Blk w5 bd 157 (row l.length (fun _=> .int .u64 0))∧bu≠bd:=hR 6 dE;obtain⟨bu,bd,e15,lobu,hbu,lobd,hbd,hne⟩:=d6;have d7:∃ b,gg 3= .pointer (some ⟨b,0,none⟩)∧w1.heap.size≤b∧Blk w5 b 89 #[.slice none 0 0,.slice none 0 0]:=hR 7 dE;obtain⟨b3,e3,lo3,hb3⟩:=d7;have h3u:b3≠bu:=fun h=>absurd (jW (h ▸ hb3) hbu) dE
 have h3d:b3≠bd:=fun h=>absurd (jW (h ▸ hb3) hbd) dE
 have or_2_3:b2 < b3:=nLL z2 lo3;have or_2_u:b2 < bu:=nLL z2 lobu;have or_2_d:b2 < bd:=nLL z2 lobd;replace lo3:=nLT hsz lo3;replace lobu:=nLT hsz lobu;replace lobd:=nLT hsz lobd;refine xK 15 _ e15 nu (xK 3 _ e3 nu ?_);refine zk hb3 rfl rfl sz89 rfl zQ (fun w6 hq s8=>?_);replace hb3:=hq;refine vq ?_;replace hbu:=hbu.tr1 s8 oM;replace hbd:=hbd.tr1 s8 oM;refine zW (rg [4,5,7,8] 18 56) (fun m g w'=>∃ (k:Nat),k≤l.length∧m=l.length - k∧g 18= .int .i64 k∧Bel w w'∧Blk w' b2 89 #[.slice none 0 0,.slice none 0 0]∧Blk w' b3 89 #[.slice (some ⟨bu,0,none⟩) l.length l.length,.slice (some ⟨bd,0,none⟩) l.length l.length]∧Blk w' bu 157 (row l.length (fun i=> .int .u64 ((upP l k i:Nat):Int)))∧Blk w' bd 157 (row l.length (fun i=> .int .u64 ((dnP l k i:Nat):Int)))) (l.length) ?_ (fun m g3 w7 hI=>?_)
 ·refine⟨0,Nat.zero_le _,rfl,rfl,hB.u,hb2.u,hb3,?_,?_⟩
  · rw [Yy (f:=fun _=>0) (fun j _=>by simp [upP])];exact hbu
  · rw [Yy (f:=fun _=>0) (fun j _=>dnP_zero l j)];exact hbd
 obtain⟨k,hk,hm,h18,hB,hb2,hb3,hbu,hbd⟩:=hI;refine zZ 18 _ h18 nu (zn6 ?_);refine zX rfl (fun c19=>?_) (fun c19=>?_)
 ·have hlt:k < l.length:=by omega
  obtain⟨tb,to,A',cp,rfl,htb,htr,hpar⟩:=hT.at_ hB hlt;have hmx:=hpar.1;unfold yJ at hmx;refine zn8 ?_;refine wl (zY T1 rfl rfl htr JX) ?_;refine qq (cs:=#[.string ⟨#[]⟩,.slice none 0 0]) C6 rfl (fun b5 w8 hb5 s9 hr=>?_);have:=nLL hb2.lt hr;have:=nLL hbu.lt hr;have:=nLL hbd.lt hr;have:=nLL hb3.lt hr;have lo5:=nLT (Bel.size hB) hr;refine waI rfl ?_;refine zk hb5 rfl rfl JX rfl zQ (fun w9 hq s10=>?_);replace hb5:=hq;refine zn3 ?_;refine XQ 6 kR kR (fun w10 s11=>?_);refine zn4 ?_;refine ws (r_shl1 rfl rfl oM rfl) (zn1 ?_);refine X8 ?_;replace hbu:=((hbu.tr0 s9).tr1 s10 oM).tr0 s11;refine xz (v:= .int _ _) hbu rfl rfl sz157 (by rw [row_size];omega) rfl jQ (fun w11 hq s12=>?_);replace hbu:=hq;replace hB:=(((hB.tr0 s9).tr1 s10 lo5).tr0 s11).tr1 s12 lobu;replace hb2:=(((hb2.tr0 s9).tr1 s10 oM).tr0 s11).tr1 s12 oM;replace hbd:=(((hbd.tr0 s9).tr1 s10 oM).tr0 s11).tr1 s12 oM;replace hb3:=(((hb3.tr0 s9).tr1 s10 oM).tr0 s11).tr1 s12 oM;replace hb5:=(hb5.tr0 s11).tr1 s12 oM;replace hbu:Blk w11 bu 157 (row l.length (fun i=> .int .u64 ((uS l k (jZ (J3 l k ((l[k]'hlt).par.take 0)) l.length) i:Nat):Int))):=by
    rw [HQ (g:=fun i=>upP l k i)] at hbu;rw [Yy (f:=fun i=>if i=k then 2 ^ k else upP l k i) (fun j _=>by rw [List.take_zero,parM_zero hlt];rfl)];exact hbu
  refine yZ ?_;refine zW (rg [7] 32 17) (fun m g w'=>∃ (j:Nat),j≤(l[k]'hlt).par.length∧m=(l[k]'hlt).par.length - j∧g 32= .int .i64 j∧Bel w w'∧Blk w' b2 89 #[.slice none 0 0,.slice none 0 0]∧Blk w' b3 89 #[.slice (some ⟨bu,0,none⟩) l.length l.length,.slice (some ⟨bd,0,none⟩) l.length l.length]∧Blk w' bu 157 (row l.length (fun i=> .int .u64 ((uS l k (jZ (J3 l k ((l[k]'hlt).par.take j)) l.length) i:Nat):Int)))∧Blk w' bd 157 (row l.length (fun i=> .int .u64 ((dnP l k i:Nat):Int)))∧Blk w' b5 110 #[.string (l[k]'hlt).name,.slice A' (l[k]'hlt).par.length cp]) ((l[k]'hlt).par.length) ?_ (fun m g7 w12 hI=>?_)
  ·exact⟨0,Nat.zero_le _,rfl,rfl,hB,hb2,hb3,hbu,hbd,hb5⟩
  obtain⟨j,hj,hmj,h32,hB,hb2,hb3,hbu,hbd,hb5⟩:=hI;refine zZ 32 _ h32 nu (zn6 ?_);refine zX rfl (fun c33=>?_) (fun c33=>?_)
  ·have hlj:j < (l[k]'hlt).par.length:=by omega
   obtain⟨pb,po,rfl,hpb,hpc⟩:=hpar.at_ hlj;replace hpc:=hB.cell hpb hpc;have hpr:=hv k hlt _ (List.getElem_mem hlj);obtain⟨pn,hpn⟩:∃ pn:Nat,pn=((l[k]'hlt).par[j]).toNat:=⟨_,rfl⟩
   have hpi:(l[k]'hlt).par[j]=(pn:Int):=by rw [hpn];exact(Int.toNat_of_nonneg hpr.1).symm
   rw [hpi] at hpc hpr;have hXl:=ZZ (J3 l k ((l[k]'hlt).par.take j)) h60;refine zn7 ?_;refine wl (qV (v:= .int _ _) U3 rfl rfl hpc) (zn3 ?_);refine XQ 12 kR kR (fun w13 s13=>?_);refine zn4 ?_;replace hbu:=hbu.tr0 s13;refine ws (qV (v:= .int _ _) Pj rfl rfl (hbu.cell (yk hlt))) (zn4 ?_);refine ws (qV (v:= .int _ _) Pj rfl rfl (hbu.cell (yk oM))) (ws (r_orU rfl rfl (uS_bd h60 hXl) (uS_bd h60 hXl)) (zn1 ?_));refine X8 ?_;refine xz (v:= .int _ _) hbu rfl rfl sz157 (by rw [row_size];omega) rfl jQ (fun w14 hq s14=>?_);replace hbu:=hq;replace hbu:Blk w14 bu 157 (row l.length (fun i=> .int .u64 ((uS l k (jZ (J3 l k ((l[k]'hlt).par.take (j + 1))) l.length) i:Nat):Int))):=by
     rw [HQ (g:=fun i=>uS l k (jZ (J3 l k ((l[k]'hlt).par.take j)) l.length) i)] at hbu
     rw [Yy (f:=fun i=>if i=k then uS l k (jZ (J3 l k ((l[k]'hlt).par.take j)) l.length) k ||| uS l k (jZ (J3 l k ((l[k]'hlt).par.take j)) l.length) pn else uS l k (jZ (J3 l k ((l[k]'hlt).par.take j)) l.length) i) (fun i _=>by
       rw [uS_k,uS_lt (show pn < k by omega),hpn,parM_snoc hlj];by_cases e:i=k
       · simp [e,uS_k]
       · simp [e,uS])]
     exact hbu
   refine zn7 ?_;refine xv ((l[k]'hlt).par.length - (j + 1)) oM agA ?_;replace hbd:=(hbd.tr0 s13).tr1 s14 oM;exact⟨j + 1,by omega,rfl,rfl,hB.u,hb2.u,hb3.u,hbu,hbd,hb5.u⟩
  have hjl:j=(l[k]'hlt).par.length:=by omega
  rw [hjl,List.take_length,parM_end hv hlt,Yy (f:=fun i=>upP l (k + 1) i) (fun i _=>uS_end l k i)] at hbu;refine ky ?_;refine zW (rg [8] 51 22) (fun m g w'=>∃ (j:Nat),j≤l.length∧m=l.length - j∧g 51= .int .i64 j∧Bel w w'∧Blk w' b2 89 #[.slice none 0 0,.slice none 0 0]∧Blk w' b3 89 #[.slice (some ⟨bu,0,none⟩) l.length l.length,.slice (some ⟨bd,0,none⟩) l.length l.length]∧Blk w' bu 157 (row l.length (fun i=> .int .u64 ((upP l (k + 1) i:Nat):Int)))∧Blk w' bd 157 (row l.length (fun i=> .int .u64 ((dS l k j i:Nat):Int)))) (l.length) ?_ (fun m g12 w15 hI=>?_)
  ·refine⟨0,Nat.zero_le _,rfl,rfl,hB,hb2,hb3,hbu,?_⟩;rw [Yy (f:=fun i=>dnP l k i) (fun i _=>by simp [dS])];exact hbd
  obtain⟨j,hj,hmj,h51,hB,hb2,hb3,hbu,hbd⟩:=hI;refine zZ 51 _ h51 nu (zn6 ?_);refine zX rfl (fun c52=>?_) (fun c52=>?_)
  ·have hlj:j < l.length:=by omega
   have huk:upP l (k + 1) k=upN l k:=by simp [upP]
   have huv:=WY h60 k;have hbit:=D1 (upN l k) j;have hbt:(upN l k).testBit j=sub l k j:=by unfold upN;rw [jy];simp [hlj]
   rw [hbt] at hbit;refine Nk ?_;refine wl (qV (v:= .int _ _) Pj rfl rfl (hbu.cell (yk hlt))) (wl (yq (v:= .int _ _) rfl) (wl (r_shr (b:=j) rfl rfl oM rfl) (wl (Bq (b:=1) rfl rfl (by rw [huk];exact Nat.lt_of_le_of_lt (Nat.shiftRight_le _ _) huv) dE) (zn3 ?_))));refine zX rfl (fun c62=>?_) (fun c62=>?_)
   ·have hs1:sub l k j=true:=by rw [← hbit];exact decide_eq_true (by rw [huk] at c62;omega)
    refine XQ 9 kR kR (fun w16 s15=>?_);refine zn4 ?_;replace hbd:=hbd.tr0 s15;refine ws (qV (v:= .int _ _) Pj rfl rfl (hbd.cell (yk hlj))) (zn1 ?_);refine ws (r_shl1 rfl rfl oM rfl) (ws (r_orU rfl rfl (dS_lt h60 _ _ _) (nLL (Nat.pow_lt_pow_right dE (show k < 60 by omega)) dE)) (zn1 ?_));refine X8 ?_;refine xz (v:= .int _ _) hbd rfl rfl sz157 (by rw [row_size];omega) rfl jQ (fun w17 hq s16=>?_);replace hbd:=hq;rw [HQ (g:=fun i=>dS l k j i),Yy (f:=fun i=>dS l k (j + 1) i) (fun i _=>dS_yes hlt hs1 i)] at hbd;refine zn7 ?_;refine xv (l.length - (j + 1)) oM agA ?_;replace hbu:=(hbu.tr0 s15).tr1 s16 oM;exact⟨j + 1,by omega,rfl,rfl,hB.u,hb2.u,hb3.u,hbu,hbd⟩
   have hs1:sub l k j=false:=by rw [← hbit];exact decide_eq_false (by rw [huk] at c62;omega)
   rw [Yy (f:=fun i=>dS l k (j + 1) i) (fun i _=>dS_no hs1 i)] at hbd;refine zn7 ?_;refine xv (l.length - (j + 1)) oM agA ?_;exact⟨j + 1,by omega,rfl,rfl,hB,hb2,hb3,hbu,hbd⟩
  have hjl:j=l.length:=by omega
  rw [hjl,Yy (f:=fun i=>dnP l (k + 1) i) (fun i hi=>by simp [dS,hi])] at hbd;refine yv ?_;refine xv (l.length - (k + 1)) oM agA ?_;exact⟨k + 1,by omega,rfl,rfl,hB,hb2,hb3,hbu,hbd⟩
 have hkl:k=l.length:=by omega
 subst hkl;refine zn8 ?_;refine zk hb2 rfl rfl sz89 rfl zQ (fun w18 hq s17=>?_);replace hb2:=hq;refine zn3 ?_;refine x7 (.inl rfl) rfl (zy U89 rfl rfl hb2.range0 sz89) ?_;refine⟨bu,bd,rfl,⟨?_,?_⟩,hB.u⟩;replace hbu:=hbu.tr1 s17 oM
 · rw [Yy (f:=upN l) (fun i hi=>upP_end hi)] at hbu;exact hbu
 replace hbd:=hbd.tr1 s17 oM
 · rw [Yy (f:=Z6 l) (fun i _=>dnP_end l i)] at hbd;exact hbd
end Go.Proofs.YtbcpgfnfiekbiaaGreatDoor
namespace Go.Proofs.YtbcpgfnfiekbiaaGreatDoor
open Go.RowKit
theorem My {i:Int}:∀ {ps:List Int} {last:Int},j9 i last ps=0→∀ p ∈ ps,0≤p∧p < i
  | [],_,_,p,hp=>by cases hp
  | q :: ps,last,h,p,hp=>by
    unfold j9 at h
    by_cases h1:q < 0∨i≤q
    · rw [if_pos h1] at h;cases h
    rw [if_neg h1] at h
    by_cases h2:q≤last
    · rw [if_pos h2] at h;cases h
    rw [if_neg h2] at h
    rcases List.mem_cons.1 hp with rfl | hp
    · omega
    · exact My h p hp
theorem H3 {l:List Ty} {k:Nat} (hk:k < l.length) (h:yW l k=0):xj (l[k]).name=true∧jX ((l.take k).map (·.name)) (l[k]).name=false∧(decide (k=0) == (l[k]).par.isEmpty)=true∧j9 k (-1) (l[k]).par=0:=by
  cases h1:xj (l[k]).name with
  | false=>rw [ty10 l k hk h1] at h;cases h
  | true=>
    cases h2:jX ((l.take k).map (·.name)) (l[k]).name with
    | true=>rw [ty7 l k hk h1 h2] at h;cases h
    | false=>
      cases h3:(decide (k=0) == (l[k]).par.isEmpty) with
      | false=>rw [ty5 l k hk h1 h2 h3] at h;cases h
      | true=>
        rw [Cx l k hk h1 h2 h3,List.drop_zero] at h;exact⟨rfl,rfl,rfl,h⟩
theorem jv {f:Nat→Int}:∀ {m i:Nat},(x8 f i m).1=0→∀ j,i≤j→j < i + m→f j=0
  | 0,i,_,j,h1,h2=>by omega
  | m + 1,i,h,j,h1,h2=>by
    unfold x8 at h
    by_cases h3:f i≠0
    · rw [if_pos h3] at h;exact absurd h h3
    rw [if_neg h3] at h
    by_cases e:j=i
    · subst e;exact Decidable.not_not.1 h3
    · exact jv h j oM oM
theorem Iq {l:List Ty} (h:(xx l).1=0):¬(l.length=0∨60 < l.length):=by
  intro hb;simp only [xx,if_pos hb] at h;cases h
theorem types_ok {l:List Ty} (h:(xx l).1=0) {k:Nat} (hk:k < l.length):yW l k=0:=by
  have hb:=Iq h;simp only [xx,if_neg hb] at h;exact jv h k (Nat.zero_le _) oM
theorem vt_of {l:List Ty} (h:(xx l).1=0):VT l:=fun _ hi p hp=>My (H3 hi (types_ok h hi)).2.2.2 p hp
def MV (l:List Ty) (b:Nat):Int:=if (List.range b).any (fun a=>(gJ l a b).2.2) then 16 else 0
theorem NY {l:List Ty} {a b:Nat} (h:a < b) (hm:(gJ l a b).2.2=true):MV l b=16:=by
  unfold MV;rw [if_pos (List.any_eq_true.2 ⟨a,List.mem_range.2 h,hm⟩)]
theorem Gw {l:List Ty} {b:Nat} (h:∀ a,a < b→(gJ l a b).2.2=false):MV l b=0:=by
  unfold MV;rw [if_neg];intro hc;obtain⟨a,ha,hm⟩:=List.any_eq_true.1 hc;rw [h a (List.mem_range.1 ha)] at hm;cases hm
def O8 (n:Nat) (t:Ft):Prop:=t.of < 0∨(n:Int)≤t.of∨t.val < 0∨(n:Int)≤t.val
instance (n:Nat) (t:Ft):Decidable (O8 n t):=by unfold O8;infer_instance
def uX (n:Nat) (fs:List Ft) (i:Nat):Int:=match fs[i]? with
  | none=>0
  | some t=>if xj t.name=false then 10 else if jX ((fs.take i).map (·.name)) t.name=true then 7 else if O8 n t then 3 else 0
theorem ft10 (n:Nat) (l:List Ft) (k:Nat) (hlt:k < l.length) (h1:xj l[k].name=false):uX n l k=10:=by
  simp only [uX,List.getElem?_eq_getElem hlt,h1,if_true]
theorem ft7 (n:Nat) (l:List Ft) (k:Nat) (hlt:k < l.length) (h1:xj l[k].name=true) (h2:jX ((l.take k).map (·.name)) l[k].name=true):uX n l k=7:=by
  simp only [uX,List.getElem?_eq_getElem hlt,h1,h2,if_true];rfl
theorem ft3 (n:Nat) (l:List Ft) (k:Nat) (hlt:k < l.length) (h1:xj l[k].name=true) (h2:jX ((l.take k).map (·.name)) l[k].name=false) (h3:O8 n l[k]):uX n l k=3:=by
  simp only [uX,List.getElem?_eq_getElem hlt,h1,h2,if_pos h3];rfl
theorem ft0 (n:Nat) (l:List Ft) (k:Nat) (hlt:k < l.length) (h1:xj l[k].name=true) (h2:jX ((l.take k).map (·.name)) l[k].name=false) (h3:¬O8 n l[k]):uX n l k=0:=by
  simp only [uX,List.getElem?_eq_getElem hlt,h1,h2,if_neg h3];rfl
def u9 (l:List Ty):Fl:=x8 (MV l) 0 l.length
def qZ (l:List Ty) (fs:List Ft):Fl:=
  if 40 < fs.length then (2,-1)
  else if (xx l).1≠0 then xx l
  else if (u9 l).1≠0 then u9 l
  else x8 (uX l.length fs) 0 fs.length
theorem hf_size {l:List Ty} {fs:List Ft} (h:l.length=0∨60 < l.length∨40 < fs.length):qZ l fs=(2,-1):=by
  unfold qZ;by_cases h4:40 < fs.length
  · rw [if_pos h4]
  · have hb:l.length=0∨60 < l.length:=by omega
    have ht:xx l=(2,-1):=by simp only [xx,if_pos hb]
    rw [if_neg h4,ht];rfl
theorem W1 {l:List Ty} {fs:List Ft} (h:¬40 < fs.length) (ht:(xx l).1≠0):qZ l fs=((xx l).1,(xx l).2):=by
  unfold qZ;rw [if_neg h,if_pos ht]
theorem W0 {l:List Ty} {fs:List Ft} (h:¬40 < fs.length) (ht:(xx l).1=0) {k:Int} (hu:u9 l=(16,k)):qZ l fs=(16,k):=by
  unfold qZ;rw [if_neg h,if_neg (by rw [ht];exact fun h=>h rfl),hu];rfl
theorem hf_rest {l:List Ty} {fs:List Ft} (h:¬40 < fs.length) (ht:(xx l).1=0) (hu:u9 l=(0,0)):qZ l fs=x8 (uX l.length fs) 0 (fs.length - 0):=by
  unfold qZ;rw [if_neg h,if_neg (by rw [ht];exact fun h=>h rfl),hu];rfl
theorem Z5:zK Tryz.prog 104=true:=by kernel_rfl
theorem fn105:zK Tryz.prog 105=true:=by kernel_rfl
theorem fn106:zK Tryz.prog 106=true:=by kernel_rfl
theorem Oz:zK Tryz.prog 44=true:=by kernel_rfl
theorem fn55:zK Tryz.prog 55=true:=by kernel_rfl
theorem x5:(Tryz.prog.info? 36).map (·.size)=some 2:=by kernel_rfl
theorem H9:(Tryz.prog.info? 68).map (·.size)=some 3:=by kernel_rfl
theorem V6:(Tryz.prog.info? 9).map (·.size)=some 1:=by kernel_rfl
theorem Pv:(Tryz.prog.info? 3).map (·.zero)=some (some (.int .i64 0)):=by kernel_rfl
theorem X4:(Tryz.prog.info? 36).map (·.zero)=some (some (.agg #[.int .i64 0,.int .i64 0])):=by kernel_rfl
theorem ze68:(Tryz.prog.info? 68).map (·.zero)=some (some (.agg #[.string ⟨#[]⟩,.int .i64 0,.int .i64 0])):=by kernel_rfl
theorem Cz (A B:Option Addr) (c d:Nat) (l:List Ty) (fs:List Ft) (w:World) (hTab:TabIn w) (hT:TypesIn w A l) (hF:FeatsIn w B fs):Calls Tryz.prog 74 #[.agg #[.slice A l.length c,.slice B fs.length d]] w fun e w'=>e= .returned (flV (qZ l fs))∧Bel w w':=by
 refine enT Tryz.func74 Tryz.ntmps74 rfl rfl fun hB=>?_;refine zn2 ?_;refine x6 (v:= .agg #[_,_]) (cs:=#[_,_]) rfl rfl (fun b1 w1 hb1 s1 hr=>?_);refine qq (cs:=#[.int .i64 0,.int .i64 0]) X4 rfl (fun b2 w2 hb2 s2 hr=>?_);have lo2:=nLT (Bel.size hB.u) hr;refine zn4 ?_;replace hB:=hB.tr0 (s1.trans s2);refine xJ (rg [] 15 16) 30 (.bool (decide (l.length=0∨60 < l.length∨40 < fs.length))) nu ?_ (fun gq=>?_)
 ·refine zn6 ?_;refine zw 19 rfl (fun g19=>?_) (fun g19=>?_)
  ·refine vq ?_;refine zJ (e_R ⟨rfl,agA,?_⟩);exact clA
  refine yv ?_;refine zw 25 rfl (fun g25=>?_) (fun g25=>?_)
  ·refine zn5 ?_;refine zJ (e_R ⟨rfl,agA,?_⟩);exact clA
  refine zn9 ?_;refine zJ (e_R ⟨rfl,agA,?_⟩);exact clA
 refine e_S ?_;refine zX rfl (fun c30=>?_) (fun c30=>?_)
 ·refine zn2 ?_;refine zV Z5 (kw _ _ _) rfl (fun e' w3 hr=>?_);obtain⟨rfl,s3⟩:=hr;replace s3:=sB s3;refine⟨_,rfl,?_⟩;refine zk hb2.u rfl rfl x5 rfl zQ (fun w4 hq s4=>?_);replace hb2:=hq;refine zn4 ?_;refine x7 (.inl rfl) rfl (zy U36 rfl rfl hb2.range0 x5) ?_;exact⟨qK (hf_size c30),hB.u⟩
 refine zn7 ?_;refine zV fn105 (types_any _ _ _ _ (hT.mono hB)) rfl (fun e' w5 hr=>?_);obtain⟨rfl,s5⟩:=hr;replace s5:=sB s5;refine⟨_,rfl,?_⟩;refine xV (cs:=#[.int .i64 0,.int .i64 0]) X4 rfl (fun _=>rfl) (fun _=>rfl) x5 rfl zQ (fun b3 w7 hb3 s6 hr=>?_);refine zn9 ?_;refine zX rfl (fun c37=>?_) (fun c37=>?_)
 ·refine zn3 ?_;refine zk hb2.u rfl rfl x5 rfl zQ (fun w8 hq s7=>?_);replace hb2:=hq;refine zn4 ?_;refine x7 (.inl rfl) rfl (zy U36 rfl rfl hb2.range0 x5) ?_;exact⟨qK (W1 oM oM),hB.u⟩
 have ht0:(xx l).1=0:=by omega
 have hv:=vt_of ht0;refine zn6 ?_;refine zV fn55 (E6 _ _ _ _ (hT.mono hB.u) hv oM) rfl (fun e' w9 hr=>?_);obtain⟨bu,bd,rfl,⟨hbu,hbd⟩,s8⟩:=hr;replace s8:=sB s8;have h2u:b2≠bu:=fun h=>absurd (jW (h ▸ hb2.u) hbu) dE
 have h2d:b2≠bd:=fun h=>absurd (jW (h ▸ hb2.u) hbd) dE
 refine⟨_,rfl,?_⟩;refine xV (cs:=#[.slice none 0 0,.slice none 0 0]) ze89 rfl (fun _=>rfl) (fun _=>rfl) sz89 rfl zQ (fun b4 w11 hb4 s9 hr=>?_);refine yZ ?_;replace hbu:=hbu.tr0 s9;replace hbd:=hbd.tr0 s9;refine zW (rg (rg [] 5 5) 45 20) (fun m g w'=>∃ (k:Nat),k≤l.length∧m=l.length - k∧g 45= .int .i64 k∧Bel w w'∧Blk w' b1 25 #[.slice A l.length c,.slice B fs.length d]∧Blk w' b2 36 #[.int .i64 0,.int .i64 0]∧Blk w' b4 89 #[.slice (some ⟨bu,0,none⟩) l.length l.length,.slice (some ⟨bd,0,none⟩) l.length l.length]∧Blk w' bu 157 (rU l.length (upN l))∧Blk w' bd 157 (rU l.length (Z6 l))∧u9 l=x8 (MV l) k (l.length - k)) (l.length) ?_ (fun m g8 w12 hI=>?_)
 ·exact⟨0,Nat.zero_le _,rfl,rfl,hB.u,hb1.u,hb2.u,hb4,hbu,hbd,rfl⟩
 obtain⟨k,hk,hm,h45,hB,hb1,hb2,hb4,hbu,hbd,hU⟩:=hI;refine zZ 45 _ h45 nu (zn6 ?_);refine zX rfl (fun c46=>?_) (fun c46=>?_)
 ·have hlt:k < l.length:=by omega
  refine J9 ?_;refine zW (rg [6,7,8,9] 49 15) (fun m g w'=>∃ (a:Nat),a≤k∧m=k - a∧g 49= .int .i64 a∧Bel w w'∧Blk w' b1 25 #[.slice A l.length c,.slice B fs.length d]∧Blk w' b2 36 #[.int .i64 0,.int .i64 0]∧Blk w' b4 89 #[.slice (some ⟨bu,0,none⟩) l.length l.length,.slice (some ⟨bd,0,none⟩) l.length l.length]∧Blk w' bu 157 (rU l.length (upN l))∧Blk w' bd 157 (rU l.length (Z6 l))∧(∀ j,j < a→(gJ l j k).2.2=false)) (k) ?_ (fun m g11 w13 hI=>?_)
  ·exact⟨0,Nat.zero_le _,rfl,rfl,hB,hb1,hb2,hb4,hbu,hbd,fun j hj=>by omega⟩
  obtain⟨a,ha,hma,h49,hB,hb1,hb2,hb4,hbu,hbd,hM⟩:=hI;refine zZ 49 _ h49 nu (zn6 ?_);refine zX rfl (fun c50=>?_) (fun c50=>?_)
  ·refine QJ ?_;refine zV fn106 (meet_any l bu bd a k _ (hTab.mono hB) ⟨hbu,hbd⟩ hv oM oM hlt) rfl (fun e' w14 hr=>?_);obtain⟨rfl,s10⟩:=hr;replace s10:=sB s10;refine⟨_,rfl,?_⟩;refine wmT rfl (wl (j5 (v:= .int _ _) rfl rfl) (wl (j5 (v:= .bool _) rfl rfl) (wl (j5 (v:= .bool _) rfl rfl) (yv ?_))));refine vK rfl (fun c60=>?_) (fun c60=>?_)
   ·have hun:=NY (show a < k by omega) c60;have hfin:=W0 (fs:=fs) oM ht0 (hU.trans (qQ oM hun dE));refine zn3 ?_;refine zV Z5 (kw _ _ _) rfl (fun e' w15 hr=>?_);obtain⟨rfl,s11⟩:=hr;replace s11:=sB s11;refine⟨_,rfl,?_⟩;refine zk hb2.u rfl rfl x5 rfl zQ (fun w16 hq s12=>?_);replace hb2:=hq;refine yZ ?_;refine x7 (.inl rfl) rfl (zy U36 rfl rfl hb2.range0 x5) ?_;exact⟨qK hfin,hB.u⟩
   refine zn7 ?_;refine xv (k - (a + 1)) oM agA ?_;replace hB:=hB.tr0 s10;replace hb1:=hb1.tr0 s10;replace hb2:=hb2.tr0 s10;replace hbu:=hbu.tr0 s10;replace hbd:=hbd.tr0 s10;replace hb4:=hb4.tr0 s10
   exact⟨a + 1,by omega,rfl,rfl,hB,hb1,hb2,hb4,hbu,hbd,fun j hj=>by
     by_cases e:j=a
     · subst e;exact c60
     · exact hM j oM⟩
  have hun:MV l k=0:=Gw (fun j hj=>hM j oM);refine yv ?_;refine xv (l.length - (k + 1)) oM agA ?_;exact⟨k + 1,by omega,rfl,rfl,hB,hb1,hb2,hb4,hbu,hbd,hU.trans (yw hlt hun)⟩
 have hR:=Lib.hid (hf_rest (fs:=fs) oM ht0 (hU.trans (vk oM)));refine zn7 ?_;refine wl_mm (fun b65 w17 hb65 s13 hr=>?_);have:=nLL hb1.lt hr;have:=nLL hb2.lt hr;have lo65:=nLT (Bel.size hB) hr;refine wl (Y0 (v:= .map _) rfl) (yZ ?_);refine zW (rg [11,12,13,14] 69 52) (fun m g w'=>∃ (k:Nat) (mp:List (ByteArray×Value)),k≤fs.length∧m=fs.length - k∧g 69= .int .i64 k∧Bel w w'∧Blk w' b1 25 #[.slice A l.length c,.slice B fs.length d]∧Blk w' b2 36 #[.int .i64 0,.int .i64 0]∧MapS w' b65 mp∧(∀ s,lkB mp s=jX ((fs.take k).map (·.name)) s)∧qZ l fs=x8 (uX l.length fs) k (fs.length - k)) (fs.length) ?_ (fun m g20 w18 hI=>?_)
 ·exact⟨0,[],Nat.zero_le _,rfl,rfl,hB.u,hb1.u,hb2.u,hb65,fun s=>rfl,hR.out⟩
 obtain⟨k,mp,hk,hm,h69,hB,hb1,hb2,hb65,hmp,hR'⟩:=hI;refine zZ 69 _ h69 nu (zn6 ?_);refine zX rfl (fun c70=>?_) (fun c70=>?_)
 ·have hlt:k < fs.length:=by omega
  obtain⟨tb,to,rfl,htb,htr⟩:=hF.at_ hB hlt;refine zn8 ?_;refine wl (zY U68 rfl rfl htr H9) ?_;refine qq (cs:=#[.string ⟨#[]⟩,.int .i64 0,.int .i64 0]) ze68 rfl (fun b12 w19 hb12 s14 hr=>?_);have:=nLL hb1.lt hr;have:=nLL hb2.lt hr;have:=nLL hb65.lt hr;have lo12:=nLT (Bel.size hB) hr;refine waI rfl ?_;refine zk hb12 rfl rfl H9 rfl zQ (fun w20 hq s15=>?_);replace hb12:=hq;refine zn7 ?_;refine zV Oz (YV _ _) rfl (fun e' w21 hr=>?_);obtain⟨rfl,rfl⟩:=hr;refine⟨_,rfl,?_⟩;refine zn3 ?_;refine vK rfl (fun c77=>?_) (fun c77=>?_)
  ·have hty:=ft10 l.length fs k hlt (by simpa using c77);refine zn3 ?_;refine zV Z5 (kw _ _ _) rfl (fun e' w22 hr=>?_);obtain⟨rfl,s16⟩:=hr;replace s16:=sB s16;refine⟨_,rfl,?_⟩;refine zk hb2.u rfl rfl x5 rfl zQ (fun w23 hq s17=>?_);replace hb2:=hq;refine zn9 ?_;refine x7 (.inl rfl) rfl (zy U36 rfl rfl hb2.range0 x5) ?_;exact⟨qK (hR'.trans (qQ (c:=10) oM hty dE)),hB.u⟩
  have hnm:xj (fs[k]'hlt).name=true:=by simpa using c77
  refine zn5 ?_;refine wl (yq (v:= .map _) rfl) (zn2 ?_);replace hb65:=(hb65.tr0 s14).tr1 s15 oM;refine wl (r_lkS hb65 U94 U9 Pv rfl rfl) (wmT rfl (wl (j5 (v:=_) rfl rfl) (wl (j5 (v:= .bool _) rfl rfl) (wl (Y0 (v:=_) rfl) (zn8 ?_)))));refine vK rfl (fun c87=>?_) (fun c87=>?_)
  ·have hty:=ft7 l.length fs k hlt hnm ((hmp _).symm.trans c87);refine zn3 ?_;refine zV Z5 (kw _ _ _) rfl (fun e' w24 hr=>?_);obtain⟨rfl,s18⟩:=hr;replace s18:=sB s18;refine⟨_,rfl,?_⟩;refine zk hb2.u rfl rfl x5 rfl zQ (fun w25 hq s19=>?_);replace hb2:=hq;refine zn9 ?_;refine x7 (.inl rfl) rfl (zy U36 rfl rfl hb2.range0 x5) ?_;exact⟨qK (hR'.trans (qQ (c:=7) oM hty dE)),hB.u⟩
  have hsn:jX ((fs.take k).map (·.name)) (fs[k]'hlt).name=false:=by rw [← hmp];exact c87
  have hmp':∀ s,lkB (MW mp (fs[k]'hlt).name (.int .i64 k)) s=jX ((fs.take (k + 1)).map (·.name)) s:=fun s=>by
    rw [uw _ _ _ c87,Zv fs hlt,List.map_append,List.map_cons,List.map_nil,X0,← hmp];simp [lkB]
  refine zn4 ?_;refine wl (yq (v:= .map _) rfl) (zn3 ?_);refine WJ (v:= .int _ _) hb65 U94 U9 rfl rfl rfl (fun w26 hq s20=>?_);replace hb65:=hq;refine zn3 ?_;replace hB:=((hB.tr0 s14).tr1 s15 lo12).tr1 s20 lo65;replace hb2:=((hb2.tr0 s14).tr1 s15 oM).tr1 s20 oM;refine xJ (rg [] 94 24) 117 (.bool (decide ((fs[k]'hlt).of < 0∨(l.length:Int)≤(fs[k]'hlt).of∨(fs[k]'hlt).val < 0∨(l.length:Int)≤(fs[k]'hlt).val))) nu ?_ (fun gq=>?_)
  ·refine zn5 ?_;refine zw 97 rfl (fun g97=>?_) (fun g97=>?_)
   ·refine zn20 ?_;refine zJ (e_R ⟨rfl,agA,?_⟩);exact clA
   refine ZX ?_;refine zw 105 rfl (fun g105=>?_) (fun g105=>?_)
   ·refine yZ ?_;refine zJ (e_R ⟨rfl,agA,?_⟩);exact clA
   refine zn8 ?_;refine zw 110 rfl (fun g110=>?_) (fun g110=>?_)
   ·refine zn7 ?_;refine zJ (e_R ⟨rfl,agA,?_⟩);exact clA
   refine ky ?_;refine zJ (e_R ⟨rfl,agA,?_⟩);exact clA
  refine e_S ?_;refine zX rfl (fun c117=>?_) (fun c117=>?_)
  ·have hty:=ft3 l.length fs k hlt hnm hsn c117;refine zn3 ?_;refine zV Z5 (kw _ _ _) rfl (fun e' w27 hr=>?_);obtain⟨rfl,s21⟩:=hr;replace s21:=sB s21;refine⟨_,rfl,?_⟩;refine zk hb2.u rfl rfl x5 rfl zQ (fun w28 hq s22=>?_);replace hb2:=hq;refine zn8 ?_;refine x7 (.inl rfl) rfl (zy U36 rfl rfl hb2.range0 x5) ?_;exact⟨qK (hR'.trans (qQ (c:=3) oM hty dE)),hB.u⟩
  have hty:=ft0 l.length fs k hlt hnm hsn c117;refine zn7 ?_;refine xv (fs.length - (k + 1)) oM agA ?_;exact⟨k + 1,MW mp (fs[k]'hlt).name (.int .i64 k),by omega,rfl,rfl,hB,hb1.u,hb2,hb65,hmp',hR'.trans (yw hlt hty)⟩
 refine zn7 ?_;refine wl (uW (vs:=#[]) (cs:=#[.int .i64 0,.int .i64 0]) (by simp) kR) ?_;refine zk hb2 rfl rfl x5 rfl zQ (fun w29 hq s23=>?_);replace hb2:=hq;refine zn3 ?_;refine x7 (.inl rfl) rfl (zy U36 rfl rfl hb2.range0 x5) ?_;exact⟨qK (hR'.trans (vk oM)),hB.u⟩
end Go.Proofs.YtbcpgfnfiekbiaaGreatDoor
namespace Go.Proofs.YtbcpgfnfiekbiaaGreatDoor
open Go.RowKit
theorem meet_yes {l:List Ty} (h60:l.length≤60) {a b m c:Nat} (hm:m < l.length) (hcm:ux l a b m=true) (hl:∀ i,i < m→ux l a b i=false) (hc:c < l.length) (hcc:ux l a b c=true) (hs:sub l c m=false):(gJ l a b).2.2=true:=by
  have h0:vv l a b≠0:=fun h=>by
    have:=mask_eq_zero.1 h m hm;rw [hcm] at this;cases this
  have hz:=I5 h60 h0;have he:Lib.ctz 64 (vv l a b)=m:=by
    have h1:¬Lib.ctz 64 (vv l a b) < m:=fun h=>by
      have:=hl _ h;rw [show ux l a b (Lib.ctz 64 (vv l a b))=true from hz.2.1] at this;cases this
    have h2:¬m < Lib.ctz 64 (vv l a b):=fun h=>by
      have:=hz.2.2 m h;rw [hcm] at this;cases this
    omega
  have hd:Z6 l (Lib.ctz 64 (vv l a b))≠vv l a b:=fun h=>by
    rw [he] at h;have:=mask_inj.1 h c hc;rw [hs,hcc] at this;cases this
  simp only [gJ,if_neg h0,if_pos hd]
theorem meet_none {l:List Ty} {a b:Nat} (h:∀ i,i < l.length→ux l a b i=false):(gJ l a b).2.2=false:=by
  have h0:vv l a b=0:=mask_eq_zero.2 h;simp only [gJ,if_pos h0]
theorem meet_some {l:List Ty} (hv:VT l) (h60:l.length≤60) {a b m:Nat} (hm:m < l.length) (hcm:ux l a b m=true) (hl:∀ i,i < m→ux l a b i=false) (hs:∀ i,i < l.length→ux l a b i=true→sub l i m=true):(gJ l a b).2.2=false:=by
  have h0:vv l a b≠0:=fun h=>by
    have:=mask_eq_zero.1 h m hm;rw [hcm] at this;cases this
  have hz:=I5 h60 h0;have he:Lib.ctz 64 (vv l a b)=m:=by
    have h1:¬Lib.ctz 64 (vv l a b) < m:=fun h=>by
      have:=hl _ h;rw [show ux l a b (Lib.ctz 64 (vv l a b))=true from hz.2.1] at this;cases this
    have h2:¬m < Lib.ctz 64 (vv l a b):=fun h=>by
      have:=hz.2.2 m h;rw [hcm] at this;cases this
    omega
  have hd:Z6 l (Lib.ctz 64 (vv l a b))=vv l a b:=by
    rw [he];refine jw (fun i hi=>?_);cases h1:sub l i m with
    | true=>
      simp only [ux,Bool.and_eq_true] at hcm;simp [ux,Iy hv h1 hcm.1,Iy hv h1 hcm.2]
    | false=>
      cases h2:ux l a b i with
      | false=>rfl
      | true=>rw [hs i hi h2] at h1;cases h1
  simp only [gJ,if_neg h0,hd,ne_eq,not_true_eq_false,if_false]
inductive MS (l:List Ty) (a b c:Nat) (m:Int):Prop
  | none (h:m= -1) (h0:∀ i,i < c→ux l a b i=false)
  | some (n:Nat) (h:m=n) (hn:n < c) (h1:ux l a b n=true) (h2:∀ i,i < n→ux l a b i=false) (h3:∀ i,i < c→ux l a b i=true→sub l i n=true)
theorem MS.start (l:List Ty) (a b:Nat):MS l a b 0 (-1):= .none rfl (fun i h=>by omega)
theorem MS.skip {l:List Ty} {a b c:Nat} {m:Int} (h:MS l a b c m) (hc:ux l a b c=false):MS l a b (c + 1) m:=by
  cases h with
  | none h h0=>exact .none h (fun i hi=>by
      by_cases e:i=c
      · subst e;exact hc
      · exact h0 i oM)
  | some n h hn h1 h2 h3=>exact .some n h oM h1 h2 (fun i hi hci=>by
      by_cases e:i=c
      · subst e;rw [hc] at hci;cases hci
      · exact h3 i oM hci)
theorem MS.first {l:List Ty} (hv:VT l) {a b c:Nat} {m:Int} (h:MS l a b c m) (hm:m < 0) (hc:ux l a b c=true):MS l a b (c + 1) c:=by
  cases h with
  | none h h0=>exact .some c rfl oM hc h0 (fun i hi hci=>by
      by_cases e:i=c
      · subst e;exact Y4 hv _
      · rw [h0 i oM] at hci;cases hci)
  | some n h=>omega
theorem MS.pos {l:List Ty} {a b c:Nat} {m:Int} (h:MS l a b c m) (hm:¬m < 0):∃ n:Nat,m=n∧n < c∧ux l a b n=true∧(∀ i,i < n→ux l a b i=false)∧∀ i,i < c→ux l a b i=true→sub l i n=true:=by
  cases h with
  | none h=>omega
  | some n h hn h1 h2 h3=>exact⟨n,h,hn,h1,h2,h3⟩
theorem MS.end_ {l:List Ty} (hv:VT l) (h60:l.length≤60) {a b:Nat} {m:Int} (h:MS l a b l.length m):(gJ l a b).2.2=false:=by
  cases h with
  | none h h0=>exact meet_none h0
  | some n h hn h1 h2 h3=>exact meet_some hv h60 hn h1 h2 h3
def B6 (n:Nat) (r:Nat→Nat) (k i:Nat):Value:=if i < k then .slice (some ⟨r i,0,none⟩) n n else .slice none 0 0
def T9 (l:List Ty):Int:=if (u9 l).1=0 then -1 else (u9 l).2
theorem NW {l:List Ty} {k:Int} (h:u9 l=(16,k)):T9 l=k:=by simp [T9,h]
theorem Gv {l:List Ty} (h:u9 l=(0,0)):T9 l= -1:=by simp [T9,h]
theorem oy {a b:Int} (h:a=b):Ending.returned (.int .i64 b)= .returned (.int .i64 a):=by rw [h]
theorem fn66:zK Tryz.prog 66=true:=by kernel_rfl
theorem in106:(Tryz.prog.info? 106).map (fun i=>(i.zero,i.size,i.bytes))=some (some (.slice none 0 0),1,24):=by kernel_rfl
theorem in4_Unmet:(Tryz.prog.info? 4).map (fun i=>(i.zero,i.size,i.bytes))=some (some (.bool false),1,1):=by kernel_rfl
theorem sz106:(Tryz.prog.info? 106).map (·.size)=some 1:=by kernel_rfl
theorem sz4_Unmet:(Tryz.prog.info? 4).map (·.size)=some 1:=by kernel_rfl
theorem H0 (A:Option Addr) (c:Nat) (l:List Ty) (w:World) (hT:TypesIn w A l) (hv:VT l) (h60:l.length≤60):Calls Tryz.prog 62 #[.slice A l.length c] w fun e w'=>e= .returned (.int .i64 (T9 l))∧Bel w w':=by
 refine enT Tryz.func62 Tryz.ntmps62 rfl rfl fun hB=>?_;refine QJ ?_;refine gv (m:=l.length) Tryz.underlying161 in106 rfl rfl rfl oM oM (fun b14 w1 hb14 s1 hr=>?_);have lo14:=nLT (Bel.size hB) hr;refine vq ?_;refine zW (rg [5,6] 16 24) (fun m g w'=>∃ (k:Nat) (r:Nat→Nat),k≤l.length∧m=l.length - k∧g 16= .int .i64 k∧Bel w w'∧Blk w' b14 106 (row l.length (fun i=>B6 l.length r k i))∧(∀ i,i < k→Blk w' (r i) 4 (row l.length (fun j=> .bool (sub l i j))))) (l.length) ?_ (fun m g4 w2 hI=>?_)
 ·refine⟨0,fun _=>0,Nat.zero_le _,rfl,rfl,hB.u,?_,fun i hi=>by omega⟩;rw [yz (g':=fun _=> .slice none 0 0) (fun j _=>by simp [B6])];exact hb14
 obtain⟨k,r,hk,hm,h16,hB,hb14,hrw⟩:=hI;refine zZ 16 _ h16 nu (zn6 ?_);refine zX rfl (fun c17=>?_) (fun c17=>?_)
 ·have hlt:k < l.length:=by omega
  refine QJ ?_;refine gv (m:=l.length) QX in4_Unmet rfl rfl rfl oM oM (fun b22 w3 hb22 s2 hr=>?_);have:=nLL hb14.lt hr;have or_hrw_b22:=(fun(i:Nat) (hi:i < k)=>nLL (hrw i hi).lt hr)
  have lo22:=nLT (Bel.size hB) hr;replace hrw:=fun i hi=>(hrw i hi).tr0 s2
  refine zn1 ?_;replace hb14:=hb14.tr0 s2;refine xz (v:= .slice _ _ _) hb14 rfl rfl sz106 (by rw [row_size];omega) rfl jQ (fun w4 hq s3=>?_);replace hrw:=fun i hi=>(hrw i hi).tr1 s3 (by first | (have:=or_hrw_b22 i hi;omega) | exact fun h=>absurd (jW (h ▸ hrw i hi) hb14) dE)
  replace hb14:=hq
  rw [yz (g':=fun i=>B6 l.length (fun i=>if i=k then b22 else r i) (k + 1) i) (fun j _=>by
    by_cases e:j=k
    · subst e;simp [B6]
    · have e1:(j < k + 1) ↔ (j < k):=by omega
      simp [B6,e,e1])] at hb14
  have e14:B6 l.length (fun i=>if i=k then b22 else r i) (k + 1) k= .slice (some ⟨b22,0,none⟩) l.length l.length:=by simp [B6]
  refine zn9 ?_;refine zW (rg [6] 25 14) (fun m g w'=>∃ (j:Nat),j≤l.length∧m=l.length - j∧g 25= .int .i64 j∧Bel w w'∧Blk w' b14 106 (row l.length (fun i=>B6 l.length (fun i=>if i=k then b22 else r i) (k + 1) i))∧Blk w' b22 4 (row l.length (fun x=> .bool (if x < j then sub l k x else false)))∧(∀ i,i < k→Blk w' (r i) 4 (row l.length (fun j=> .bool (sub l i j))))) (l.length) ?_ (fun m g8 w5 hI=>?_)
  ·refine⟨0,Nat.zero_le _,rfl,rfl,hB.u,hb14,?_,hrw⟩;replace hb22:=hb22.tr1 s3 oM;rw [yz (g':=fun _=> .bool false) (fun j _=>by simp)];exact hb22
  obtain⟨j,hj,hmj,h25,hB,hb14,hb22,hrw⟩:=hI;refine zZ 25 _ h25 nu (zn6 ?_);refine zX rfl (fun c26=>?_) (fun c26=>?_)
  ·have hlj:j < l.length:=by omega
   refine yv ?_;refine kz [] [10] [0,1,2,3,4,5,6,7,8,9,10] rfl (fun w6 s4=>?_);replace hrw:=fun i hi=>(hrw i hi).tr0 s4
   refine zn3 ?_;replace hb14:=hb14.tr0 s4;refine hl1 (v:= .slice (some ⟨b22,0,none⟩) l.length l.length) rfl QX rfl rfl (by rw [← e14];exact hb14.cell (yk hlt)) (zn4 ?_);refine hcl (fun v wv=>v= .bool (sub l k j)) rfl fn66 (Cy _ _ _ _ _ w6 (hT.mono hB.u) hv h60 hlt hlj) rfl (fun e' w2 hr=>?_) (fun v36 w7 s5 d36=>?_)
   ·obtain⟨rfl,s6⟩:=hr;exact⟨_,rfl,sB s6,rfl⟩
   replace hrw:=fun i hi=>(hrw i hi).tr0 s5
   have e36:=d36;subst e36;refine zn1 ?_;refine h1 rfl ?_;replace hb22:=hb22.tr0 (s4.trans s5);refine xz (v:= .bool _) hb22 rfl rfl sz4_Unmet (by rw [row_size];omega) rfl jQ (fun w8 hq s7=>?_);have hsH10:=s7;replace hb14:=(hb14.tr0 s5).tr1 s7 oM;replace hrw:=fun i hi=>(hrw i hi).tr1 s7 (by first | (have:=or_hrw_b22 i hi;omega) | exact fun h=>absurd (jW (h ▸ hrw i hi) hb14) dE)
   replace hb22:=hq
   rw [yz (g':=fun x=> .bool (if x < j + 1 then sub l k x else false)) (fun x _=>by
     by_cases e:x=j
     · subst e;simp
     · have e1:(x < j + 1) ↔ (x < j):=by omega
       simp [e,e1])] at hb22
   refine zJ (V0 [] (zn7 ?_));refine xv (l.length - (j + 1)) oM agA ?_;exact⟨j + 1,by omega,rfl,rfl,hB.u,hb14,hb22,hrw⟩
  have hjl:j=l.length:=by omega
  rw [hjl,yz (g':=fun x=> .bool (sub l k x)) (fun x hx=>by simp [hx])] at hb22;replace hrw:∀ i,i < k + 1→Blk w5 (if i=k then b22 else r i) 4 (row l.length (fun j=> .bool (sub l i j))):=fun i hi=>by
    by_cases e:i=k
    · subst e;simp only [if_true];exact hb22
    · simp only [if_neg e];exact hrw i oM
  refine yv ?_;refine xv (l.length - (k + 1)) oM agA ?_;exact⟨k + 1,fun i=>if i=k then b22 else r i,by omega,rfl,rfl,hB,hb14,hrw⟩
 have hkl:k=l.length:=by omega
 rw [hkl,yz (g':=fun i=> .slice (some ⟨r i,0,none⟩) l.length l.length) (fun j hj=>by simp [B6,hj])] at hb14;rw [hkl] at hrw;refine ky ?_;refine zW (rg [2,7,8,9,10] 41 42) (fun m g w'=>∃ (k:Nat),k≤l.length∧m=l.length - k∧g 41= .int .i64 k∧w2=w'∧u9 l=x8 (MV l) k (l.length - k)) (l.length) ?_ (fun m g14 w9 hI=>?_)
 ·exact⟨0,Nat.zero_le _,rfl,rfl,rfl,rfl⟩
 obtain⟨k,hk2,hm,h41,rfl,hU⟩:=hI;refine zZ 41 _ h41 nu (zn6 ?_);refine zX rfl (fun c42=>?_) (fun c42=>?_)
 ·have hlt:k < l.length:=by omega
  refine J9 ?_;refine zW (rg [2,8,9,10] 45 37) (fun m g w'=>∃ (a:Nat),a≤k∧m=k - a∧g 45= .int .i64 a∧w2=w'∧(∀ j,j < a→(gJ l j k).2.2=false)) (k) ?_ (fun m g17 w10 hI=>?_)
  ·exact⟨0,Nat.zero_le _,rfl,rfl,rfl,fun j hj=>by omega⟩
  obtain⟨a,ha,hma,h45,rfl,hM⟩:=hI;refine zZ 45 _ h45 nu (zn6 ?_);refine zX rfl (fun c46=>?_) (fun c46=>?_)
  ·refine zn22 ?_;refine zW (rg [2,9,10] 49 32) (fun m g w'=>∃ (x:Nat) (m9:Int),x≤l.length∧m=l.length - x∧g 49= .int .i64 x∧g 9= .int .i64 m9∧w2=w'∧MS l a k x m9) (l.length) ?_ (fun m g21 w11 hI=>?_)
   ·exact⟨0,-1,Nat.zero_le _,rfl,rfl,rfl,rfl,MS.start l a k⟩
   obtain⟨x,m9,hx,hmx,h49,h9,rfl,hS⟩:=hI;refine zZ 49 _ h49 nu (zZ 9 _ h9 nu (zn6 ?_));refine zX rfl (fun c50=>?_) (fun c50=>?_)
   ·have hlx:x < l.length:=by omega
    refine vq ?_;refine xJ (rg [] 52 16) 67 (.bool (decide (ux l a k x=true))) nu ?_ (fun gq=>?_)
    ·refine zn4 ?_;refine wl (qV (v:= .slice _ _ _) QX rfl rfl (hb14.cell (yk hlx))) (zn2 ?_);refine wl (qV (v:= .bool _) U4 rfl rfl ((hrw x hlx).cell (yk oM))) (wl (yq (v:= .bool _) rfl) ?_);refine T7 59 rfl (fun g59=>?_) (fun g59=>?_)
     ·refine zn7 ?_;refine wl (qV (v:= .slice _ _ _) QX rfl rfl (hb14.cell (yk hlx))) (zn5 ?_);refine wl (qV (v:= .bool _) U4 rfl rfl ((hrw x hlx).cell (yk hlt))) (zn1 ?_);refine zJ (e_R ⟨rfl,agA,?_⟩);show Value.bool _=Value.bool _;exact congrArg Value.bool (by simp [ux,g59])
     refine zn8 ?_;refine zJ (e_R ⟨rfl,agA,?_⟩);show Value.bool _=Value.bool _;exact congrArg Value.bool (by simp [ux,g59])
    refine e_S ?_;refine zX rfl (fun c67=>?_) (fun c67=>?_)
    ·refine zn6 ?_;refine zX rfl (fun c69=>?_) (fun c69=>?_)
     ·have hS2:=hS.first hv c69 c67;refine yv ?_;refine xv (l.length - (x + 1)) oM agA ?_;exact⟨x + 1,_,by omega,rfl,rfl,rfl,rfl,hS2⟩
     obtain⟨mn,rfl,hmn,hq1,hq2,hq3⟩:=hS.pos c69;refine zn5 ?_;refine wl (qV (v:= .slice _ _ _) QX rfl rfl (hb14.cell (yk hlx))) (zn2 ?_);refine wl (qV (v:= .bool _) U4 rfl rfl ((hrw x hlx).cell (yk oM))) (zn3 ?_);refine vK rfl (fun c78=>?_) (fun c78=>?_)
     ·have hme:=meet_yes h60 (show mn < l.length by omega) hq1 hq2 hlx c67 (by simpa using c78);have hun:=NY (show a < k by omega) hme;have hfin:=NW (hU.trans (qQ oM hun dE));refine zn21 ?_;exact⟨oy hfin,hB⟩
     have hS2:MS l a k (x + 1) (mn:Int):= .some mn rfl oM hq1 hq2 (fun i hi hci=>by
       by_cases e:i=x
       · subst e;simpa using c78
       · exact hq3 i oM hci)
     refine zn7 ?_;refine xv (l.length - (x + 1)) oM agA ?_;exact⟨x + 1,_,by omega,rfl,rfl,rfl,rfl,hS2⟩
    have hS2:=hS.skip (by simpa using c67);refine zn7 ?_;refine xv (l.length - (x + 1)) oM agA ?_;exact⟨x + 1,_,by omega,rfl,rfl,rfl,rfl,hS2⟩
   have hxl:x=l.length:=by omega
   subst hxl;have hme:=hS.end_ hv h60;refine yv ?_;refine xv (k - (a + 1)) oM agA ?_
   exact⟨a + 1,by omega,rfl,rfl,rfl,fun j hj=>by
     by_cases e:j=a
     · subst e;exact hme
     · exact hM j oM⟩
  have hun:MV l k=0:=Gw (fun j hj=>hM j oM);refine yv ?_;refine xv (l.length - (k + 1)) oM agA ?_;exact⟨k + 1,by omega,rfl,rfl,rfl,hU.trans (yw hlt hun)⟩
 have hfin:=Gv (hU.trans (vk oM));refine yZ ?_;exact⟨oy hfin,hB⟩
end Go.Proofs.YtbcpgfnfiekbiaaGreatDoor
namespace Go.Proofs.YtbcpgfnfiekbiaaGreatDoor
open Go.RowKit
theorem fseen_yes {l:List Ft} {j k:Nat} {s:ByteArray} (hk:k < l.length) (hj:j < k) (h:(l[j]'oM).name=s):jX ((l.take k).map (·.name)) s=true:=by
  simp only [jX,List.any_eq_true,decide_eq_true_eq,List.mem_map];refine⟨_,⟨l[j]'oM,?_,rfl⟩,h⟩;rw [List.mem_take_iff_getElem];exact⟨j,by omega,rfl⟩
theorem I3 (f:Nat→Int):∀ (m i:Nat),x8 f i m=(0,0)∨∃ j:Nat,x8 f i m=(f j,(j:Int))∧f j≠0
  | 0,_=> .inl rfl
  | m + 1,i=>by
    unfold x8
    by_cases h:f i≠0
    · exact .inr ⟨i,by rw [if_pos h],h⟩
    · rw [if_neg h];exact I3 f m (i + 1)
theorem Jj (l:List Ty):u9 l=(0,0)∨∃ j:Nat,u9 l=(16,(j:Int)):=by
  rcases I3 (MV l) l.length 0 with h | ⟨j,h,hne⟩
  · exact .inl h
  · refine .inr ⟨j,?_⟩
    have h16:MV l j=16:=by
      unfold MV at hne ⊢
      split
      · rfl
      · rename_i hx;rw [if_neg hx] at hne;exact absurd rfl hne
    rw [← h16];exact h
theorem unmI_geq {l:List Ty} (h:0≤T9 l):u9 l=(16,T9 l):=by
  rcases Jj l with e | ⟨j,e⟩
  · rw [Gv e] at h;omega
  · rw [NW e,e]
theorem unmI_lss {l:List Ty} (h:¬0≤T9 l):u9 l=(0,0):=by
  rcases Jj l with e | ⟨j,e⟩
  · exact e
  · rw [NW e] at h;omega
theorem YY:zK Tryz.prog 30=true:=by kernel_rfl
theorem fn61:zK Tryz.prog 61=true:=by kernel_rfl
theorem fn62:zK Tryz.prog 62=true:=by kernel_rfl
theorem Pz (A B:Option Addr) (c d:Nat) (l:List Ty) (fs:List Ft) (w:World) (hc:l.length≤c) (hd:fs.length≤d) (hT:TypesIn w A l) (hF:FeatsIn w B fs):Calls Tryz.prog 29 #[.agg #[.slice A l.length c,.slice B fs.length d]] w fun e w'=>e= .returned (flV (qZ l fs))∧Bel w w':=by
 refine enT Tryz.func29 Tryz.ntmps29 rfl rfl fun hB=>?_;refine zn2 ?_;refine x6 (v:= .agg #[_,_]) (cs:=#[_,_]) rfl rfl (fun b1 w1 hb1 s1 hr=>?_);refine qq (cs:=#[.int .i64 0,.int .i64 0]) X4 rfl (fun b2 w2 hb2 s2 hr=>?_);have lo2:=nLT (Bel.size hB.u) hr;refine vq ?_;refine zX rfl (fun c12=>?_) (fun c12=>?_)
 ·refine zn2 ?_;refine wl (xY (v0:= .int _ _) (v1:= .int _ _) (fun v0 v1=>#[v0,v1]) rfl rfl kR) ?_;refine zk hb2 rfl rfl x5 rfl zQ (fun w3 hq s3=>?_);replace hb2:=hq;refine zn4 ?_;refine x7 (.inl rfl) rfl (zy U36 rfl rfl hb2.range0 x5) ?_;exact⟨qK (hf_size (.inr (.inr oM))),hB.u⟩
 refine zn7 ?_;refine zV fn61 (E0 _ _ _ _ hc (hT.mono hB.u)) rfl (fun e' w4 hr=>?_);obtain⟨rfl,s4⟩:=hr;replace s4:=sB s4;refine⟨_,rfl,?_⟩;refine xV (cs:=#[.int .i64 0,.int .i64 0]) X4 rfl (fun _=>rfl) (fun _=>rfl) x5 rfl zQ (fun b3 w6 hb3 s5 hr=>?_);refine zn9 ?_;refine zX rfl (fun c19=>?_) (fun c19=>?_)
 ·refine zn3 ?_;refine zk hb2.u rfl rfl x5 rfl zQ (fun w7 hq s6=>?_);replace hb2:=hq;refine zn4 ?_;refine x7 (.inl rfl) rfl (zy U36 rfl rfl hb2.range0 x5) ?_;exact⟨qK (W1 oM oM),hB.u⟩
 have ht0:(xx l).1=0:=by omega
 have hv:=vt_of ht0;have htl:=Iq ht0;refine zn7 ?_;refine zV fn62 (H0 _ _ _ _ (hT.mono hB.u) hv oM) rfl (fun e' w8 hr=>?_);obtain⟨rfl,s7⟩:=hr;replace s7:=sB s7;refine⟨_,rfl,?_⟩;refine zn9 ?_;refine zX rfl (fun c25=>?_) (fun c25=>?_)
 ·have hfin:=W0 (fs:=fs) oM ht0 (unmI_geq c25);refine zn3 ?_;refine wl (xY (v0:= .int _ _) (v1:= .int _ _) (fun v0 v1=>#[v0,v1]) rfl rfl kR) ?_;refine zk hb2.u rfl rfl x5 rfl zQ (fun w9 hq s8=>?_);replace hb2:=hq;refine zn4 ?_;refine x7 (.inl rfl) rfl (zy U36 rfl rfl hb2.range0 x5) ?_;exact⟨qK hfin,hB.u⟩
 have hR:=Lib.hid (hf_rest (fs:=fs) oM ht0 (unmI_lss c25));refine yZ ?_;refine zW (rg [5,6,8] 31 55) (fun m g w'=>∃ (k:Nat),k≤fs.length∧m=fs.length - k∧g 31= .int .i64 k∧Bel w w'∧Blk w' b1 25 #[.slice A l.length c,.slice B fs.length d]∧Blk w' b2 36 #[.int .i64 0,.int .i64 0]∧qZ l fs=x8 (uX l.length fs) k (fs.length - k)) (fs.length) ?_ (fun m g10 w10 hI=>?_)
 ·exact⟨0,Nat.zero_le _,rfl,rfl,hB.u,hb1.u,hb2.u,hR.out⟩
 obtain⟨k,hk,hm,h31,hB,hb1,hb2,hR'⟩:=hI;refine zZ 31 _ h31 nu (zn6 ?_);refine zX rfl (fun c32=>?_) (fun c32=>?_)
 ·have hlt:k < fs.length:=by omega
  obtain⟨tb,to,rfl,htb,htr⟩:=hF.at_ hB hlt;refine zn8 ?_;refine wl (zY U68 rfl rfl htr H9) ?_;refine qq (cs:=#[.string ⟨#[]⟩,.int .i64 0,.int .i64 0]) ze68 rfl (fun b6 w11 hb6 s9 hr=>?_);have:=nLL hb1.lt hr;have:=nLL hb2.lt hr;have lo6:=nLT (Bel.size hB) hr;refine waI rfl ?_;refine zk hb6 rfl rfl H9 rfl zQ (fun w12 hq s10=>?_);replace hb6:=hq;refine zn7 ?_;refine zV YY (V9 _ _) rfl (fun e' w13 hr=>?_);obtain⟨rfl,s11⟩:=hr;replace s11:=sB s11;refine⟨_,rfl,?_⟩;refine zn3 ?_;refine vK rfl (fun c39=>?_) (fun c39=>?_)
  ·have hty:=ft10 l.length fs k hlt (by simpa using c39);refine zn3 ?_;refine wl (xY (v0:= .int _ _) (v1:= .int _ _) (fun v0 v1=>#[v0,v1]) rfl rfl kR) ?_;refine zk hb2.u rfl rfl x5 rfl zQ (fun w14 hq s12=>?_);replace hb2:=hq;refine zn9 ?_;refine x7 (.inl rfl) rfl (zy U36 rfl rfl hb2.range0 x5) ?_;exact⟨qK (hR'.trans (qQ (c:=10) oM hty dE)),hB.u⟩
  have hnm:xj (fs[k]'hlt).name=true:=by simpa using c39
  refine zn8 ?_;refine wl (RW (h:=k) U23 H9 rfl rfl oM) (zn5 ?_);refine zW (rg [8] 47 12) (fun m g w'=>∃ (j:Nat),j≤k∧m=k - j∧g 47= .int .i64 j∧Bel w w'∧Blk w' b1 25 #[.slice A l.length c,.slice (some ⟨tb,to,none⟩) fs.length d]∧Blk w' b2 36 #[.int .i64 0,.int .i64 0]∧Blk w' b6 68 #[.string (fs[k]'hlt).name,.int .i64 (fs[k]'hlt).of,.int .i64 (fs[k]'hlt).val]∧jX ((fs.take j).map (·.name)) (fs[k]'hlt).name=false) (k) ?_ (fun m g15 w15 hI=>?_)
  ·exact⟨0,Nat.zero_le _,rfl,rfl,hB.u,hb1.u,hb2.u,hb6.u,rfl⟩
  obtain⟨j,hj,hmj,h47,hB,hb1,hb2,hb6,hse⟩:=hI;refine zZ 47 _ h47 nu (zn6 ?_);refine zX rfl (fun c48=>?_) (fun c48=>?_)
  ·have hjt:j < fs.length:=by omega
   obtain⟨ub,uo,he,hub,hur⟩:=hF.at_ hB hjt;cases he;refine zn7 ?_;refine wl (zY U68 rfl rfl hur H9) ?_;refine xV (cs:=#[.string ⟨#[]⟩,.int .i64 0,.int .i64 0]) ze68 rfl (fun _=>rfl) (fun _=>rfl) H9 rfl zQ (fun b8 w17 hb8 s13 hr=>?_);refine vq ?_;refine zX rfl (fun c55=>?_) (fun c55=>?_)
   ·have hty:=ft7 l.length fs k hlt hnm (fseen_yes hlt oM c55);refine zn3 ?_;refine wl (xY (v0:= .int _ _) (v1:= .int _ _) (fun v0 v1=>#[v0,v1]) rfl rfl kR) ?_;refine zk hb2.u rfl rfl x5 rfl zQ (fun w18 hq s14=>?_);replace hb2:=hq;refine ky ?_;refine x7 (.inl rfl) rfl (zy U36 rfl rfl hb2.range0 x5) ?_;exact⟨qK (hR'.trans (qQ (c:=7) oM hty dE)),hB.u⟩
   have hse':jX ((fs.take (j + 1)).map (·.name)) (fs[k]'hlt).name=false:=by rw [Zv fs hjt,List.map_append,List.map_cons,List.map_nil,X0,hse];simp [c55]
   refine zn7 ?_;refine xv (k - (j + 1)) oM agA ?_;exact⟨j + 1,by omega,rfl,rfl,hB.u,hb1.u,hb2.u,hb6.u,hse'⟩
  have hsn:jX ((fs.take k).map (·.name)) (fs[k]'hlt).name=false:=by
    have e:k=j:=by omega
    subst e;exact hse
  refine zn6 ?_;refine xJ (rg [] 59 24) 82 (.bool (decide ((fs[k]'hlt).of < 0∨(l.length:Int)≤(fs[k]'hlt).of∨(fs[k]'hlt).val < 0∨(l.length:Int)≤(fs[k]'hlt).val))) nu ?_ (fun gq=>?_)
  ·refine zn5 ?_;refine zw 62 rfl (fun g62=>?_) (fun g62=>?_)
   ·refine zn20 ?_;refine zJ (e_R ⟨rfl,agA,?_⟩);exact clA
   refine ZX ?_;refine zw 70 rfl (fun g70=>?_) (fun g70=>?_)
   ·refine yZ ?_;refine zJ (e_R ⟨rfl,agA,?_⟩);exact clA
   refine zn8 ?_;refine zw 75 rfl (fun g75=>?_) (fun g75=>?_)
   ·refine zn7 ?_;refine zJ (e_R ⟨rfl,agA,?_⟩);exact clA
   refine ky ?_;refine zJ (e_R ⟨rfl,agA,?_⟩);exact clA
  refine e_S ?_;refine zX rfl (fun c82=>?_) (fun c82=>?_)
  ·have hty:=ft3 l.length fs k hlt hnm hsn c82;refine zn3 ?_;refine wl (xY (v0:= .int _ _) (v1:= .int _ _) (fun v0 v1=>#[v0,v1]) rfl rfl kR) ?_;refine zk hb2 rfl rfl x5 rfl zQ (fun w19 hq s15=>?_);replace hb2:=hq;refine zn8 ?_;refine x7 (.inl rfl) rfl (zy U36 rfl rfl hb2.range0 x5) ?_;exact⟨qK (hR'.trans (qQ (c:=3) oM hty dE)),hB.u⟩
  have hty:=ft0 l.length fs k hlt hnm hsn c82;refine zn7 ?_;refine xv (fs.length - (k + 1)) oM agA ?_;exact⟨k + 1,by omega,rfl,rfl,hB,hb1,hb2,hR'.trans (yw hlt hty)⟩
 refine zn7 ?_;refine wl (uW (vs:=#[]) (cs:=#[.int .i64 0,.int .i64 0]) (by simp) kR) ?_;refine zk hb2 rfl rfl x5 rfl zQ (fun w20 hq s16=>?_);replace hb2:=hq;refine zn3 ?_;refine x7 (.inl rfl) rfl (zy U36 rfl rfl hb2.range0 x5) ?_;exact⟨qK (hR'.trans (vk oM)),hB.u⟩
end Go.Proofs.YtbcpgfnfiekbiaaGreatDoor
namespace Go.Proofs.YtbcpgfnfiekbiaaGreatDoor
open Go.RowKit
def capB (l:List Ty) (a b c:Nat):Bool:=sub l a c && sub l b c
def joinB (l:List Ty) (a b c:Nat):Bool:=capB l a b c && (List.range l.length).all (fun j=>!(!(decide (j=c)) && sub l j c && capB l a b j))
def restN (l:List Ty) (a b k:Nat):Nat:=jZ (fun i=>capB l a b i && decide (k≤i)) l.length
structure RestAt (l:List Ty) (a b k i:Nat):Prop where
  lt:i < l.length
  le:k≤i
  cap:capB l a b i=true
  gap:∀ j,k≤j→j < i→joinB l a b j=false
  next:restN l a b k &&& (restN l a b k - 1)=restN l a b (i + 1)
theorem meet_is {l:List Ty} (hv:VT l) (h60:l.length≤60) {a b m:Nat} (hm:m < l.length) (hcm:ux l a b m=true) (hs:∀ i,i < l.length→ux l a b i=true→sub l i m=true):gJ l a b=(m,true,false):=by
  have h0:vv l a b≠0:=fun h=>by
    have:=mask_eq_zero.1 h m hm;rw [hcm] at this;cases this
  have hz:=I5 h60 h0;have he:Lib.ctz 64 (vv l a b)=m:=by
    have h1:¬m < Lib.ctz 64 (vv l a b):=fun h=>by
      have:=hz.2.2 m h;rw [hcm] at this;cases this
    have h2:=JJ hv (hs _ hz.1 hz.2.1);exact Nat.le_antisymm (Nat.le_of_not_lt h1) h2
  have hd:Z6 l (Lib.ctz 64 (vv l a b))=vv l a b:=by
    rw [he];refine jw (fun i hi=>?_);cases h1:sub l i m with
    | true=>
      simp only [ux,Bool.and_eq_true] at hcm;simp [ux,Iy hv h1 hcm.1,Iy hv h1 hcm.2]
    | false=>
      cases h2:ux l a b i with
      | false=>rfl
      | true=>rw [hs i hi h2] at h1;cases h1
  unfold gJ;rw [if_neg h0,if_neg (fun h=>h hd),he]
theorem meet_comm (l:List Ty) (a b:Nat):gJ l b a=gJ l a b:=by
  have e:vv l b a=vv l a b:=jw (fun i _=>Bool.and_comm _ _);unfold gJ;rw [e]
structure Sound (l:List Ty):Prop where
  vt:VT l
  pos:0 < l.length
  le:l.length≤60
  all:∀ a b i,a < l.length→b < l.length→i < l.length→ux l a b i=true→(gJ l a b).2.1=true
theorem ZV {l:List Ty} {fs:List Ft} (h:(qZ l fs).1=0):Sound l:=by
  unfold qZ at h;by_cases h4:40 < fs.length
  · rw [if_pos h4] at h;cases h
  rw [if_neg h4] at h;by_cases ht:(xx l).1≠0
  · rw [if_pos ht] at h;exact absurd h ht
  rw [if_neg ht] at h;have ht0:=Decidable.not_not.1 ht;by_cases hu:(u9 l).1≠0
  · rw [if_pos hu] at h;exact absurd h hu
  have hu0:=Decidable.not_not.1 hu;have hv:=vt_of ht0;have hl:=Iq ht0;have h60:l.length≤60:=by omega
  have hlt:∀ a b,a < b→b < l.length→(gJ l a b).2.2=false:=fun a b hab hb=>by
    have h1:=jv hu0 b (Nat.zero_le _) oM;cases h2:(gJ l a b).2.2 with
    | false=>rfl
    | true=>rw [NY hab h2] at h1;cases h1
  have hall:∀ a b,a < l.length→b < l.length→(gJ l a b).2.2=false:=fun a b ha hb=>by
    rcases Nat.lt_trichotomy a b with h1 | h1 | h1
    · exact hlt a b h1 hb
    · subst h1
      have:=meet_is hv h60 (a:=a) (b:=a) ha (by simp [ux,Y4 hv]) (fun i _ hc=>by
        simp only [ux,Bool.and_eq_true] at hc
        exact hc.1)
      rw [this]
    · rw [← meet_comm];exact hlt b a h1 ha
  refine⟨hv,by omega,h60,fun a b i ha hb hi hc=>?_⟩;have h1:=hall a b ha hb;have h0:vv l a b≠0:=fun h=>by
    have:=mask_eq_zero.1 h i hi;rw [hc] at this;cases this
  by_cases hd:Z6 l (Lib.ctz 64 (vv l a b))≠vv l a b
  · simp only [gJ,if_neg h0,if_pos hd] at h1;cases h1
  · simp only [gJ,if_neg h0,if_neg hd]
theorem sub_anti {l:List Ty} (hv:VT l) {a b:Nat} (h:sub l a b=true) (h2:sub l b a=true):a=b:=Nat.le_antisymm (JJ hv h2) (JJ hv h)
structure Tri (l:List Ty) (a b c m:Nat) (ok:Bool):Prop where
  yes:ok=true→m < l.length∧(sub l m a=true∧sub l m b=true∧sub l m c=true)∧∀ i,i < l.length→sub l i a=true→sub l i b=true→sub l i c=true→sub l i m=true
  no:ok=false→m=0∧∀ i,i < l.length→sub l i a=true→sub l i b=true→sub l i c=true→False
theorem Tri.uniq {l:List Ty} (hv:VT l) {a b c m n:Nat} {p q:Bool} (h:Tri l a b c m p) (k:Tri l a b c n q):p=q∧m=n:=by
  cases p with
  | true=>
    obtain⟨h1,⟨h2,h3,h4⟩,h5⟩:=h.yes rfl;cases q with
    | true=>
      obtain⟨k1,⟨k2,k3,k4⟩,k5⟩:=k.yes rfl;exact⟨rfl,sub_anti hv (k5 m h1 h2 h3 h4) (h5 n k1 k2 k3 k4)⟩
    | false=>exact((k.no rfl).2 m h1 h2 h3 h4).elim
  | false=>
    cases q with
    | true=>
      obtain⟨k1,⟨k2,k3,k4⟩,k5⟩:=k.yes rfl;exact((h.no rfl).2 n k1 k2 k3 k4).elim
    | false=>exact⟨rfl,(h.no rfl).1.trans (k.no rfl).1.symm⟩
def twoF (l:List Ty) (fs:List Ft) (a b:Int):Fl:=
  if (qZ l fs).1≠0 then qZ l fs else if a < 0∨(l.length:Int)≤a then (3,-2) else if b < 0∨(l.length:Int)≤b then (3,-3) else (0,0)
structure TwoOk (l:List Ty) (fs:List Ft) (a b:Int):Prop where
  h:(qZ l fs).1=0
  s:Sound l
  a0:0≤a
  al:a < l.length
  b0:0≤b
  bl:b < l.length
  z:twoF l fs a b=(0,0)
def hsub (l:List Ty) (fs:List Ft) (a b:Int):Bool:=if (twoF l fs a b).1≠0 then false else sub l a.toNat b.toNat
theorem F5 {w:World} {base:Nat} {A:Option Addr} {cap:Nat} {xs:List Int} {z:Int} (h:Own w base 3 1 A (xs.length + 1) cap (xs.map (Value.int .i64) ++ [Value.int .i64 z])):Own w base 3 1 A (xs ++ [z]).length cap ((xs ++ [z]).map (Value.int .i64)):=by
  rw [List.length_append,List.map_append];exact h
theorem sl_snoc (A:Option Addr) (cap:Nat) (xs:List Int) (z:Int):Value.slice A (xs.length + 1) cap=Value.slice A (xs ++ [z]).length cap:=by rw [List.length_append];rfl
end Go.Proofs.YtbcpgfnfiekbiaaGreatDoor
