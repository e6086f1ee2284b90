/- What these functions compute, at every world: hierarchy.Tables, hierarchy.Validate, ref3.Unmet, ref3.HierarchyFault; and plain laws. -/
import Derived.Test.YtgcgnkmmbecfmaaGreatDoorU
import Derived.Test.YtgcgnkmmbecfmaaGreatDoorZst
import Derived.Test.YtgcgnkmmbecfmaaGreatDoorMeet
namespace Go.Proofs.YtgcgnkmmbecfmaaGreatDoor
open Go.RowKit Go.Proofs.Tryz
variable {a b c j k m n:Nat}{fs:List Ft}{l:List Ty}
def MV(l:List Ty)(k:Nat)(ps:List Int)(x:Nat):Bool:=decide (x=k)||ps.any (fun p=>sub l p.toNat x)
theorem parM_zero(hk:k<l.length):u4 (MV l k []) l.length=2^k:=by
 rw[G5 hk];exact kW (fun j _=>by simp[MV])
theorem parM_snoc{ps:List Int}(hj:j<ps.length):u4 (MV l k (ps.take j)) l.length|||upN l (ps[j]).toNat=u4 (MV l k (ps.take (j+1))) l.length:=by
 unfold upN;rw[mask_or];refine kW (fun x _=>?_);simp only[MV];rw[List.take_succ_eq_append_getElem hj,List.any_append];simp[Bool.or_assoc]
theorem parM_end(hv:VT l)(hk:k<l.length):u4 (MV l k (l[k]).par) l.length=upN l k:=by
 unfold upN;refine kW (fun x _=>?_);rw[sub_eq hv];have e1:decide (x=k)=decide (k=x):=by simp only[eq_comm]
 simp only[MV,e1]
 congr 1
 simp only[PW,List.getElem?_eq_getElem hk,List.any_map];rfl
def upP(l:List Ty)(k i:Nat):Nat:=if i<k then upN l i else 0
def uS(l:List Ty)(k X i:Nat):Nat:=if i=k then X else upP l k i
theorem uS_k(l:List Ty)(k X:Nat):uS l k X k=X:=by simp[uS]
theorem uS_lt{X p:Nat}(h:p<k):uS l k X p=upN l p:=by
 have:p≠k:=by omega
 simp[uS,upP,this,h]
theorem uS_end(l:List Ty)(k i:Nat):uS l k (upN l k) i=upP l (k+1) i:=by
 unfold uS upP;by_cases h:i=k
 ·subst h;simp
 ·have:(i<k+1)↔(i<k):=by omega
  simp[h,this]
def dnP(l:List Ty)(k j:Nat):Nat:=u4 (fun i=>decide (i<k)&&sub l i j) l.length
theorem dnP_zero(l:List Ty)(j:Nat):dnP l 0 j=0:=mask_eq_zero.2 (fun i _=>by simp)
theorem dnP_yes(hk:k<l.length)(h:sub l k j=true):dnP l k j|||2^k=dnP l (k+1) j:=by
 unfold dnP;rw[G5 hk,mask_or];refine kW (fun i _=>?_);by_cases e:i=k
 ·subst e;simp[h]
 ·have e1:decide (i<k+1)=decide (i<k):=aj.2 oG
  simp[e,e1]
theorem dnP_no(h:sub l k j=false):dnP l k j=dnP l (k+1) j:=by
 unfold dnP;refine kW (fun i _=>?_);by_cases e:i=k
 ·subst e;simp[h]
 ·have e1:decide (i<k+1)=decide (i<k):=aj.2 oG
  simp[e1]
theorem dnP_end(l:List Ty)(j:Nat):dnP l l.length j=Q9 l j:=by
 unfold dnP Q9;exact kW (fun i hi=>by simp[hi])
theorem upP_end{i:Nat}(h:i<l.length):upP l l.length i=upN l i:=by simp[upP,h]
def dS(l:List Ty)(k j x:Nat):Nat:=if x<j then dnP l (k+1) x else dnP l k x
theorem dS_j(l:List Ty)(k j:Nat):dS l k j j=dnP l k j:=by simp[dS]
theorem dS_yes(hk:k<l.length)(h:sub l k j=true)(x:Nat):(if x=j then dS l k j j|||2^k else dS l k j x)=dS l k (j+1) x:=by
 by_cases e:x=j
 ·subst e;simp only[if_true,dS_j,dnP_yes hk h];simp[dS]
 ·have e1:(x<j+1)↔(x<j):=by omega
  simp[e,dS,e1]
theorem dS_no(h:sub l k j=false)(x:Nat):dS l k j x=dS l k (j+1) x:=by
 by_cases e:x=j
 ·subst e;rw[dS_j,dnP_no h];simp[dS]
 ·have e1:(x<j+1)↔(x<j):=by omega
  simp[dS,e1]
theorem dS_lt(h:l.length<=60)(k j x:Nat):dS l k j x<18446744073709551616:=by
 unfold dS dnP;split<;>exact XZ _ h
theorem uS_bd(h:l.length<=60){X x:Nat}(hX:X<18446744073709551616):uS l k X x<18446744073709551616:=by
 unfold uS upP;split
 ·exact hX
 ·split
  ·exact upN_lt h _
  ·decide
theorem I3{g:Nat->Nat}{f:Nat->Nat}(h:∀ j,j<n->g j=f j):row n (fun j=>Value.int .u64 ((g j:Nat):Int))=row n (fun j=>Value.int .u64 ((f j:Nat):Int)):=xJ (fun j hj=>by rw[h j hj])
theorem row_ui{g:Nat->Nat}:row n (fun j=>if j=k then Value.int .u64 (c:Int)else Value.int .u64 ((g j:Nat):Int))=row n (fun j=>Value.int .u64 ((if j=k then c else g j:Nat):Int)):=xJ (fun j _=>by split<;>rfl)
theorem in99:(prog.info? 99).map (fun i=>(i.zero,i.size,i.bytes))=some (some (.int .u64 0),1,8):=by kernel_rfl
theorem sz74:(prog.info? 74).map (·.size)=some 2:=by kernel_rfl
theorem P6:(prog.info? 94).map (·.size)=some 2:=by kernel_rfl
theorem ze74:(prog.info? 74).map (·.zero)=some (some (.agg #[.slice none 0 0,.slice none 0 0])):=by kernel_rfl
theorem WX:(prog.info? 94).map (·.zero)=some (some (.agg #[.string ⟨#[]⟩,.slice none 0 0])):=by kernel_rfl
theorem My(A:Option Addr)(c:Nat)(l:List Ty)(w:World)(hT:TypesIn w A l)(hv:VT l)(bf:l.length<=60):Calls prog 23 #[.slice A l.length c] w fun e w'=>∃ bu bd,e= .returned (tabV l.length bu bd)/\TableIn w' l bu bd/\Bel w w':=by
 refine enT func23 ntmps23 rfl rfl fun hB=>?_;refine zn2 ?_;refine qW (cs:=#[.slice none 0 0,.slice none 0 0]) ze74 rfl (fun b2 w1 ab s1 hr=>?_);have lo2:=hB.ob hr;refine zn3 ?_;have z2:=ab.lt;replace hB:=hB.tr0 s1;have hsz:=Bel.size hB;refine oW 8 [9,10,11,12,13,14,15,3] (fun ix=>Nat.beq ix 2||Nat.beq ix 5||Nat.beq ix 7) (fun ix v wv=>match ix with|0=>v= .slice A l.length c|1=>v= .int .i64 l.length|2=>∃ bu,v= .slice (some ⟨bu,0,none⟩) l.length l.length/\w1.heap.size<=bu/\Blk wv bu 99 (row l.length (fun _=> .int .u64 0))|3=>v= .slice A l.length c|4=>v= .int .i64 l.length|5=>∃ bd,v= .slice (some ⟨bd,0,none⟩) l.length l.length/\w1.heap.size<=bd/\Blk wv bd 99 (row l.length (fun _=> .int .u64 0))|6=>∃ bu bd,v= .agg #[.slice (some ⟨bu,0,none⟩) l.length l.length,.slice (some ⟨bd,0,none⟩) l.length l.length]/\w1.heap.size<=bu/\Blk wv bu 99 (row l.length (fun _=> .int .u64 0))/\w1.heap.size<=bd/\Blk wv bd 99 (row l.length (fun _=> .int .u64 0))/\bu≠bd|7=>∃ b,v= .pointer (some ⟨b,0,none⟩)/\w1.heap.size<=b/\Blk wv b 74 #[.slice none 0 0,.slice none 0 0]|_=>True) kR kR ?_ ?_ ?_
 ·intro ix v wv wv2 h s2
  match ix,h with
  | 0,h=>exact h
  | 1,h=>exact h
  | 2,h=>
   obtain⟨bu,bj,a5,a1⟩:=(show ∃ bu,v= .slice (some ⟨bu,0,none⟩) l.length l.length/\w1.heap.size<=bu/\Blk wv bu 99 (row l.length (fun _=> .int .u64 0))from h)
   exact⟨bu,bj,a5,a1.tr0 s2⟩
  | 3,h=>exact h
  | 4,h=>exact h
  | 5,h=>
   obtain⟨bd,bi,a9,a2⟩:=(show ∃ bd,v= .slice (some ⟨bd,0,none⟩) l.length l.length/\w1.heap.size<=bd/\Blk wv bd 99 (row l.length (fun _=> .int .u64 0))from h)
   exact⟨bd,bi,a9,a2.tr0 s2⟩
  | 6,h=>
   obtain⟨bu,bd,bt,a5,a1,a9,a2,bh⟩:=(show ∃ bu bd,v= .agg #[.slice (some ⟨bu,0,none⟩) l.length l.length,.slice (some ⟨bd,0,none⟩) l.length l.length]/\w1.heap.size<=bu/\Blk wv bu 99 (row l.length (fun _=> .int .u64 0))/\w1.heap.size<=bd/\Blk wv bd 99 (row l.length (fun _=> .int .u64 0))/\bu≠bd from h)
   exact⟨bu,bd,bt,a5,a1.tr0 s2,a9,a2.tr0 s2,bh⟩
  | 7,h=>
   obtain⟨b3,e3,b7,a4⟩:=(show ∃ b,v= .pointer (some ⟨b,0,none⟩)/\w1.heap.size<=b/\Blk wv b 74 #[.slice none 0 0,.slice none 0 0]from h)
   exact⟨b3,e3,b7,a4.tr0 s2⟩
  | _+8,h=>exact trivial
 ·intro ix o hix hoq gg wx s3 hd bb
  match ix,hix,hoq with
  | 0,_,hoq=>
   cases sI hoq;exact oVq (xz (v:= .slice _ _ _) rfl) rfl
  | 1,_,hoq=>
   cases sI hoq;have d0:gg 9= .slice A l.length c:=hd 0 (zk kR);have e9:=d0;refine zq 9 _ e9 nu ?_;exact oVq (E1 U22 rfl) rfl
  | 2,_,hoq=>
   cases sI hoq;have b8:=s3;have d1:gg 10= .int .i64 l.length:=hd 1 (zk kR);have e10:=d1;refine zq 10 _ e10 nu ?_;refine jK (fun ops Q K=>?_);refine XV U72 in99 rfl rfl rfl oG oG (fun b11 w2 be s4 hr=>?_);exact K _ _ ⟨s4,⟨_,rfl,nLT b8.size hr,be⟩,fRq hr be.lt⟩
  | 3,_,hoq=>
   cases sI hoq;exact oVq (xz (v:= .slice _ _ _) rfl) rfl
  | 4,_,hoq=>
   cases sI hoq;have d3:gg 12= .slice A l.length c:=hd 3 (zk kR);have e12:=d3;refine zq 12 _ e12 nu ?_;exact oVq (E1 U22 rfl) rfl
  | 5,_,hoq=>
   cases sI hoq;have b8:=s3;have d4:gg 13= .int .i64 l.length:=hd 4 (zk kR);have e13:=d4;refine zq 13 _ e13 nu ?_;refine jK (fun ops Q K=>?_);refine XV U72 in99 rfl rfl rfl oG oG (fun b14 w3 bc s5 hr=>?_);exact K _ _ ⟨s5,⟨_,rfl,nLT b8.size hr,bc⟩,fRq hr bc.lt⟩
  | 6,_,hoq=>
   cases sI hoq;have d2:∃ bu,gg 11= .slice (some ⟨bu,0,none⟩) l.length l.length/\w1.heap.size<=bu/\Blk wx bu 99 (row l.length (fun _=> .int .u64 0)):=hd 2 (zk kR);obtain⟨bu,bj,a5,a1⟩:=d2;have d5:∃ bd,gg 14= .slice (some ⟨bd,0,none⟩) l.length l.length/\w1.heap.size<=bd/\Blk wx bd 99 (row l.length (fun _=> .int .u64 0)):=hd 5 (zk kR);obtain⟨bd,bi,a9,a2⟩:=d5;have bh:bu≠bd:=fun h=>bb 2 5 bu (zk kR) (zk kR) dE rfl rfl (show ky (gg 11)=some bu by rw[bj];rfl) (show ky (gg 14)=some bu by rw[bi,h];rfl)
   refine zq 11 _ bj nu (zq 14 _ bi nu ?_);exact oVq (vw (v0:= .slice _ _ _) (v1:= .slice _ _ _) (fun v0 v1=>#[v0,v1]) rfl rfl kR) ⟨_,_,rfl,a5,a1,a9,a2,bh⟩
  | 7,_,hoq=>
   cases sI hoq;have b8:=s3;refine jK (fun ops Q K=>?_);refine qW (cs:=#[.slice none 0 0,.slice none 0 0]) ze74 rfl (fun b3 w4 a4 s6 hr=>?_);exact K _ _ ⟨s6,⟨_,rfl,nLT b8.size hr,a4⟩,fRq hr a4.lt⟩
  | _+8,hix,_=>exact absurd hix oG
 intro gg w5 s7 hR bb;have d6:∃ bu bd,gg 15= .agg #[.slice (some ⟨bu,0,none⟩) l.length l.length,.slice (some ⟨bd,0,none⟩) l.length l.length]/\w1.heap.size<=bu/\Blk w5 bu 99 (row l.length (fun _=> .int .u64 0))/\w1.heap.size<=bd/\Blk w5 bd 99 (row l.length (fun _=> .int .u64 0))/\bu≠bd:=hR 6 dE;obtain⟨bu,bd,bt,a5,a1,a9,a2,bh⟩:=d6;have d7:∃ b,gg 3= .pointer (some ⟨b,0,none⟩)/\w1.heap.size<=b/\Blk w5 b 74 #[.slice none 0 0,.slice none 0 0]:=hR 7 dE;obtain⟨b3,e3,b7,a4⟩:=d7;have h3u:b3≠bu:=fun h=>absurd (jy (h ▸ a4) a1) dE
 have h3d:b3≠bd:=fun h=>absurd (jy (h ▸ a4) a2) dE
 have bn:b2<b3:=nLL z2 b7;have bk:b2<bu:=nLL z2 a5;have bm:b2<bd:=nLL z2 a9;replace b7:=nLT hsz b7;replace a5:=nLT hsz a5;replace a9:=nLT hsz a9;refine xj 15 _ bt nu (xj 3 _ e3 nu ?_);refine zZ a4 rfl rfl sz74 rfl qz (fun w6 hq s8=>?_);replace a4:=hq;refine jq ?_;replace a1:=a1.tr1 s8 oG;replace a2:=a2.tr1 s8 oG;refine qx (rg [4,5,7,8] 18 56) (fun m g w'=>∃(k:Nat),k<=l.length/\m=l.length-k/\g 18= .int .i64 k/\Bel w w'/\Blk w' b2 74 #[.slice none 0 0,.slice none 0 0]/\Blk w' b3 74 #[.slice (some ⟨bu,0,none⟩) l.length l.length,.slice (some ⟨bd,0,none⟩) l.length l.length]/\Blk w' bu 99 (row l.length (fun i=> .int .u64 ((upP l k i:Nat):Int)))/\Blk w' bd 99 (row l.length (fun i=> .int .u64 ((dnP l k i:Nat):Int)))) (l.length) ?_ (fun m g3 w7 hI=>?_)
 ·refine⟨0,ag _,rfl,rfl,hB.u,ab.u,a4,?_,?_⟩
  · rw[I3 (f:=fun _=>0) (fun j _=>by simp[upP])];exact a1
  · rw[I3 (f:=fun _=>0) (fun j _=>dnP_zero l j)];exact a2
 obtain⟨k,hk,hm,h18,hB,ab,a4,a1,a2⟩:=hI;refine zX 18 _ h18 nu (zn6 ?_);refine zQ rfl (fun c19=>?_) (fun c19=>?_)
 ·have a3:k<l.length:=by omega
  obtain⟨tb,to,A',cp,rfl,htb,htr,b9⟩:=hT.at_ hB a3;have hmx:=b9.1;unfold vJ at hmx;refine zn8 ?_;refine wl (qw U94 rfl rfl htr P6) ?_;refine qW (cs:=#[.string ⟨#[]⟩,.slice none 0 0]) WX rfl (fun b5 w8 an s9 hr=>?_);have:=ab.ob hr;have:=a1.ob hr;have:=a2.ob hr;have:=a4.ob hr;have lo5:=hB.ob hr;refine waI rfl ?_;refine zZ an rfl rfl P6 rfl qz (fun w9 hq b6=>?_);replace an:=hq;refine zn3 ?_;refine X1 6 kR kR (fun w10 ao=>?_);refine zn4 ?_;refine ws (r_shl1 rfl rfl oG rfl) (zn1 ?_);refine QY ?_;replace a1:=((a1.tr0 s9).tr1 b6 oG).tr0 ao;refine xQ (v:= .int _ _) a1 rfl rfl sz99 (by rw[row_size];omega) rfl kv (fun w11 hq b4=>?_);replace a1:=hq;replace hB:=(((hB.tr0 s9).tr1 b6 lo5).tr0 ao).tr1 b4 a5;replace ab:=(((ab.tr0 s9).tr1 b6 oG).tr0 ao).tr1 b4 oG;replace a2:=(((a2.tr0 s9).tr1 b6 oG).tr0 ao).tr1 b4 oG;replace a4:=(((a4.tr0 s9).tr1 b6 oG).tr0 ao).tr1 b4 oG;replace an:=(an.tr0 ao).tr1 b4 oG;replace a1:Blk w11 bu 99 (row l.length (fun i=> .int .u64 ((uS l k (u4 (MV l k ((l[k]'a3).par.take 0)) l.length) i:Nat):Int))):=by
    rw[row_ui (g:=fun i=>upP l k i)]at a1;rw[I3 (f:=fun i=>if i=k then 2^k else upP l k i) (fun j _=>by rw[List.take_zero,parM_zero a3];rfl)];exact a1
  refine vj ?_;refine qx (rg [7] 32 17) (fun m g w'=>∃(j:Nat),j<=(l[k]'a3).par.length/\m=(l[k]'a3).par.length-j/\g 32= .int .i64 j/\Bel w w'/\Blk w' b2 74 #[.slice none 0 0,.slice none 0 0]/\Blk w' b3 74 #[.slice (some ⟨bu,0,none⟩) l.length l.length,.slice (some ⟨bd,0,none⟩) l.length l.length]/\Blk w' bu 99 (row l.length (fun i=> .int .u64 ((uS l k (u4 (MV l k ((l[k]'a3).par.take j)) l.length) i:Nat):Int)))/\Blk w' bd 99 (row l.length (fun i=> .int .u64 ((dnP l k i:Nat):Int)))/\Blk w' b5 94 #[.string (l[k]'a3).name,.slice A' (l[k]'a3).par.length cp]) ((l[k]'a3).par.length) ?_ (fun m g7 w12 hI=>?_)
  ·exact⟨0,ag _,rfl,rfl,hB,ab,a4,a1,a2,an⟩
  obtain⟨j,hj,hmj,h32,hB,ab,a4,a1,a2,an⟩:=hI;refine zX 32 _ h32 nu (zn6 ?_);refine zQ rfl (fun c33=>?_) (fun c33=>?_)
  ·have b1:j<(l[k]'a3).par.length:=by omega
   obtain⟨pb,po,rfl,hpb,bg⟩:=b9.at_ b1;replace bg:=hB.cell hpb bg;have hpr:=hv k a3 _ (am b1);obtain⟨pn,hpn⟩:∃ pn:Nat,pn=((l[k]'a3).par[j]).toNat:=⟨_,rfl⟩
   have hpi:(l[k]'a3).par[j]=(pn:Int):=by rw[hpn];exact(Int.toNat_of_nonneg hpr.1).symm
   rw[hpi]at bg hpr;have hXl:=XZ (MV l k ((l[k]'a3).par.take j)) bf;refine zn7 ?_;refine wl (qy (v:= .int _ _) U3 rfl rfl bg) (zn3 ?_);refine X1 12 kR kR (fun w13 s13=>?_);refine zn4 ?_;replace a1:=a1.tr0 s13;refine ws (qy (v:= .int _ _) U99 rfl rfl (a1.cell (vW a3))) (zn4 ?_);refine ws (qy (v:= .int _ _) U99 rfl rfl (a1.cell (vW oG))) (ws (VX rfl rfl (uS_bd bf hXl) (uS_bd bf hXl)) (zn1 ?_));refine QY ?_;refine xQ (v:= .int _ _) a1 rfl rfl sz99 (by rw[row_size];omega) rfl kv (fun w14 hq s14=>?_);replace a1:=hq;replace a1:Blk w14 bu 99 (row l.length (fun i=> .int .u64 ((uS l k (u4 (MV l k ((l[k]'a3).par.take (j+1))) l.length) i:Nat):Int))):=by
     rw[row_ui (g:=fun i=>uS l k (u4 (MV l k ((l[k]'a3).par.take j)) l.length) i)]at a1
     rw[I3 (f:=fun i=>if i=k then uS l k (u4 (MV l k ((l[k]'a3).par.take j)) l.length) k|||uS l k (u4 (MV l k ((l[k]'a3).par.take j)) l.length) pn else uS l k (u4 (MV l k ((l[k]'a3).par.take j)) l.length) i) (fun i _=>by
       rw[uS_k,uS_lt (show pn<k by omega),hpn,parM_snoc b1];by_cases e:i=k
       · simp[e,uS_k]
       · simp[e,uS])]
     exact a1
   refine zn7 ?_;refine x8 ((l[k]'a3).par.length-(j+1)) oG agA ?_;replace a2:=(a2.tr0 s13).tr1 s14 oG;exact⟨j+1,by omega,rfl,rfl,hB.u,ab.u,a4.u,a1,a2,an.u⟩
  have br:j=(l[k]'a3).par.length:=by omega
  rw[br,List.take_length,parM_end hv a3,I3 (f:=fun i=>upP l (k+1) i) (fun i _=>uS_end l k i)]at a1;refine uw ?_;refine qx (rg [8] 51 22) (fun m g w'=>∃(j:Nat),j<=l.length/\m=l.length-j/\g 51= .int .i64 j/\Bel w w'/\Blk w' b2 74 #[.slice none 0 0,.slice none 0 0]/\Blk w' b3 74 #[.slice (some ⟨bu,0,none⟩) l.length l.length,.slice (some ⟨bd,0,none⟩) l.length l.length]/\Blk w' bu 99 (row l.length (fun i=> .int .u64 ((upP l (k+1) i:Nat):Int)))/\Blk w' bd 99 (row l.length (fun i=> .int .u64 ((dS l k j i:Nat):Int)))) (l.length) ?_ (fun m g12 w15 hI=>?_)
  ·refine⟨0,ag _,rfl,rfl,hB,ab,a4,a1,?_⟩;rw[I3 (f:=fun i=>dnP l k i) (fun i _=>by simp[dS])];exact a2
  obtain⟨j,hj,hmj,h51,hB,ab,a4,a1,a2⟩:=hI;refine zX 51 _ h51 nu (zn6 ?_);refine zQ rfl (fun c52=>?_) (fun c52=>?_)
  ·have b1:j<l.length:=by omega
   have bo:upP l (k+1) k=upN l k:=by simp[upP]
   have huv:=upN_lt bf k;have ac:=T6 (upN l k) j;have hbt:(upN l k).testBit j=sub l k j:=by unfold upN;rw[kY];simp[b1]
   rw[hbt]at ac;refine Kz ?_;refine wl (qy (v:= .int _ _) U99 rfl rfl (a1.cell (vW a3))) (wmI rfl (wl (r_shr (b:=j) rfl rfl oG rfl) (wl (MK (b:=1) rfl rfl (by rw[bo];exact Nat.lt_of_le_of_lt (Nat.shiftRight_le _ _) huv) dE) (zn3 ?_))));refine zQ rfl (fun bv=>?_) (fun bv=>?_)
   ·have bq:sub l k j=true:=by rw[<- ac];exact ai (by rw[bo]at bv;omega)
    refine X1 9 kR kR (fun w16 s15=>?_);refine zn4 ?_;replace a2:=a2.tr0 s15;refine ws (qy (v:= .int _ _) U99 rfl rfl (a2.cell (vW b1))) (zn1 ?_);refine ws (r_shl1 rfl rfl oG rfl) (ws (VX rfl rfl (dS_lt bf _ _ _) (nLL (Nat.pow_lt_pow_right dE (show k<60 by omega)) dE)) (zn1 ?_));refine QY ?_;refine xQ (v:= .int _ _) a2 rfl rfl sz99 (by rw[row_size];omega) rfl kv (fun w17 hq s16=>?_);replace a2:=hq;rw[row_ui (g:=fun i=>dS l k j i),I3 (f:=fun i=>dS l k (j+1) i) (fun i _=>dS_yes a3 bq i)]at a2;refine zn7 ?_;refine x8 (l.length-(j+1)) oG agA ?_;replace a1:=(a1.tr0 s15).tr1 s16 oG;exact⟨j+1,by omega,rfl,rfl,hB.u,ab.u,a4.u,a1,a2⟩
   have bq:sub l k j=false:=by rw[<- ac];exact ap (by rw[bo]at bv;omega)
   rw[I3 (f:=fun i=>dS l k (j+1) i) (fun i _=>dS_no bq i)]at a2;refine zn7 ?_;refine x8 (l.length-(j+1)) oG agA ?_;exact⟨j+1,by omega,rfl,rfl,hB,ab,a4,a1,a2⟩
  have br:j=l.length:=by omega
  rw[br,I3 (f:=fun i=>dnP l (k+1) i) (fun i hi=>by simp[dS,hi])]at a2;refine yW ?_;refine x8 (l.length-(k+1)) oG agA ?_;exact⟨k+1,by omega,rfl,rfl,hB,ab,a4,a1,a2⟩
 have hkl:k=l.length:=by omega
 subst hkl;refine zn8 ?_;refine zZ ab rfl rfl sz74 rfl qz (fun w18 hq s17=>?_);replace ab:=hq;refine zn3 ?_;refine xK (.inl rfl) rfl (zW U74 rfl rfl ab.range0 sz74) ?_;refine⟨bu,bd,rfl,⟨?_,?_⟩,hB.u⟩;replace a1:=a1.tr1 s17 oG
 · rw[I3 (f:=upN l) (fun i hi=>upP_end hi)]at a1;exact a1
 replace a2:=a2.tr1 s17 oG
 · rw[I3 (f:=Q9 l) (fun i _=>dnP_end l i)]at a2;exact a2
theorem Pz{i:Int}:∀ {ps:List Int} {a1:Int},kj i a1 ps=0->∀ p∈ps,0<=p/\p<i
 | [],_,_,p,hp=>by cases hp
 | q::ps,a1,h,p,hp=>by
  unfold kj at h
  by_cases h1:q<0\/i<=q
  ·rw[if_pos h1]at h;cases h
  rw[if_neg h1]at h
  by_cases h2:q<=a1
  ·rw[if_pos h2]at h;cases h
  rw[if_neg h2]at h
  rcases ax.1 hp with rfl|hp
  ·omega
  ·exact Pz h p hp
theorem tyFault_ok(hk:k<l.length)(h:j6 l k=0):yJ (l[k]).name=true/\seen ((l.take k).map (·.name)) (l[k]).name=false/\(decide (k=0)==(l[k]).par.isEmpty)=true/\kj k (-1) (l[k]).par=0:=by
 cases h1:yJ (l[k]).name with
 | false=>rw[ty10 l k hk h1]at h;cases h
 | true=>
  cases h2:seen ((l.take k).map (·.name)) (l[k]).name with
  | true=>rw[ty7 l k hk h1 h2]at h;cases h
  | false=>
   cases h3:(decide (k=0)==(l[k]).par.isEmpty)with
   | false=>rw[ty5 l k hk h1 h2 h3]at h;cases h
   | true=>
    rw[Rj l k hk h1 h2 h3,List.drop_zero]at h;exact⟨rfl,rfl,rfl,h⟩
theorem uX{f:Nat->Int}:∀ {m i:Nat},(qQ f i m).1=0->∀ j,i<=j->j<i+m->f j=0
 | 0,i,_,j,h1,h2=>by omega
 | m+1,i,h,j,h1,h2=>by
  unfold qQ at h
  by_cases h3:f i≠0
  ·rw[if_pos h3]at h;exact absurd h h3
  rw[if_neg h3]at h
  by_cases e:j=i
  ·subst e;exact az.1 h3
  ·exact uX h j oG oG
theorem O2(h:(xZ l).1=0):¬(l.length=0\/60<l.length):=by
 intro hb;simp only[xZ,if_pos hb]at h;cases h
theorem types_ok(h:(xZ l).1=0)(hk:k<l.length):j6 l k=0:=by
 have hb:=O2 h;simp only[xZ,if_neg hb]at h;exact uX h k (ag _) oG
theorem vt_of(h:(xZ l).1=0):VT l:=fun _ hi p hp=>Pz (tyFault_ok hi (types_ok h hi)).2.2.2 p hp
def PV(l:List Ty)(b:Nat):Int:=if (List.range b).any (fun a=>(meet l a b).2.2)then 16 else 0
theorem C0(h:a<b)(hm:(meet l a b).2.2=true):PV l b=16:=by
 unfold PV;rw[if_pos (List.any_eq_true.2 ⟨a,List.mem_range.2 h,hm⟩)]
theorem unmF_no(h:∀ a,a<b->(meet l a b).2.2=false):PV l b=0:=by
 unfold PV;rw[if_neg];intro hc;obtain⟨a,ha,hm⟩:=List.any_eq_true.1 hc;rw[h a (List.mem_range.1 ha)]at hm;cases hm
def TQ(n:Nat)(t:Ft):Prop:=t.of<0\/(n:Int)<=t.of\/t.val<0\/(n:Int)<=t.val
instance(n:Nat)(t:Ft):Decidable (TQ n t):=by unfold TQ;infer_instance
def Zq(n:Nat)(fs:List Ft)(i:Nat):Int:=match fs[i]? with
 | none=>0
 | some t=>if yJ t.name=false then 10 else if seen ((fs.take i).map (·.name)) t.name=true then 7 else if TQ n t then 3 else 0
theorem ft10(n:Nat)(l:List Ft)(k:Nat)(hlt:k<l.length)(h1:yJ l[k].name=false):Zq n l k=10:=by
 simp only[Zq,List.getElem?_eq_getElem hlt,h1,if_true]
theorem ft7(n:Nat)(l:List Ft)(k:Nat)(hlt:k<l.length)(h1:yJ l[k].name=true)(h2:seen ((l.take k).map (·.name)) l[k].name=true):Zq n l k=7:=by
 simp only[Zq,List.getElem?_eq_getElem hlt,h1,h2,if_true];rfl
theorem ft3(n:Nat)(l:List Ft)(k:Nat)(hlt:k<l.length)(h1:yJ l[k].name=true)(h2:seen ((l.take k).map (·.name)) l[k].name=false)(h3:TQ n l[k]):Zq n l k=3:=by
 simp only[Zq,List.getElem?_eq_getElem hlt,h1,h2,if_pos h3];rfl
theorem ft0(n:Nat)(l:List Ft)(k:Nat)(hlt:k<l.length)(h1:yJ l[k].name=true)(h2:seen ((l.take k).map (·.name)) l[k].name=false)(h3:¬TQ n l[k]):Zq n l k=0:=by
 simp only[Zq,List.getElem?_eq_getElem hlt,h1,h2,if_neg h3];rfl
def gW(l:List Ty):Fl:=qQ (PV l) 0 l.length
def qK(l:List Ty)(fs:List Ft):Fl:=
 if 40<fs.length then (2,-1)
 else if (xZ l).1≠0 then xZ l
 else if (gW l).1≠0 then gW l
 else qQ (Zq l.length fs) 0 fs.length
theorem hf_size(h:l.length=0\/60<l.length\/40<fs.length):qK l fs=(2,-1):=by
 unfold qK;by_cases h4:40<fs.length
 ·rw[if_pos h4]
 ·have hb:l.length=0\/60<l.length:=by omega
  have ht:xZ l=(2,-1):=by simp only[xZ,if_pos hb]
  rw[if_neg h4,ht];rfl
theorem GJ(h:¬40<fs.length)(ht:(xZ l).1≠0):qK l fs=((xZ l).1,(xZ l).2):=by
 unfold qK;rw[if_neg h,if_pos ht]
theorem GQ(h:¬40<fs.length)(ht:(xZ l).1=0){k:Int}(hu:gW l=(16,k)):qK l fs=(16,k):=by
 unfold qK;rw[if_neg h,if_neg (by rw[ht];exact fun h=>h rfl),hu];rfl
theorem hf_rest(h:¬40<fs.length)(ht:(xZ l).1=0)(hu:gW l=(0,0)):qK l fs=qQ (Zq l.length fs) 0 (fs.length-0):=by
 unfold qK;rw[if_neg h,if_neg (by rw[ht];exact fun h=>h rfl),hu];rfl
theorem Y8:zK prog 54=true:=by kernel_rfl
theorem xv:(prog.info? 36).map (·.size)=some 2:=by kernel_rfl
theorem sz61:(prog.info? 61).map (·.size)=some 3:=by kernel_rfl
theorem ze3_Valid:(prog.info? 3).map (·.zero)=some (some (.int .i64 0)):=by kernel_rfl
theorem J4:(prog.info? 36).map (·.zero)=some (some (.agg #[.int .i64 0,.int .i64 0])):=by kernel_rfl
theorem ze61:(prog.info? 61).map (·.zero)=some (some (.agg #[.string ⟨#[]⟩,.int .i64 0,.int .i64 0])):=by kernel_rfl
theorem Rq(A B:Option Addr)(c d:Nat)(l:List Ty)(fs:List Ft)(w:World)(bk:TabIn w)(hT:TypesIn w A l)(hF:FeatsIn w B fs):Calls prog 37 #[.agg #[.slice A l.length c,.slice B fs.length d]] w fun e w'=>e= .returned (flV (qK l fs))/\Bel w w':=by
 refine enT func37 ntmps37 rfl rfl fun hB=>?_;refine zn2 ?_;refine xy (v:= .agg #[_,_]) (cs:=#[_,_]) rfl rfl (fun b1 w1 a4 s1 hr=>?_);refine qW (cs:=#[.int .i64 0,.int .i64 0]) J4 rfl (fun b2 w2 a1 s2 hr=>?_);have lo2:=hB.u.ob hr;refine zn4 ?_;replace hB:=hB.tr0 (s1.t s2);refine xw (rg [] 15 16) 30 (.bool (decide (l.length=0\/60<l.length\/40<fs.length))) nu ?_ (fun gq=>?_)
 ·refine zn6 ?_;refine zw 19 rfl (fun g19=>?_) (fun g19=>?_)
  ·refine jq ?_;refine zJ (e_R ⟨rfl,agA,?_⟩);exact clA
  refine yW ?_;refine zw 25 rfl (fun g25=>?_) (fun g25=>?_)
  ·refine zn5 ?_;refine zJ (e_R ⟨rfl,agA,?_⟩);exact clA
  refine zn9 ?_;refine zJ (e_R ⟨rfl,agA,?_⟩);exact clA
 refine e_S ?_;refine zQ rfl (fun c30=>?_) (fun c30=>?_)
 ·refine zn2 ?_;refine ba Y8 (uZ _ _ _) rfl (fun w3 s3=>?_);refine zZ a1.u rfl rfl xv rfl qz (fun w4 hq s4=>?_);replace a1:=hq;refine zn4 ?_;refine xK (.inl rfl) rfl (zW U36 rfl rfl a1.range0 xv) ?_;exact⟨xq (hf_size c30),hB.u⟩
 refine zn7 ?_;refine ba kR (types_any _ _ _ _ (hT.mono hB)) rfl (fun w5 s5=>?_);refine yx (cs:=#[.int .i64 0,.int .i64 0]) J4 rfl (fun _=>rfl) (fun _=>rfl) xv rfl qz (fun b3 w7 hb3 s6 hr=>?_);refine zn9 ?_;refine zQ rfl (fun c37=>?_) (fun c37=>?_)
 ·refine zn3 ?_;refine zZ a1.u rfl rfl xv rfl qz (fun w8 hq s7=>?_);replace a1:=hq;refine zn4 ?_;refine xK (.inl rfl) rfl (zW U36 rfl rfl a1.range0 xv) ?_;exact⟨xq (GJ oG oG),hB.u⟩
 have bf:(xZ l).1=0:=by omega
 have hv:=vt_of bf;refine zn6 ?_;refine qq kR (My _ _ _ _ (hT.mono hB.u) hv oG) rfl (fun e' w9 hr=>?_);obtain⟨bu,bd,rfl,⟨a5,a9⟩,s8⟩:=hr;replace s8:=sB s8;have h2u:b2≠bu:=fun h=>absurd (jy (h ▸ a1.u) a5) dE
 have h2d:b2≠bd:=fun h=>absurd (jy (h ▸ a1.u) a9) dE
 refine⟨_,rfl,?_⟩;refine yx (cs:=#[.slice none 0 0,.slice none 0 0]) ze74 rfl (fun _=>rfl) (fun _=>rfl) sz74 rfl qz (fun b4 w11 ab s9 hr=>?_);refine vj ?_;replace a5:=a5.tr0 s9;replace a9:=a9.tr0 s9;refine qx (rg (rg [] 5 5) 45 20) (fun m g w'=>∃(k:Nat),k<=l.length/\m=l.length-k/\g 45= .int .i64 k/\Bel w w'/\Blk w' b1 25 #[.slice A l.length c,.slice B fs.length d]/\Blk w' b2 36 #[.int .i64 0,.int .i64 0]/\Blk w' b4 74 #[.slice (some ⟨bu,0,none⟩) l.length l.length,.slice (some ⟨bd,0,none⟩) l.length l.length]/\Blk w' bu 99 (rU l.length (upN l))/\Blk w' bd 99 (rU l.length (Q9 l))/\gW l=qQ (PV l) k (l.length-k)) (l.length) ?_ (fun m g8 w12 hI=>?_)
 ·exact⟨0,ag _,rfl,rfl,hB.u,a4.u,a1.u,ab,a5,a9,rfl⟩
 obtain⟨k,hk,hm,h45,hB,a4,a1,ab,a5,a9,hU⟩:=hI;refine zX 45 _ h45 nu (zn6 ?_);refine zQ rfl (fun c46=>?_) (fun c46=>?_)
 ·have a3:k<l.length:=by omega
  refine PK ?_;refine qx (rg [6,7,8,9] 49 15) (fun m g w'=>∃(a:Nat),a<=k/\m=k-a/\g 49= .int .i64 a/\Bel w w'/\Blk w' b1 25 #[.slice A l.length c,.slice B fs.length d]/\Blk w' b2 36 #[.int .i64 0,.int .i64 0]/\Blk w' b4 74 #[.slice (some ⟨bu,0,none⟩) l.length l.length,.slice (some ⟨bd,0,none⟩) l.length l.length]/\Blk w' bu 99 (rU l.length (upN l))/\Blk w' bd 99 (rU l.length (Q9 l))/\(∀ j,j<a->(meet l j k).2.2=false)) (k) ?_ (fun m g11 w13 hI=>?_)
  ·exact⟨0,ag _,rfl,rfl,hB,a4,a1,ab,a5,a9,fun j hj=>by omega⟩
  obtain⟨a,ha,hma,h49,hB,a4,a1,ab,a5,a9,hM⟩:=hI;refine zX 49 _ h49 nu (zn6 ?_);refine zQ rfl (fun c50=>?_) (fun c50=>?_)
  ·refine Yv ?_;refine ba kR (G4 l bu bd a k _ (bk.mono hB) ⟨a5,a9⟩ hv oG oG a3) rfl (fun w14 ao=>?_);refine wmT rfl (wl (vY (v:= .int _ _) rfl rfl) (wl (vY (v:= .bool _) rfl rfl) (wl (vY (v:= .bool _) rfl rfl) (yW ?_))));refine jQ rfl (fun bq=>?_) (fun bq=>?_)
   ·have be:=C0 (show a<k by omega) bq;have bj:=GQ (fs:=fs) oG bf (hU.trans (x7 oG be dE));refine zn3 ?_;refine ba Y8 (uZ _ _ _) rfl (fun w15 s11=>?_);refine zZ a1.u rfl rfl xv rfl qz (fun w16 hq s12=>?_);replace a1:=hq;refine vj ?_;refine xK (.inl rfl) rfl (zW U36 rfl rfl a1.range0 xv) ?_;exact⟨xq bj,hB.u⟩
   refine zn7 ?_;refine x8 (k-(a+1)) oG agA ?_;replace hB:=hB.tr0 ao;replace a4:=a4.tr0 ao;replace a1:=a1.tr0 ao;replace a5:=a5.tr0 ao;replace a9:=a9.tr0 ao;replace ab:=ab.tr0 ao
   exact⟨a+1,by omega,rfl,rfl,hB,a4,a1,ab,a5,a9,fun j hj=>by
     by_cases e:j=a
     ·subst e;exact bq
     ·exact hM j oG⟩
  have be:PV l k=0:=unmF_no (fun j hj=>hM j oG);refine yW ?_;refine x8 (l.length-(k+1)) oG agA ?_;exact⟨k+1,by omega,rfl,rfl,hB,a4,a1,ab,a5,a9,hU.trans (vQ a3 be)⟩
 have hR:=Lib.hid (hf_rest (fs:=fs) oG bf (hU.trans (jz oG)));refine zn7 ?_;refine wl_mm (fun b65 w17 a2 s13 hr=>?_);have:=nLL a4.lt hr;have:=nLL a1.lt hr;have bb:=hB.ob hr;refine wl (uK (v:= .map _) rfl) (vj ?_);refine qx (rg [11,12,13,14] 69 52) (fun m g w'=>∃(k:Nat) (mp:List (ByteArray×Value)),k<=fs.length/\m=fs.length-k/\g 69= .int .i64 k/\Bel w w'/\Blk w' b1 25 #[.slice A l.length c,.slice B fs.length d]/\Blk w' b2 36 #[.int .i64 0,.int .i64 0]/\MapS w' b65 mp/\(∀ s,lkB mp s=seen ((fs.take k).map (·.name)) s)/\qK l fs=qQ (Zq l.length fs) k (fs.length-k)) (fs.length) ?_ (fun m g20 w18 hI=>?_)
 ·exact⟨0,[],ag _,rfl,rfl,hB.u,a4.u,a1.u,a2,fun s=>rfl,hR.out⟩
 obtain⟨k,mp,hk,hm,h69,hB,a4,a1,a2,bi,b6⟩:=hI;refine zX 69 _ h69 nu (zn6 ?_);refine zQ rfl (fun c70=>?_) (fun c70=>?_)
 ·have a3:k<fs.length:=by omega
  obtain⟨tb,to,rfl,htb,htr⟩:=hF.at_ hB a3;refine zn8 ?_;refine wl (qw U61 rfl rfl htr sz61) ?_;refine qW (cs:=#[.string ⟨#[]⟩,.int .i64 0,.int .i64 0]) ze61 rfl (fun b12 w19 b5 b9 hr=>?_);have:=nLL a4.lt hr;have:=nLL a1.lt hr;have:=nLL a2.lt hr;have bc:=hB.ob hr;refine waI rfl ?_;refine zZ b5 rfl rfl sz61 rfl qz (fun w20 hq b8=>?_);replace b5:=hq;refine zn7 ?_;refine qq kR (E7 _ _) rfl (fun e' w21 hr=>?_);obtain⟨rfl,rfl⟩:=hr;refine⟨_,rfl,?_⟩;refine zn3 ?_;refine jQ rfl (fun bo=>?_) (fun bo=>?_)
  ·have ac:=ft10 l.length fs k a3 (by simpa using bo);refine zn3 ?_;refine ba Y8 (uZ _ _ _) rfl (fun w22 s16=>?_);refine zZ a1.u rfl rfl xv rfl qz (fun w23 hq s17=>?_);replace a1:=hq;refine zn9 ?_;refine xK (.inl rfl) rfl (zW U36 rfl rfl a1.range0 xv) ?_;exact⟨xq (b6.trans (x7 (c:=10) oG ac dE)),hB.u⟩
  have bg:yJ (fs[k]'a3).name=true:=by simpa using bo
  refine zn5 ?_;refine wl (xz (v:= .map _) rfl) (zn2 ?_);replace a2:=(a2.tr0 b9).tr1 b8 oG;refine wl (r_lkS a2 U95 U9 ze3_Valid rfl rfl) (wmT rfl (wl (vY (v:=_) rfl rfl) (wl (vY (v:= .bool _) rfl rfl) (wl (uK (v:=_) rfl) (zn8 ?_)))));refine jQ rfl (fun b7=>?_) (fun b7=>?_)
  ·have ac:=ft7 l.length fs k a3 bg ((bi _).symm.trans b7);refine zn3 ?_;refine ba Y8 (uZ _ _ _) rfl (fun w24 s18=>?_);refine zZ a1.u rfl rfl xv rfl qz (fun w25 hq s19=>?_);replace a1:=hq;refine zn9 ?_;refine xK (.inl rfl) rfl (zW U36 rfl rfl a1.range0 xv) ?_;exact⟨xq (b6.trans (x7 (c:=7) oG ac dE)),hB.u⟩
  have hsn:seen ((fs.take k).map (·.name)) (fs[k]'a3).name=false:=by rw[<- bi];exact b7
  have bh:∀ s,lkB (O6 mp (fs[k]'a3).name (.int .i64 k)) s=seen ((fs.take (k+1)).map (·.name)) s:=fun s=>by
    rw[Z6 _ _ _ b7,ZZ fs a3,List.map_append,List.map_cons,List.map_nil,Xw,<- bi];simp[lkB]
  refine zn4 ?_;refine wl (xz (v:= .map _) rfl) (zn3 ?_);refine wl_muS (v:= .int _ _) a2 U95 U9 rfl rfl rfl (fun w26 hq s20=>?_);replace a2:=hq;refine zn3 ?_;replace hB:=((hB.tr0 b9).tr1 b8 bc).tr1 s20 bb;replace a1:=((a1.tr0 b9).tr1 b8 oG).tr1 s20 oG;refine xw (rg [] 94 24) 117 (.bool (decide ((fs[k]'a3).of<0\/(l.length:Int)<=(fs[k]'a3).of\/(fs[k]'a3).val<0\/(l.length:Int)<=(fs[k]'a3).val))) nu ?_ (fun gq=>?_)
  ·refine zn5 ?_;refine zw 97 rfl (fun g97=>?_) (fun g97=>?_)
   ·refine zn20 ?_;refine zJ (e_R ⟨rfl,agA,?_⟩);exact clA
   refine ZV ?_;refine zw 105 rfl (fun bn=>?_) (fun bn=>?_)
   ·refine vj ?_;refine zJ (e_R ⟨rfl,agA,?_⟩);exact clA
   refine zn8 ?_;refine zw 110 rfl (fun bm=>?_) (fun bm=>?_)
   ·refine zn7 ?_;refine zJ (e_R ⟨rfl,agA,?_⟩);exact clA
   refine uw ?_;refine zJ (e_R ⟨rfl,agA,?_⟩);exact clA
  refine e_S ?_;refine zQ rfl (fun an=>?_) (fun an=>?_)
  ·have ac:=ft3 l.length fs k a3 bg hsn an;refine zn3 ?_;refine ba Y8 (uZ _ _ _) rfl (fun w27 s21=>?_);refine zZ a1.u rfl rfl xv rfl qz (fun w28 hq s22=>?_);replace a1:=hq;refine zn8 ?_;refine xK (.inl rfl) rfl (zW U36 rfl rfl a1.range0 xv) ?_;exact⟨xq (b6.trans (x7 (c:=3) oG ac dE)),hB.u⟩
  have ac:=ft0 l.length fs k a3 bg hsn an;refine zn7 ?_;refine x8 (fs.length-(k+1)) oG agA ?_;exact⟨k+1,O6 mp (fs[k]'a3).name (.int .i64 k),by omega,rfl,rfl,hB,a4.u,a1,a2,bh,b6.trans (vQ a3 ac)⟩
 refine zn7 ?_;refine wl (gQ (vs:=#[]) (cs:=#[.int .i64 0,.int .i64 0]) (by simp) kR) ?_;refine zZ a1 rfl rfl xv rfl qz (fun w29 hq s23=>?_);replace a1:=hq;refine zn3 ?_;refine xK (.inl rfl) rfl (zW U36 rfl rfl a1.range0 xv) ?_;exact⟨xq (b6.trans (jz oG)),hB.u⟩
theorem meet_yes(h60:l.length<=60)(hm:m<l.length)(hcm:jY l a b m=true)(hl:∀ i,i<m->jY l a b i=false)(hc:c<l.length)(hcc:jY l a b c=true)(hs:sub l c m=false):(meet l a b).2.2=true:=by
 have h0:vK l a b≠0:=fun h=>by
  have:=mask_eq_zero.1 h m hm;rw[hcm]at this;cases this
 have hz:=Ik h60 h0;have he:Lib.ctz 64 (vK l a b)=m:=by
  have h1:¬Lib.ctz 64 (vK l a b)<m:=fun h=>by
   have:=hl _ h;rw[show jY l a b (Lib.ctz 64 (vK l a b))=true from hz.2.1]at this;cases this
  have h2:¬m<Lib.ctz 64 (vK l a b):=fun h=>by
   have:=hz.2.2 m h;rw[hcm]at this;cases this
  omega
 have hd:Q9 l (Lib.ctz 64 (vK l a b))≠vK l a b:=fun h=>by
  rw[he]at h;have:=mask_inj.1 h c hc;rw[hs,hcc]at this;cases this
 simp only[meet,if_neg h0,if_pos hd]
theorem meet_none(h:∀ i,i<l.length->jY l a b i=false):(meet l a b).2.2=false:=by
 have h0:vK l a b=0:=mask_eq_zero.2 h;simp only[meet,if_pos h0]
theorem meet_some(hv:VT l)(h60:l.length<=60)(hm:m<l.length)(a1:jY l a b m=true)(hl:∀ i,i<m->jY l a b i=false)(hs:∀ i,i<l.length->jY l a b i=true->sub l i m=true):(meet l a b).2.2=false:=by
 have h0:vK l a b≠0:=fun h=>by
  have:=mask_eq_zero.1 h m hm;rw[a1]at this;cases this
 have hz:=Ik h60 h0;have he:Lib.ctz 64 (vK l a b)=m:=by
  have h1:¬Lib.ctz 64 (vK l a b)<m:=fun h=>by
   have:=hl _ h;rw[show jY l a b (Lib.ctz 64 (vK l a b))=true from hz.2.1]at this;cases this
  have h2:¬m<Lib.ctz 64 (vK l a b):=fun h=>by
   have:=hz.2.2 m h;rw[a1]at this;cases this
  omega
 have hd:Q9 l (Lib.ctz 64 (vK l a b))=vK l a b:=by
  rw[he];refine kW (fun i hi=>?_);cases h1:sub l i m with
  | true=>
   simp only[jY,Bool.and_eq_true]at a1;simp[jY,XY hv h1 a1.1,XY hv h1 a1.2]
  | false=>
   cases h2:jY l a b i with
   | false=>rfl
   | true=>rw[hs i hi h2]at h1;cases h1
 simp only[meet,if_neg h0,hd,ne_eq,not_true_eq_false,if_false]
inductive MS(l:List Ty)(a b c:Nat)(m:Int):Prop
 | none (h:m= -1) (h0:∀ i,i<c->jY l a b i=false)
 | some (n:Nat) (h:m=n) (hn:n<c) (h1:jY l a b n=true) (h2:∀ i,i<n->jY l a b i=false) (h3:∀ i,i<c->jY l a b i=true->sub l i n=true)
theorem MS.start(l:List Ty)(a b:Nat):MS l a b 0 (-1):= .none rfl (fun i h=>by omega)
theorem MS.skip{m:Int}(h:MS l a b c m)(hc:jY l a b c=false):MS l a b (c+1) m:=by
 cases h with
 | none h h0=>exact .none h (fun i hi=>by
  by_cases e:i=c
  ·subst e;exact hc
  ·exact h0 i oG)
 | some n h hn h1 h2 h3=>exact .some n h oG h1 h2 (fun i hi a1=>by
  by_cases e:i=c
  ·subst e;rw[hc]at a1;cases a1
  ·exact h3 i oG a1)
theorem MS.first(hv:VT l){m:Int}(h:MS l a b c m)(hm:m<0)(hc:jY l a b c=true):MS l a b (c+1) c:=by
 cases h with
 | none h h0=>exact .some c rfl oG hc h0 (fun i hi hci=>by
  by_cases e:i=c
  ·subst e;exact Y0 hv _
  ·rw[h0 i oG]at hci;cases hci)
 | some n h=>omega
theorem MS.pos{m:Int}(h:MS l a b c m)(hm:¬m<0):∃ n:Nat,m=n/\n<c/\jY l a b n=true/\(∀ i,i<n->jY l a b i=false)/\∀ i,i<c->jY l a b i=true->sub l i n=true:=by
 cases h with
 | none h=>omega
 | some n h hn h1 h2 h3=>exact⟨n,h,hn,h1,h2,h3⟩
theorem MS.end_(hv:VT l)(h60:l.length<=60){m:Int}(h:MS l a b l.length m):(meet l a b).2.2=false:=by
 cases h with
 | none h h0=>exact meet_none h0
 | some n h hn h1 h2 h3=>exact meet_some hv h60 hn h1 h2 h3
def F7(n:Nat)(r:Nat->Nat)(k i:Nat):Value:=if i<k then .slice (some ⟨r i,0,none⟩) n n else .slice none 0 0
def H6(l:List Ty):Int:=if (gW l).1=0 then -1 else (gW l).2
theorem DY{k:Int}(h:gW l=(16,k)):H6 l=k:=by simp[H6,h]
theorem unmI_no(h:gW l=(0,0)):H6 l= -1:=by simp[H6,h]
theorem Z9{a b:Int}(h:a=b):Ending.returned (.int .i64 b)= .returned (.int .i64 a):=by rw[h]
theorem in107:(prog.info? 107).map (fun i=>(i.zero,i.size,i.bytes))=some (some (.slice none 0 0),1,24):=by kernel_rfl
theorem in4_Unmet:(prog.info? 4).map (fun i=>(i.zero,i.size,i.bytes))=some (some (.bool false),1,1):=by kernel_rfl
theorem sz107:(prog.info? 107).map (·.size)=some 1:=by kernel_rfl
theorem sz4_Unmet:(prog.info? 4).map (·.size)=some 1:=by kernel_rfl
theorem unmetR_any(A:Option Addr)(c:Nat)(l:List Ty)(w:World)(hT:TypesIn w A l)(hv:VT l)(b3:l.length<=60):Calls prog 48 #[.slice A l.length c] w fun e w'=>e= .returned (.int .i64 (H6 l))/\Bel w w':=by
 refine enT func48 ntmps48 rfl rfl fun hB=>?_;refine Yv ?_;refine XV (m:=l.length) underlying114 in107 rfl rfl rfl oG oG (fun b14 w1 a1 s1 hr=>?_);have lo14:=hB.ob hr;refine jq ?_;refine qx (rg [5,6] 16 24) (fun m g w'=>∃(k:Nat) (r:Nat->Nat),k<=l.length/\m=l.length-k/\g 16= .int .i64 k/\Bel w w'/\Blk w' b14 107 (row l.length (fun i=>F7 l.length r k i))/\(∀ i,i<k->Blk w' (r i) 4 (row l.length (fun j=> .bool (sub l i j))))) (l.length) ?_ (fun m g4 w2 hI=>?_)
 ·refine⟨0,fun _=>0,ag _,rfl,rfl,hB.u,?_,fun i hi=>by omega⟩;rw[xJ (g':=fun _=> .slice none 0 0) (fun j _=>by simp[F7])];exact a1
 obtain⟨k,r,hk,hm,h16,hB,a1,a4⟩:=hI;refine zX 16 _ h16 nu (zn6 ?_);refine zQ rfl (fun c17=>?_) (fun c17=>?_)
 ·have ac:k<l.length:=by omega
  refine Yv ?_;refine XV (m:=l.length) JW in4_Unmet rfl rfl rfl oG oG (fun a5 w3 a2 s2 hr=>?_);have:=a1.ob hr;have a3:=(fun(i:Nat) (hi:i<k)=>nLL (a4 i hi).lt hr)
  have lo22:=hB.ob hr;replace a4:=fun i hi=>(a4 i hi).tr0 s2
  refine zn1 ?_;replace a1:=a1.tr0 s2;refine xQ (v:= .slice _ _ _) a1 rfl rfl sz107 (by rw[row_size];omega) rfl kv (fun w4 hq s3=>?_);replace a4:=fun i hi=>(a4 i hi).tr1 s3 (by first|(have:=a3 i hi;omega)|exact fun h=>absurd (jy (h ▸ a4 i hi) a1) dE)
  replace a1:=hq
  rw[xJ (g':=fun i=>F7 l.length (fun i=>if i=k then a5 else r i) (k+1) i) (fun j _=>by
    by_cases e:j=k
    · subst e;simp[F7]
    · have e1:(j<k+1)↔(j<k):=by omega
      simp[F7,e,e1])]at a1
  have e14:F7 l.length (fun i=>if i=k then a5 else r i) (k+1) k= .slice (some ⟨a5,0,none⟩) l.length l.length:=by simp[F7]
  refine zn9 ?_;refine qx (rg [6] 25 14) (fun m g w'=>∃(j:Nat),j<=l.length/\m=l.length-j/\g 25= .int .i64 j/\Bel w w'/\Blk w' b14 107 (row l.length (fun i=>F7 l.length (fun i=>if i=k then a5 else r i) (k+1) i))/\Blk w' a5 4 (row l.length (fun x=> .bool (if x<j then sub l k x else false)))/\(∀ i,i<k->Blk w' (r i) 4 (row l.length (fun j=> .bool (sub l i j))))) (l.length) ?_ (fun m g8 w5 hI=>?_)
  ·refine⟨0,ag _,rfl,rfl,hB.u,a1,?_,a4⟩;replace a2:=a2.tr1 s3 oG;rw[xJ (g':=fun _=> .bool false) (fun j _=>by simp)];exact a2
  obtain⟨j,hj,hmj,h25,hB,a1,a2,a4⟩:=hI;refine zX 25 _ h25 nu (zn6 ?_);refine zQ rfl (fun c26=>?_) (fun c26=>?_)
  ·have hlj:j<l.length:=by omega
   refine yW ?_;refine Qz [] [10] [0,1,2,3,4,5,6,7,8,9,10] rfl (fun w6 s4=>?_);replace a4:=fun i hi=>(a4 i hi).tr0 s4
   refine zn3 ?_;replace a1:=a1.tr0 s4;refine hl1 (v:= .slice (some ⟨a5,0,none⟩) l.length l.length) rfl JW rfl rfl (by rw[<- e14];exact a1.cell (vW ac)) (zn4 ?_);refine hcl (fun v wv=>v= .bool (sub l k j)) rfl kR (IK _ _ _ _ _ w6 (hT.mono hB.u) hv b3 ac hlj) rfl (fun e' w2 hr=>?_) (fun v36 w7 s5 d36=>?_)
   ·obtain⟨rfl,s6⟩:=hr;exact⟨_,rfl,sB s6,rfl⟩
   replace a4:=fun i hi=>(a4 i hi).tr0 s5
   have e36:=d36;subst e36;refine zn1 ?_;refine h1 rfl ?_;replace a2:=a2.tr0 (s4.t s5);refine xQ (v:= .bool _) a2 rfl rfl sz4_Unmet (by rw[row_size];omega) rfl kv (fun w8 hq s7=>?_);have hsH10:=s7;replace a1:=(a1.tr0 s5).tr1 s7 oG;replace a4:=fun i hi=>(a4 i hi).tr1 s7 (by first|(have:=a3 i hi;omega)|exact fun h=>absurd (jy (h ▸ a4 i hi) a1) dE)
   replace a2:=hq
   rw[xJ (g':=fun x=> .bool (if x<j+1 then sub l k x else false)) (fun x _=>by
     by_cases e:x=j
     · subst e;simp
     · have e1:(x<j+1)↔(x<j):=by omega
       simp[e,e1])]at a2
   refine zJ (D0 [] (zn7 ?_));refine x8 (l.length-(j+1)) oG agA ?_;exact⟨j+1,by omega,rfl,rfl,hB.u,a1,a2,a4⟩
  have hjl:j=l.length:=by omega
  rw[hjl,xJ (g':=fun x=> .bool (sub l k x)) (fun x hx=>by simp[hx])]at a2;replace a4:∀ i,i<k+1->Blk w5 (if i=k then a5 else r i) 4 (row l.length (fun j=> .bool (sub l i j))):=fun i hi=>by
    by_cases e:i=k
    · subst e;simp only[if_true];exact a2
    · simp only[if_neg e];exact a4 i oG
  refine yW ?_;refine x8 (l.length-(k+1)) oG agA ?_;exact⟨k+1,fun i=>if i=k then a5 else r i,by omega,rfl,rfl,hB,a1,a4⟩
 have hkl:k=l.length:=by omega
 rw[hkl,xJ (g':=fun i=> .slice (some ⟨r i,0,none⟩) l.length l.length) (fun j hj=>by simp[F7,hj])]at a1;rw[hkl]at a4;refine uw ?_;refine qx (rg [2,7,8,9,10] 41 42) (fun m g w'=>∃(k:Nat),k<=l.length/\m=l.length-k/\g 41= .int .i64 k/\w2=w'/\gW l=qQ (PV l) k (l.length-k)) (l.length) ?_ (fun m g14 w9 hI=>?_)
 ·exact⟨0,ag _,rfl,rfl,rfl,rfl⟩
 obtain⟨k,hk2,hm,h41,rfl,hU⟩:=hI;refine zX 41 _ h41 nu (zn6 ?_);refine zQ rfl (fun c42=>?_) (fun c42=>?_)
 ·have ac:k<l.length:=by omega
  refine PK ?_;refine qx (rg [2,8,9,10] 45 37) (fun m g w'=>∃(a:Nat),a<=k/\m=k-a/\g 45= .int .i64 a/\w2=w'/\(∀ j,j<a->(meet l j k).2.2=false)) (k) ?_ (fun m g17 w10 hI=>?_)
  ·exact⟨0,ag _,rfl,rfl,rfl,fun j hj=>by omega⟩
  obtain⟨a,ha,hma,h45,rfl,hM⟩:=hI;refine zX 45 _ h45 nu (zn6 ?_);refine zQ rfl (fun c46=>?_) (fun c46=>?_)
  ·refine zn22 ?_;refine qx (rg [2,9,10] 49 32) (fun m g w'=>∃(x:Nat) (m9:Int),x<=l.length/\m=l.length-x/\g 49= .int .i64 x/\g 9= .int .i64 m9/\w2=w'/\MS l a k x m9) (l.length) ?_ (fun m g21 w11 hI=>?_)
   ·exact⟨0,-1,ag _,rfl,rfl,rfl,rfl,MS.start l a k⟩
   obtain⟨x,m9,hx,hmx,h49,h9,rfl,hS⟩:=hI;refine zX 49 _ h49 nu (zX 9 _ h9 nu (zn6 ?_));refine zQ rfl (fun c50=>?_) (fun c50=>?_)
   ·have a9:x<l.length:=by omega
    refine jq ?_;refine xw (rg [] 52 16) 67 (.bool (decide (jY l a k x=true))) nu ?_ (fun gq=>?_)
    ·refine zn4 ?_;refine wl (qy (v:= .slice _ _ _) JW rfl rfl (a1.cell (vW a9))) (zn2 ?_);refine wl (qy (v:= .bool _) U4 rfl rfl ((a4 x a9).cell (vW oG))) (wl (xz (v:= .bool _) rfl) ?_);refine XW 59 rfl (fun b4=>?_) (fun b4=>?_)
     ·refine zn7 ?_;refine wl (qy (v:= .slice _ _ _) JW rfl rfl (a1.cell (vW a9))) (zn5 ?_);refine wl (qy (v:= .bool _) U4 rfl rfl ((a4 x a9).cell (vW ac))) (zn1 ?_);refine zJ (e_R ⟨rfl,agA,?_⟩);show Value.bool _=Value.bool _;exact ae (by simp[jY,b4])
     refine zn8 ?_;refine zJ (e_R ⟨rfl,agA,?_⟩);show Value.bool _=Value.bool _;exact ae (by simp[jY,b4])
    refine e_S ?_;refine zQ rfl (fun ao=>?_) (fun ao=>?_)
    ·refine zn6 ?_;refine zQ rfl (fun b6=>?_) (fun b6=>?_)
     ·have an:=hS.first hv b6 ao;refine yW ?_;refine x8 (l.length-(x+1)) oG agA ?_;exact⟨x+1,_,by omega,rfl,rfl,rfl,rfl,an⟩
     obtain⟨mn,rfl,hmn,hq1,hq2,hq3⟩:=hS.pos b6;refine zn5 ?_;refine wl (qy (v:= .slice _ _ _) JW rfl rfl (a1.cell (vW a9))) (zn2 ?_);refine wl (qy (v:= .bool _) U4 rfl rfl ((a4 x a9).cell (vW oG))) (zn3 ?_);refine jQ rfl (fun b5=>?_) (fun b5=>?_)
     ·have b2:=meet_yes b3 (show mn<l.length by omega) hq1 hq2 a9 ao (by simpa using b5);have b1:=C0 (show a<k by omega) b2;have ab:=DY (hU.trans (x7 oG b1 dE));refine zn21 ?_;exact⟨Z9 ab,hB⟩
     have an:MS l a k (x+1) (mn:Int):= .some mn rfl oG hq1 hq2 (fun i hi hci=>by
       by_cases e:i=x
       · subst e;simpa using b5
       · exact hq3 i oG hci)
     refine zn7 ?_;refine x8 (l.length-(x+1)) oG agA ?_;exact⟨x+1,_,by omega,rfl,rfl,rfl,rfl,an⟩
    have an:=hS.skip (by simpa using ao);refine zn7 ?_;refine x8 (l.length-(x+1)) oG agA ?_;exact⟨x+1,_,by omega,rfl,rfl,rfl,rfl,an⟩
   have hxl:x=l.length:=by omega
   subst hxl;have b2:=hS.end_ hv b3;refine yW ?_;refine x8 (k-(a+1)) oG agA ?_
   exact⟨a+1,by omega,rfl,rfl,rfl,fun j hj=>by
     by_cases e:j=a
     · subst e;exact b2
     · exact hM j oG⟩
  have b1:PV l k=0:=unmF_no (fun j hj=>hM j oG);refine yW ?_;refine x8 (l.length-(k+1)) oG agA ?_;exact⟨k+1,by omega,rfl,rfl,rfl,hU.trans (vQ ac b1)⟩
 have ab:=unmI_no (hU.trans (jz oG));refine vj ?_;exact⟨Z9 ab,hB⟩
theorem fseen_yes{l:List Ft}{s:ByteArray}(hk:k<l.length)(hj:j<k)(h:(l[j]'oG).name=s):seen ((l.take k).map (·.name)) s=true:=by
 simp only[seen,List.any_eq_true,decide_eq_true_eq,List.mem_map];refine⟨_,⟨l[j]'oG,?_,rfl⟩,h⟩;rw[List.mem_take_iff_getElem];exact⟨j,by omega,rfl⟩
theorem Ew(f:Nat->Int):∀(m i:Nat),qQ f i m=(0,0)\/∃ j:Nat,qQ f i m=(f j,(j:Int))/\f j≠0
 | 0,_=> .inl rfl
 | m+1,i=>by
  unfold qQ
  by_cases h:f i≠0
  ·exact .inr ⟨i,by rw[if_pos h],h⟩
  ·rw[if_neg h];exact Ew f m (i+1)
theorem N5(l:List Ty):gW l=(0,0)\/∃ j:Nat,gW l=(16,(j:Int)):=by
 rcases Ew (PV l) l.length 0 with h|⟨j,h,hne⟩
 ·exact .inl h
 ·refine .inr ⟨j,?_⟩
  have h16:PV l j=16:=by
   unfold PV at hne ⊢
   split
   ·rfl
   ·rename_i hx;rw[if_neg hx]at hne;exact absurd rfl hne
  rw[<- h16];exact h
theorem unmI_geq(h:0<=H6 l):gW l=(16,H6 l):=by
 rcases N5 l with e|⟨j,e⟩
 ·rw[unmI_no e]at h;omega
 ·rw[DY e,e]
theorem unmI_lss(h:¬0<=H6 l):gW l=(0,0):=by
 rcases N5 l with e|⟨j,e⟩
 ·exact e
 ·rw[DY e]at h;omega
theorem Pj:zK Tryz.prog 28=true:=by kernel_rfl
theorem Sq(A B:Option Addr)(c d:Nat)(l:List Ty)(fs:List Ft)(w:World)(hc:l.length<=c)(hd:fs.length<=d)(hT:TypesIn w A l)(hF:FeatsIn w B fs):Calls Tryz.prog 27 #[.agg #[.slice A l.length c,.slice B fs.length d]] w fun e w'=>e= .returned (flV (qK l fs))/\Bel w w':=by
 refine enT Tryz.func27 Tryz.ntmps27 rfl rfl fun hB=>?_;refine zn2 ?_;refine xy (v:= .agg #[_,_]) (cs:=#[_,_]) rfl rfl (fun b1 w1 a4 s1 hr=>?_);refine qW (cs:=#[.int .i64 0,.int .i64 0]) J4 rfl (fun b2 w2 a1 s2 hr=>?_);have lo2:=hB.u.ob hr;refine jq ?_;refine zQ rfl (fun c12=>?_) (fun c12=>?_)
 ·refine zn2 ?_;refine wl (vw (v0:= .int _ _) (v1:= .int _ _) (fun v0 v1=>#[v0,v1]) rfl rfl kR) ?_;refine zZ a1 rfl rfl xv rfl qz (fun w3 hq s3=>?_);replace a1:=hq;refine zn4 ?_;refine xK (.inl rfl) rfl (zW U36 rfl rfl a1.range0 xv) ?_;exact⟨xq (hf_size (.inr (.inr oG))),hB.u⟩
 refine zn7 ?_;refine ba kR (C3 _ _ _ _ hc (hT.mono hB.u)) rfl (fun w4 s4=>?_);refine yx (cs:=#[.int .i64 0,.int .i64 0]) J4 rfl (fun _=>rfl) (fun _=>rfl) xv rfl qz (fun b3 w6 hb3 s5 hr=>?_);refine zn9 ?_;refine zQ rfl (fun c19=>?_) (fun c19=>?_)
 ·refine zn3 ?_;refine zZ a1.u rfl rfl xv rfl qz (fun w7 hq s6=>?_);replace a1:=hq;refine zn4 ?_;refine xK (.inl rfl) rfl (zW U36 rfl rfl a1.range0 xv) ?_;exact⟨xq (GJ oG oG),hB.u⟩
 have ab:(xZ l).1=0:=by omega
 have hv:=vt_of ab;have htl:=O2 ab;refine zn7 ?_;refine ba kR (unmetR_any _ _ _ _ (hT.mono hB.u) hv oG) rfl (fun w8 s7=>?_);refine zn9 ?_;refine zQ rfl (fun b9=>?_) (fun b9=>?_)
 ·have ao:=GQ (fs:=fs) oG ab (unmI_geq b9);refine zn3 ?_;refine wl (vw (v0:= .int _ _) (v1:= .int _ _) (fun v0 v1=>#[v0,v1]) rfl rfl kR) ?_;refine zZ a1.u rfl rfl xv rfl qz (fun w9 hq s8=>?_);replace a1:=hq;refine zn4 ?_;refine xK (.inl rfl) rfl (zW U36 rfl rfl a1.range0 xv) ?_;exact⟨xq ao,hB.u⟩
 have hR:=Lib.hid (hf_rest (fs:=fs) oG ab (unmI_lss b9));refine vj ?_;refine qx (rg [5,6,8] 31 55) (fun m g w'=>∃(k:Nat),k<=fs.length/\m=fs.length-k/\g 31= .int .i64 k/\Bel w w'/\Blk w' b1 25 #[.slice A l.length c,.slice B fs.length d]/\Blk w' b2 36 #[.int .i64 0,.int .i64 0]/\qK l fs=qQ (Zq l.length fs) k (fs.length-k)) (fs.length) ?_ (fun m g10 w10 hI=>?_)
 ·exact⟨0,ag _,rfl,rfl,hB.u,a4.u,a1.u,hR.out⟩
 obtain⟨k,hk,hm,h31,hB,a4,a1,a9⟩:=hI;refine zX 31 _ h31 nu (zn6 ?_);refine zQ rfl (fun c32=>?_) (fun c32=>?_)
 ·have a2:k<fs.length:=by omega
  obtain⟨tb,to,rfl,htb,htr⟩:=hF.at_ hB a2;refine zn8 ?_;refine wl (qw U61 rfl rfl htr sz61) ?_;refine qW (cs:=#[.string ⟨#[]⟩,.int .i64 0,.int .i64 0]) ze61 rfl (fun b6 w11 a5 s9 hr=>?_);have:=a4.ob hr;have:=a1.ob hr;have lo6:=hB.ob hr;refine waI rfl ?_;refine zZ a5 rfl rfl sz61 rfl qz (fun w12 hq s10=>?_);replace a5:=hq;refine zn7 ?_;refine ba Pj (O9 _ _) rfl (fun w13 s11=>?_);refine zn3 ?_;refine jQ rfl (fun b7=>?_) (fun b7=>?_)
  ·have a3:=ft10 l.length fs k a2 (by simpa using b7);refine zn3 ?_;refine wl (vw (v0:= .int _ _) (v1:= .int _ _) (fun v0 v1=>#[v0,v1]) rfl rfl kR) ?_;refine zZ a1.u rfl rfl xv rfl qz (fun w14 hq s12=>?_);replace a1:=hq;refine zn9 ?_;refine xK (.inl rfl) rfl (zW U36 rfl rfl a1.range0 xv) ?_;exact⟨xq (a9.trans (x7 (c:=10) oG a3 dE)),hB.u⟩
  have an:yJ (fs[k]'a2).name=true:=by simpa using b7
  refine zn8 ?_;refine wl (I7 (h:=k) U23 sz61 rfl rfl oG) (zn5 ?_);refine qx (rg [8] 47 12) (fun m g w'=>∃(j:Nat),j<=k/\m=k-j/\g 47= .int .i64 j/\Bel w w'/\Blk w' b1 25 #[.slice A l.length c,.slice (some ⟨tb,to,none⟩) fs.length d]/\Blk w' b2 36 #[.int .i64 0,.int .i64 0]/\Blk w' b6 61 #[.string (fs[k]'a2).name,.int .i64 (fs[k]'a2).of,.int .i64 (fs[k]'a2).val]/\seen ((fs.take j).map (·.name)) (fs[k]'a2).name=false) (k) ?_ (fun m g15 w15 hI=>?_)
  ·exact⟨0,ag _,rfl,rfl,hB.u,a4.u,a1.u,a5.u,rfl⟩
  obtain⟨j,hj,hmj,h47,hB,a4,a1,a5,hse⟩:=hI;refine zX 47 _ h47 nu (zn6 ?_);refine zQ rfl (fun c48=>?_) (fun c48=>?_)
  ·have hjt:j<fs.length:=by omega
   obtain⟨ub,uo,he,hub,hur⟩:=hF.at_ hB hjt;cases he;refine zn7 ?_;refine wl (qw U61 rfl rfl hur sz61) ?_;refine yx (cs:=#[.string ⟨#[]⟩,.int .i64 0,.int .i64 0]) ze61 rfl (fun _=>rfl) (fun _=>rfl) sz61 rfl qz (fun b8 w17 hb8 s13 hr=>?_);refine jq ?_;refine zQ rfl (fun b5=>?_) (fun b5=>?_)
   ·have a3:=ft7 l.length fs k a2 an (fseen_yes a2 oG b5);refine zn3 ?_;refine wl (vw (v0:= .int _ _) (v1:= .int _ _) (fun v0 v1=>#[v0,v1]) rfl rfl kR) ?_;refine zZ a1.u rfl rfl xv rfl qz (fun w18 hq s14=>?_);replace a1:=hq;refine uw ?_;refine xK (.inl rfl) rfl (zW U36 rfl rfl a1.range0 xv) ?_;exact⟨xq (a9.trans (x7 (c:=7) oG a3 dE)),hB.u⟩
   have ac:seen ((fs.take (j+1)).map (·.name)) (fs[k]'a2).name=false:=by rw[ZZ fs hjt,List.map_append,List.map_cons,List.map_nil,Xw,hse];simp[b5]
   refine zn7 ?_;refine x8 (k-(j+1)) oG agA ?_;exact⟨j+1,by omega,rfl,rfl,hB.u,a4.u,a1.u,a5.u,ac⟩
  have hsn:seen ((fs.take k).map (·.name)) (fs[k]'a2).name=false:=by
    have e:k=j:=by omega
    subst e;exact hse
  refine zn6 ?_;refine xw (rg [] 59 24) 82 (.bool (decide ((fs[k]'a2).of<0\/(l.length:Int)<=(fs[k]'a2).of\/(fs[k]'a2).val<0\/(l.length:Int)<=(fs[k]'a2).val))) nu ?_ (fun gq=>?_)
  ·refine zn5 ?_;refine zw 62 rfl (fun g62=>?_) (fun g62=>?_)
   ·refine zn20 ?_;refine zJ (e_R ⟨rfl,agA,?_⟩);exact clA
   refine ZV ?_;refine zw 70 rfl (fun g70=>?_) (fun g70=>?_)
   ·refine vj ?_;refine zJ (e_R ⟨rfl,agA,?_⟩);exact clA
   refine zn8 ?_;refine zw 75 rfl (fun g75=>?_) (fun g75=>?_)
   ·refine zn7 ?_;refine zJ (e_R ⟨rfl,agA,?_⟩);exact clA
   refine uw ?_;refine zJ (e_R ⟨rfl,agA,?_⟩);exact clA
  refine e_S ?_;refine zQ rfl (fun b4=>?_) (fun b4=>?_)
  ·have a3:=ft3 l.length fs k a2 an hsn b4;refine zn3 ?_;refine wl (vw (v0:= .int _ _) (v1:= .int _ _) (fun v0 v1=>#[v0,v1]) rfl rfl kR) ?_;refine zZ a1 rfl rfl xv rfl qz (fun w19 hq s15=>?_);replace a1:=hq;refine zn8 ?_;refine xK (.inl rfl) rfl (zW U36 rfl rfl a1.range0 xv) ?_;exact⟨xq (a9.trans (x7 (c:=3) oG a3 dE)),hB.u⟩
  have a3:=ft0 l.length fs k a2 an hsn b4;refine zn7 ?_;refine x8 (fs.length-(k+1)) oG agA ?_;exact⟨k+1,by omega,rfl,rfl,hB,a4,a1,a9.trans (vQ a2 a3)⟩
 refine zn7 ?_;refine wl (gQ (vs:=#[]) (cs:=#[.int .i64 0,.int .i64 0]) (by simp) kR) ?_;refine zZ a1 rfl rfl xv rfl qz (fun w20 hq s16=>?_);replace a1:=hq;refine zn3 ?_;refine xK (.inl rfl) rfl (zW U36 rfl rfl a1.range0 xv) ?_;exact⟨xq (a9.trans (jz oG)),hB.u⟩
def capB(l:List Ty)(a b c:Nat):Bool:=sub l a c&&sub l b c
def joinB(l:List Ty)(a b c:Nat):Bool:=capB l a b c&&(List.range l.length).all (fun j=>!(!(decide (j=c))&&sub l j c&&capB l a b j))
def restN(l:List Ty)(a b k:Nat):Nat:=u4 (fun i=>capB l a b i&&decide (k<=i)) l.length
structure RestAt(l:List Ty)(a b k i:Nat):Prop where
 lt:i<l.length
 le:k<=i
 cap:capB l a b i=true
 gap:∀ j,k<=j->j<i->joinB l a b j=false
 next:restN l a b k&&&(restN l a b k-1)=restN l a b (i+1)
theorem meet_is(hv:VT l)(h60:l.length<=60)(hm:m<l.length)(a1:jY l a b m=true)(hs:∀ i,i<l.length->jY l a b i=true->sub l i m=true):meet l a b=(m,true,false):=by
 have h0:vK l a b≠0:=fun h=>by
  have:=mask_eq_zero.1 h m hm
  grind
 have hz:=Ik h60 h0;have he:Lib.ctz 64 (vK l a b)=m:=by
  have h1:¬m<Lib.ctz 64 (vK l a b):=fun h=>by
   have:=hz.2.2 m h
   grind
  have h2:=Nz hv (hs _ hz.1 hz.2.1);exact Nat.le_antisymm (Nat.le_of_not_lt h1) h2
 have hd:Q9 l (Lib.ctz 64 (vK l a b))=vK l a b:=by
  rw[he];refine kW (fun i hi=>?_);cases h1:sub l i m with
  | true=>
   simp only[jY,Bool.and_eq_true]at a1;simp[jY,XY hv h1 a1.1,XY hv h1 a1.2]
  | false=>
   grind
 unfold meet
 grind
theorem Oy(h60:l.length<=60)(h:(meet l a b).2.1=true):(meet l a b).1<l.length/\jY l a b (meet l a b).1=true/\∀ i,i<l.length->jY l a b i=true->sub l i (meet l a b).1=true:=by
 by_cases h0:vK l a b=0
 ·grind[meet]
 by_cases hd:Q9 l (Lib.ctz 64 (vK l a b))≠vK l a b
 ·simp only[meet,if_neg h0,if_pos hd]at h;cases h
 have e:meet l a b=(Lib.ctz 64 (vK l a b),true,false):=by simp only[meet,if_neg h0,if_neg hd]
 have hz:=Ik h60 h0;rw[e];refine⟨hz.1,hz.2.1,fun i hi hc=>?_⟩;have hd':Q9 l (Lib.ctz 64 (vK l a b))=vK l a b:=az.1 hd;have:=mask_inj.1 hd' i hi
 grind
theorem meet_zero(h:(meet l a b).2.1=false):(meet l a b).1=0:=by
 unfold meet at h ⊢
 grind
theorem FX(_hv:VT l)(h60:l.length<=60)(h:∀ m,m<l.length->jY l a b m=true->∃ i,i<l.length/\jY l a b i=true/\sub l i m=false):(meet l a b).2.1=false/\(meet l a b).1=0:=by
 cases hok:(meet l a b).2.1 with
 | false=>exact⟨rfl,meet_zero hok⟩
 | true=>
  obtain⟨h1,h2,h3⟩:=Oy h60 hok
  grind
theorem meet_comm(l:List Ty)(a b:Nat):meet l b a=meet l a b:=by
 have e:vK l b a=vK l a b:=kW (fun i _=>Bool.and_comm _ _);unfold meet;rw[e]
structure V5(l:List Ty):Prop where
 vt:VT l
 pos:0<l.length
 le:l.length<=60
 all:∀ a b i,a<l.length->b<l.length->i<l.length->jY l a b i=true->(meet l a b).2.1=true
theorem Ky(h:(qK l fs).1=0):V5 l:=by
 unfold qK at h;by_cases h4:40<fs.length
 ·grind
 rw[if_neg h4]at h;by_cases ht:(xZ l).1≠0
 ·grind
 rw[if_neg ht]at h;have ht0:=az.1 ht;by_cases hu:(gW l).1≠0
 ·grind
 have hu0:=az.1 hu;have hv:=vt_of ht0;have hl:=O2 ht0;have h60:l.length<=60:=by omega
 have hlt:∀ a b,a<b->b<l.length->(meet l a b).2.2=false:=fun a b hab hb=>by
  have h1:=uX hu0 b (ag _) oG
  grind[meet,C0,h1]
 have a1:∀ a b,a<l.length->b<l.length->(meet l a b).2.2=false:=fun a b ha hb=>by
  rcases Nat.lt_trichotomy a b with h1|h1|h1
  ·grind
  ·subst h1
   have:=meet_is hv h60 (a:=a) (b:=a) ha (by simp[jY,Y0 hv]) (fun i _ hc=>by
    simp only[jY,Bool.and_eq_true]at hc
    exact hc.1)
   rw[this]
  ·grind[meet_comm,h1]
 refine⟨hv,by omega,h60,fun a b i ha hb hi hc=>?_⟩;have h1:=a1 a b ha hb;have h0:vK l a b≠0:=fun h=>by
  have:=mask_eq_zero.1 h i hi
  grind
 by_cases hd:Q9 l (Lib.ctz 64 (vK l a b))≠vK l a b
 ·simp only[meet,if_neg h0,if_pos hd]at h1;cases h1
 ·simp only[meet,if_neg h0,if_neg hd]
theorem HK(hv:VT l)(h:sub l a b=true)(h2:sub l b a=true):a=b:=Nat.le_antisymm (Nz hv h2) (Nz hv h)
structure Tri(l:List Ty)(a b c m:Nat)(ok:Bool):Prop where
 yes:ok=true->m<l.length/\(sub l m a=true/\sub l m b=true/\sub l m c=true)/\∀ i,i<l.length->sub l i a=true->sub l i b=true->sub l i c=true->sub l i m=true
 no:ok=false->m=0/\∀ i,i<l.length->sub l i a=true->sub l i b=true->sub l i c=true->False
theorem Tri.uniq(hv:VT l){p q:Bool}(h:Tri l a b c m p)(k:Tri l a b c n q):p=q/\m=n:=by
 cases p with
 | true=>
  obtain⟨h1,⟨h2,h3,h4⟩,h5⟩:=h.yes rfl;cases q with
  | true=>
   obtain⟨k1,⟨k2,k3,k4⟩,k5⟩:=k.yes rfl;exact⟨rfl,HK hv (k5 m h1 h2 h3 h4) (h5 n k1 k2 k3 k4)⟩
  | false=>exact((k.no rfl).2 m h1 h2 h3 h4).elim
 | false=>
  cases q with
  | true=>
   obtain⟨k1,⟨k2,k3,k4⟩,k5⟩:=k.yes rfl;exact((h.no rfl).2 n k1 k2 k3 k4).elim
  | false=>exact⟨rfl,(h.no rfl).1.trans (k.no rfl).1.symm⟩
def twoF(l:List Ty)(fs:List Ft)(a b:Int):Fl:=
 if (qK l fs).1≠0 then qK l fs else if a<0\/(l.length:Int)<=a then (3,-2)else if b<0\/(l.length:Int)<=b then (3,-3)else (0,0)
structure TwoOk(l:List Ty)(fs:List Ft)(a b:Int):Prop where
 h:(qK l fs).1=0
 s:V5 l
 a0:0<=a
 al:a<l.length
 b0:0<=b
 bl:b<l.length
 z:twoF l fs a b=(0,0)
def hsub(l:List Ty)(fs:List Ft)(a b:Int):Bool:=if (twoF l fs a b).1≠0 then false else sub l a.toNat b.toNat
theorem CV{w:World}{base:Nat}{A:Option Addr}{cap:Nat}{xs:List Int}(h:Own w base 3 1 A xs.length cap (xs.map (Value.int .i64))):IntsIn w A xs:=
 ⟨h.max,fun hn=>by
  obtain⟨g,e,hb,hg,hc⟩:=h.cell (by simpa using hn)
  refine⟨g,0,e,hg,fun k hk=>?_⟩
  have:=hc k (.int .i64 xs[k]) (by simp[hk])
  simpa using this⟩
theorem E5{w:World}{base:Nat}{A:Option Addr}{cap:Nat}{xs:List Int}{z:Int}(h:Own w base 3 1 A (xs.length+1) cap (xs.map (Value.int .i64)++[Value.int .i64 z])):Own w base 3 1 A (xs++[z]).length cap ((xs++[z]).map (Value.int .i64)):=by
 grind
theorem D6(A:Option Addr)(cap:Nat)(xs:List Int)(z:Int):Value.slice A (xs.length+1) cap=Value.slice A (xs++[z]).length cap:=by rw[List.length_append];rfl
end Go.Proofs.YtgcgnkmmbecfmaaGreatDoor
