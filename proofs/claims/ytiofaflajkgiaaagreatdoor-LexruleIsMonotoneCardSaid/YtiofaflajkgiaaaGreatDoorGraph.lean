/- What these functions compute, at every world: hierarchy.Tables, hierarchy.Validate, ref3.Unmet; and plain laws. -/
import Derived.Test.YtiofaflajkgiaaaGreatDoorU
import Derived.Test.YtiofaflajkgiaaaGreatDoorZst
import Derived.Test.YtiofaflajkgiaaaGreatDoorMeet
namespace Go.Proofs.YtiofaflajkgiaaaGreatDoor
open Go.RowKit Go.Proofs.Tryz
def Mx(l:List Ty)(k:Nat)(ps:List Int)(x:Nat):Bool:=decide (x=k)||ps.any (fun p=>sub l p.toNat x)
theorem parM_zero{l:List Ty}{k:Nat}(hk:k<l.length):kv (Mx l k []) l.length=2^k:=by
 rw[Wv hk];exact kz (fun j _=>by simp[Mx])
theorem parM_snoc{l:List Ty}{k j:Nat}{ps:List Int}(hj:j<ps.length):kv (Mx l k (ps.take j)) l.length|||upN l (ps[j]).toNat=kv (Mx l k (ps.take (j+1))) l.length:=by
 unfold upN;rw[mask_or];refine kz (fun x _=>?_);simp only[Mx];rw[List.take_succ_eq_append_getElem hj,List.any_append];simp[Bool.or_assoc]
theorem parM_end{l:List Ty}(hv:VT l){k:Nat}(hk:k<l.length):kv (Mx l k (l[k]).par) l.length=upN l k:=by
 unfold upN;refine kz (fun x _=>?_);rw[LQ hv];have e1:decide (x=k)=decide (k=x):=by simp only[eq_comm]
 simp only[Mx,e1]
 congr 1
 simp only[OW,List.getElem?_eq_getElem hk,List.any_map];rfl
def upP(l:List Ty)(k i:Nat):Nat:=if i<k then upN l i else 0
def uS(l:List Ty)(k X i:Nat):Nat:=if i=k then X else upP l k i
theorem uS_k(l:List Ty)(k X:Nat):uS l k X k=X:=by simp[uS]
theorem uS_lt{l:List Ty}{k X p:Nat}(h:p<k):uS l k X p=upN l p:=by
 have:p≠k:=by omega
 simp[uS,upP,this,h]
theorem uS_end(l:List Ty)(k i:Nat):uS l k (upN l k) i=upP l (k+1) i:=by
 unfold uS upP;by_cases h:i=k
 ·subst h;simp
 ·have:(i<k+1)↔(i<k):=by omega
  simp[h,this]
def dnP(l:List Ty)(k j:Nat):Nat:=kv (fun i=>decide (i<k)&&sub l i j) l.length
theorem dnP_zero(l:List Ty)(j:Nat):dnP l 0 j=0:=mask_eq_zero.2 (fun i _=>by simp)
theorem dnP_yes{l:List Ty}{k j:Nat}(hk:k<l.length)(h:sub l k j=true):dnP l k j|||2^k=dnP l (k+1) j:=by
 unfold dnP;rw[Wv hk,mask_or];refine kz (fun i _=>?_);by_cases e:i=k
 ·subst e;simp[h]
 ·have e1:decide (i<k+1)=decide (i<k):=ai.2 oG
  simp[e,e1]
theorem dnP_no{l:List Ty}{k j:Nat}(h:sub l k j=false):dnP l k j=dnP l (k+1) j:=by
 unfold dnP;refine kz (fun i _=>?_);by_cases e:i=k
 ·subst e;simp[h]
 ·have e1:decide (i<k+1)=decide (i<k):=ai.2 oG
  simp[e1]
theorem dnP_end(l:List Ty)(j:Nat):dnP l l.length j=ZJ l j:=by
 unfold dnP ZJ;exact kz (fun i hi=>by simp[hi])
theorem upP_end{l:List Ty}{i:Nat}(h:i<l.length):upP l l.length i=upN l i:=by simp[upP,h]
def dS(l:List Ty)(k j x:Nat):Nat:=if x<j then dnP l (k+1) x else dnP l k x
theorem dS_j(l:List Ty)(k j:Nat):dS l k j j=dnP l k j:=by simp[dS]
theorem dS_yes{l:List Ty}{k j:Nat}(hk:k<l.length)(h:sub l k j=true)(x:Nat):(if x=j then dS l k j j|||2^k else dS l k j x)=dS l k (j+1) x:=by
 by_cases e:x=j
 ·subst e;simp only[if_true,dS_j,dnP_yes hk h];simp[dS]
 ·have e1:(x<j+1)↔(x<j):=by omega
  simp[e,dS,e1]
theorem dS_no{l:List Ty}{k j:Nat}(h:sub l k j=false)(x:Nat):dS l k j x=dS l k (j+1) x:=by
 by_cases e:x=j
 ·subst e;rw[dS_j,dnP_no h];simp[dS]
 ·have e1:(x<j+1)↔(x<j):=by omega
  simp[dS,e1]
theorem dS_lt{l:List Ty}(h:l.length<=60)(k j x:Nat):dS l k j x<18446744073709551616:=by
 unfold dS dnP;split<;>exact X8 _ h
theorem uS_bd{l:List Ty}(h:l.length<=60){k X x:Nat}(hX:X<18446744073709551616):uS l k X x<18446744073709551616:=by
 unfold uS upP;split
 ·exact hX
 ·split
  ·exact L2 h _
  ·decide
theorem Kv{n:Nat}{g:Nat->Nat}{f:Nat->Nat}(h:∀ j,j<n->g j=f j):row n (fun j=>Value.int .u64 ((g j:Nat):Int))=row n (fun j=>Value.int .u64 ((f j:Nat):Int)):=vx (fun j hj=>by rw[h j hj])
theorem LW{n k c:Nat}{g:Nat->Nat}:row n (fun j=>if j=k then Value.int .u64 (c:Int)else Value.int .u64 ((g j:Nat):Int))=row n (fun j=>Value.int .u64 ((if j=k then c else g j:Nat):Int)):=vx (fun j _=>by split<;>rfl)
theorem in114:(prog.info? 114).map (fun i=>(i.zero,i.size,i.bytes))=some (some (.int .u64 0),1,8):=by kernel_rfl
theorem MW:(prog.info? 113).map (·.size)=some 2:=by kernel_rfl
theorem sz84:(prog.info? 84).map (·.size)=some 2:=by kernel_rfl
theorem SX:(prog.info? 113).map (·.zero)=some (some (.agg #[.string ⟨#[]⟩,.slice none 0 0])):=by kernel_rfl
theorem ze84:(prog.info? 84).map (·.zero)=some (some (.agg #[.slice none 0 0,.slice none 0 0])):=by kernel_rfl
theorem Vk(A:Option Addr)(c:Nat)(l:List Ty)(w:World)(hT:TypesIn w A l)(hv:VT l)(bc:l.length<=60):Calls prog 29 #[.slice A l.length c] w fun e w'=>∃ bu bd,e= .returned (Lv l.length bu bd)/\TableIn w' l bu bd/\Bel w w':=by
 refine enT func29 ntmps29 rfl rfl fun hB=>?_;refine zn2 ?_;refine qk (cs:=#[.slice none 0 0,.slice none 0 0]) ze84 rfl (fun b2 w1 a7 s1 hr=>?_);have lo2:=nLT (Bel.size hB) hr;refine zn3 ?_;have z2:=a7.lt;replace hB:=hB.tr0 s1;have hsz:=Bel.size hB;refine uw 8 [9,10,11,12,13,14,15,3] (fun ix=>Nat.beq ix 2||Nat.beq ix 5||Nat.beq ix 7) (fun ix v wv=>match ix with|0=>v= .slice A l.length c|1=>v= .int .i64 l.length|2=>∃ bu,v= .slice (some ⟨bu,0,none⟩) l.length l.length/\w1.heap.size<=bu/\Blk wv bu 114 (row l.length (fun _=> .int .u64 0))|3=>v= .slice A l.length c|4=>v= .int .i64 l.length|5=>∃ bd,v= .slice (some ⟨bd,0,none⟩) l.length l.length/\w1.heap.size<=bd/\Blk wv bd 114 (row l.length (fun _=> .int .u64 0))|6=>∃ bu bd,v= .agg #[.slice (some ⟨bu,0,none⟩) l.length l.length,.slice (some ⟨bd,0,none⟩) l.length l.length]/\w1.heap.size<=bu/\Blk wv bu 114 (row l.length (fun _=> .int .u64 0))/\w1.heap.size<=bd/\Blk wv bd 114 (row l.length (fun _=> .int .u64 0))/\bu≠bd|7=>∃ b,v= .pointer (some ⟨b,0,none⟩)/\w1.heap.size<=b/\Blk wv b 84 #[.slice none 0 0,.slice none 0 0]|_=>True) kR kR ?_ ?_ ?_
 ·intro ix v wv wv2 h s2
  match ix,h with
  | 0,h=>exact h
  | 1,h=>exact h
  | 2,h=>
   obtain⟨bu,bh,a5,a1⟩:=(show ∃ bu,v= .slice (some ⟨bu,0,none⟩) l.length l.length/\w1.heap.size<=bu/\Blk wv bu 114 (row l.length (fun _=> .int .u64 0))from h)
   exact⟨bu,bh,a5,a1.tr0 s2⟩
  | 3,h=>exact h
  | 4,h=>exact h
  | 5,h=>
   obtain⟨bd,bg,a6,a2⟩:=(show ∃ bd,v= .slice (some ⟨bd,0,none⟩) l.length l.length/\w1.heap.size<=bd/\Blk wv bd 114 (row l.length (fun _=> .int .u64 0))from h)
   exact⟨bd,bg,a6,a2.tr0 s2⟩
  | 6,h=>
   obtain⟨bu,bd,bq,a5,a1,a6,a2,bf⟩:=(show ∃ bu bd,v= .agg #[.slice (some ⟨bu,0,none⟩) l.length l.length,.slice (some ⟨bd,0,none⟩) l.length l.length]/\w1.heap.size<=bu/\Blk wv bu 114 (row l.length (fun _=> .int .u64 0))/\w1.heap.size<=bd/\Blk wv bd 114 (row l.length (fun _=> .int .u64 0))/\bu≠bd from h)
   exact⟨bu,bd,bq,a5,a1.tr0 s2,a6,a2.tr0 s2,bf⟩
  | 7,h=>
   obtain⟨b3,e3,b6,a4⟩:=(show ∃ b,v= .pointer (some ⟨b,0,none⟩)/\w1.heap.size<=b/\Blk wv b 84 #[.slice none 0 0,.slice none 0 0]from h)
   exact⟨b3,e3,b6,a4.tr0 s2⟩
  | _+8,h=>exact trivial
 ·intro ix o hix hoq gg wx s3 hd b9
  match ix,hix,hoq with
  | 0,_,hoq=>
   cases sI hoq;exact oVq (xz (v:= .slice _ _ _) rfl) rfl
  | 1,_,hoq=>
   cases sI hoq;have d0:gg 9= .slice A l.length c:=hd 0 (zj kR);have e9:=d0;refine zz 9 _ e9 nu ?_;exact oVq (Oj U22 rfl) rfl
  | 2,_,hoq=>
   cases sI hoq;have b7:=s3;have d1:gg 10= .int .i64 l.length:=hd 1 (zj kR);have e10:=d1;refine zz 10 _ e10 nu ?_;refine jZ (fun ops Q K=>?_);refine M3 U82 in114 rfl rfl rfl oG oG (fun b11 w2 bb s4 hr=>?_);exact K _ _ ⟨s4,⟨_,rfl,nLT b7.size hr,bb⟩,fRq hr bb.lt⟩
  | 3,_,hoq=>
   cases sI hoq;exact oVq (xz (v:= .slice _ _ _) rfl) rfl
  | 4,_,hoq=>
   cases sI hoq;have d3:gg 12= .slice A l.length c:=hd 3 (zj kR);have e12:=d3;refine zz 12 _ e12 nu ?_;exact oVq (Oj U22 rfl) rfl
  | 5,_,hoq=>
   cases sI hoq;have b7:=s3;have d4:gg 13= .int .i64 l.length:=hd 4 (zj kR);have e13:=d4;refine zz 13 _ e13 nu ?_;refine jZ (fun ops Q K=>?_);refine M3 U82 in114 rfl rfl rfl oG oG (fun b14 w3 ba s5 hr=>?_);exact K _ _ ⟨s5,⟨_,rfl,nLT b7.size hr,ba⟩,fRq hr ba.lt⟩
  | 6,_,hoq=>
   cases sI hoq;have d2:∃ bu,gg 11= .slice (some ⟨bu,0,none⟩) l.length l.length/\w1.heap.size<=bu/\Blk wx bu 114 (row l.length (fun _=> .int .u64 0)):=hd 2 (zj kR);obtain⟨bu,bh,a5,a1⟩:=d2;have d5:∃ bd,gg 14= .slice (some ⟨bd,0,none⟩) l.length l.length/\w1.heap.size<=bd/\Blk wx bd 114 (row l.length (fun _=> .int .u64 0)):=hd 5 (zj kR);obtain⟨bd,bg,a6,a2⟩:=d5;have bf:bu≠bd:=fun h=>b9 2 5 bu (zj kR) (zj kR) dE rfl rfl (show jV (gg 11)=some bu by rw[bh];rfl) (show jV (gg 14)=some bu by rw[bg,h];rfl)
   refine zz 11 _ bh nu (zz 14 _ bg nu ?_);exact oVq (jk (v0:= .slice _ _ _) (v1:= .slice _ _ _) (fun v0 v1=>#[v0,v1]) rfl rfl kR) ⟨_,_,rfl,a5,a1,a6,a2,bf⟩
  | 7,_,hoq=>
   cases sI hoq;have b7:=s3;refine jZ (fun ops Q K=>?_);refine qk (cs:=#[.slice none 0 0,.slice none 0 0]) ze84 rfl (fun b3 w4 a4 s6 hr=>?_);exact K _ _ ⟨s6,⟨_,rfl,nLT b7.size hr,a4⟩,fRq hr a4.lt⟩
  | _+8,hix,_=>exact absurd hix oG
 intro gg w5 s7 hR b9;have d6:∃ bu bd,gg 15= .agg #[.slice (some ⟨bu,0,none⟩) l.length l.length,.slice (some ⟨bd,0,none⟩) l.length l.length]/\w1.heap.size<=bu/\Blk w5 bu 114 (row l.length (fun _=> .int .u64 0))/\w1.heap.size<=bd/\Blk w5 bd 114 (row l.length (fun _=> .int .u64 0))/\bu≠bd:=hR 6 dE;obtain⟨bu,bd,bq,a5,a1,a6,a2,bf⟩:=d6;have d7:∃ b,gg 3= .pointer (some ⟨b,0,none⟩)/\w1.heap.size<=b/\Blk w5 b 84 #[.slice none 0 0,.slice none 0 0]:=hR 7 dE;obtain⟨b3,e3,b6,a4⟩:=d7;have h3u:b3≠bu:=fun h=>absurd (vW (h ▸ a4) a1) dE
 have h3d:b3≠bd:=fun h=>absurd (vW (h ▸ a4) a2) dE
 have bk:b2<b3:=nLL z2 b6;have bi:b2<bu:=nLL z2 a5;have bj:b2<bd:=nLL z2 a6;replace b6:=nLT hsz b6;replace a5:=nLT hsz a5;replace a6:=nLT hsz a6;refine x9 15 _ bq nu (x9 3 _ e3 nu ?_);refine zk a4 rfl rfl sz84 rfl zJ (fun w6 hq s8=>?_);replace a4:=hq;refine kQ ?_;replace a1:=a1.tr1 s8 oG;replace a2:=a2.tr1 s8 oG;refine qj (rg [4,5,7,8] 18 56) (fun m g w'=>∃(k:Nat),k<=l.length/\m=l.length-k/\g 18= .int .i64 k/\Bel w w'/\Blk w' b2 84 #[.slice none 0 0,.slice none 0 0]/\Blk w' b3 84 #[.slice (some ⟨bu,0,none⟩) l.length l.length,.slice (some ⟨bd,0,none⟩) l.length l.length]/\Blk w' bu 114 (row l.length (fun i=> .int .u64 ((upP l k i:Nat):Int)))/\Blk w' bd 114 (row l.length (fun i=> .int .u64 ((dnP l k i:Nat):Int)))) (l.length) ?_ (fun m g3 w7 hI=>?_)
 ·refine⟨0,ag _,rfl,rfl,hB.u,a7.u,a4,?_,?_⟩
  · rw[Kv (f:=fun _=>0) (fun j _=>by simp[upP])];exact a1
  · rw[Kv (f:=fun _=>0) (fun j _=>dnP_zero l j)];exact a2
 obtain⟨k,hk,hm,h18,hB,a7,a4,a1,a2⟩:=hI;refine zK 18 _ h18 nu (zn6 ?_);refine zV rfl (fun c19=>?_) (fun c19=>?_)
 ·have a3:k<l.length:=by omega
  obtain⟨tb,to,A',cp,rfl,htb,htr,b8⟩:=hT.at_ hB a3;have hmx:=b8.1;unfold jx at hmx;refine zn8 ?_;refine wl (qZ U113 rfl rfl htr MW) ?_;refine qk (cs:=#[.string ⟨#[]⟩,.slice none 0 0]) SX rfl (fun b5 w8 a9 s9 hr=>?_);have:=nLL a7.lt hr;have:=nLL a1.lt hr;have:=nLL a2.lt hr;have:=nLL a4.lt hr;have lo5:=nLT (Bel.size hB) hr;refine waI rfl ?_;refine zk a9 rfl rfl MW rfl zJ (fun w9 hq b4=>?_);replace a9:=hq;refine zn3 ?_;refine KW 6 kR kR (fun w10 ad=>?_);refine zn4 ?_;refine ws (r_shl1 rfl rfl oG rfl) (zn1 ?_);refine Kk ?_;replace a1:=((a1.tr0 s9).tr1 b4 oG).tr0 ad;refine xZ (v:= .int _ _) a1 rfl rfl sz114 (by rw[row_size];omega) rfl uk (fun w11 hq b1=>?_);replace a1:=hq;replace hB:=(((hB.tr0 s9).tr1 b4 lo5).tr0 ad).tr1 b1 a5;replace a7:=(((a7.tr0 s9).tr1 b4 oG).tr0 ad).tr1 b1 oG;replace a2:=(((a2.tr0 s9).tr1 b4 oG).tr0 ad).tr1 b1 oG;replace a4:=(((a4.tr0 s9).tr1 b4 oG).tr0 ad).tr1 b1 oG;replace a9:=(a9.tr0 ad).tr1 b1 oG;replace a1:Blk w11 bu 114 (row l.length (fun i=> .int .u64 ((uS l k (kv (Mx l k ((l[k]'a3).par.take 0)) l.length) i:Nat):Int))):=by
    rw[LW (g:=fun i=>upP l k i)]at a1;rw[Kv (f:=fun i=>if i=k then 2^k else upP l k i) (fun j _=>by rw[List.take_zero,parM_zero a3];rfl)];exact a1
  refine jz ?_;refine qj (rg [7] 32 17) (fun m g w'=>∃(j:Nat),j<=(l[k]'a3).par.length/\m=(l[k]'a3).par.length-j/\g 32= .int .i64 j/\Bel w w'/\Blk w' b2 84 #[.slice none 0 0,.slice none 0 0]/\Blk w' b3 84 #[.slice (some ⟨bu,0,none⟩) l.length l.length,.slice (some ⟨bd,0,none⟩) l.length l.length]/\Blk w' bu 114 (row l.length (fun i=> .int .u64 ((uS l k (kv (Mx l k ((l[k]'a3).par.take j)) l.length) i:Nat):Int)))/\Blk w' bd 114 (row l.length (fun i=> .int .u64 ((dnP l k i:Nat):Int)))/\Blk w' b5 113 #[.string (l[k]'a3).name,.slice A' (l[k]'a3).par.length cp]) ((l[k]'a3).par.length) ?_ (fun m g7 w12 hI=>?_)
  ·exact⟨0,ag _,rfl,rfl,hB,a7,a4,a1,a2,a9⟩
  obtain⟨j,hj,hmj,h32,hB,a7,a4,a1,a2,a9⟩:=hI;refine zK 32 _ h32 nu (zn6 ?_);refine zV rfl (fun c33=>?_) (fun c33=>?_)
  ·have an:j<(l[k]'a3).par.length:=by omega
   obtain⟨pb,po,rfl,hpb,be⟩:=b8.at_ an;replace be:=hB.cell hpb be;have hpr:=hv k a3 _ (ar an);obtain⟨pn,hpn⟩:∃ pn:Nat,pn=((l[k]'a3).par[j]).toNat:=⟨_,rfl⟩
   have hpi:(l[k]'a3).par[j]=(pn:Int):=by rw[hpn];exact(Int.toNat_of_nonneg hpr.1).symm
   rw[hpi]at be hpr;have hXl:=X8 (Mx l k ((l[k]'a3).par.take j)) bc;refine zn7 ?_;refine wl (qW (v:= .int _ _) U3 rfl rfl be) (zn3 ?_);refine KW 12 kR kR (fun w13 s13=>?_);refine zn4 ?_;replace a1:=a1.tr0 s13;refine ws (qW (v:= .int _ _) JZ rfl rfl (a1.cell (jJ a3))) (zn4 ?_);refine ws (qW (v:= .int _ _) JZ rfl rfl (a1.cell (jJ oG))) (ws (YW rfl rfl (uS_bd bc hXl) (uS_bd bc hXl)) (zn1 ?_));refine Kk ?_;refine xZ (v:= .int _ _) a1 rfl rfl sz114 (by rw[row_size];omega) rfl uk (fun w14 hq s14=>?_);replace a1:=hq;replace a1:Blk w14 bu 114 (row l.length (fun i=> .int .u64 ((uS l k (kv (Mx l k ((l[k]'a3).par.take (j+1))) l.length) i:Nat):Int))):=by
     rw[LW (g:=fun i=>uS l k (kv (Mx l k ((l[k]'a3).par.take j)) l.length) i)]at a1
     rw[Kv (f:=fun i=>if i=k then uS l k (kv (Mx l k ((l[k]'a3).par.take j)) l.length) k|||uS l k (kv (Mx l k ((l[k]'a3).par.take j)) l.length) pn else uS l k (kv (Mx l k ((l[k]'a3).par.take j)) l.length) i) (fun i _=>by
       rw[uS_k,uS_lt (show pn<k by omega),hpn,parM_snoc an];by_cases e:i=k
       · simp[e,uS_k]
       · simp[e,uS])]
     exact a1
   refine zn7 ?_;refine xK ((l[k]'a3).par.length-(j+1)) oG agA ?_;replace a2:=(a2.tr0 s13).tr1 s14 oG;exact⟨j+1,by omega,rfl,rfl,hB.u,a7.u,a4.u,a1,a2,a9.u⟩
  have bo:j=(l[k]'a3).par.length:=by omega
  rw[bo,List.take_length,parM_end hv a3,Kv (f:=fun i=>upP l (k+1) i) (fun i _=>uS_end l k i)]at a1;refine oJ ?_;refine qj (rg [8] 51 22) (fun m g w'=>∃(j:Nat),j<=l.length/\m=l.length-j/\g 51= .int .i64 j/\Bel w w'/\Blk w' b2 84 #[.slice none 0 0,.slice none 0 0]/\Blk w' b3 84 #[.slice (some ⟨bu,0,none⟩) l.length l.length,.slice (some ⟨bd,0,none⟩) l.length l.length]/\Blk w' bu 114 (row l.length (fun i=> .int .u64 ((upP l (k+1) i:Nat):Int)))/\Blk w' bd 114 (row l.length (fun i=> .int .u64 ((dS l k j i:Nat):Int)))) (l.length) ?_ (fun m g12 w15 hI=>?_)
  ·refine⟨0,ag _,rfl,rfl,hB,a7,a4,a1,?_⟩;rw[Kv (f:=fun i=>dnP l k i) (fun i _=>by simp[dS])];exact a2
  obtain⟨j,hj,hmj,h51,hB,a7,a4,a1,a2⟩:=hI;refine zK 51 _ h51 nu (zn6 ?_);refine zV rfl (fun c52=>?_) (fun c52=>?_)
  ·have an:j<l.length:=by omega
   have bm:upP l (k+1) k=upN l k:=by simp[upP]
   have huv:=L2 bc k;have a8:=BQ (upN l k) j;have hbt:(upN l k).testBit j=sub l k j:=by unfold upN;rw[kj];simp[an]
   rw[hbt]at a8;refine M2 ?_;refine wl (qW (v:= .int _ _) JZ rfl rfl (a1.cell (jJ a3))) (wmI rfl (wl (r_shr (b:=j) rfl rfl oG rfl) (wl (Mq (b:=1) rfl rfl (by rw[bm];exact Nat.lt_of_le_of_lt (Nat.shiftRight_le _ _) huv) dE) (zn3 ?_))));refine zV rfl (fun br=>?_) (fun br=>?_)
   ·have bn:sub l k j=true:=by rw[<- a8];exact ah (by rw[bm]at br;omega)
    refine KW 9 kR kR (fun w16 s15=>?_);refine zn4 ?_;replace a2:=a2.tr0 s15;refine ws (qW (v:= .int _ _) JZ rfl rfl (a2.cell (jJ an))) (zn1 ?_);refine ws (r_shl1 rfl rfl oG rfl) (ws (YW rfl rfl (dS_lt bc _ _ _) (nLL (Nat.pow_lt_pow_right dE (show k<60 by omega)) dE)) (zn1 ?_));refine Kk ?_;refine xZ (v:= .int _ _) a2 rfl rfl sz114 (by rw[row_size];omega) rfl uk (fun w17 hq s16=>?_);replace a2:=hq;rw[LW (g:=fun i=>dS l k j i),Kv (f:=fun i=>dS l k (j+1) i) (fun i _=>dS_yes a3 bn i)]at a2;refine zn7 ?_;refine xK (l.length-(j+1)) oG agA ?_;replace a1:=(a1.tr0 s15).tr1 s16 oG;exact⟨j+1,by omega,rfl,rfl,hB.u,a7.u,a4.u,a1,a2⟩
   have bn:sub l k j=false:=by rw[<- a8];exact ao (by rw[bm]at br;omega)
   rw[Kv (f:=fun i=>dS l k (j+1) i) (fun i _=>dS_no bn i)]at a2;refine zn7 ?_;refine xK (l.length-(j+1)) oG agA ?_;exact⟨j+1,by omega,rfl,rfl,hB,a7,a4,a1,a2⟩
  have bo:j=l.length:=by omega
  rw[bo,Kv (f:=fun i=>dnP l (k+1) i) (fun i hi=>by simp[dS,hi])]at a2;refine vy ?_;refine xK (l.length-(k+1)) oG agA ?_;exact⟨k+1,by omega,rfl,rfl,hB,a7,a4,a1,a2⟩
 have hkl:k=l.length:=by omega
 subst hkl;refine zn8 ?_;refine zk a7 rfl rfl sz84 rfl zJ (fun w18 hq s17=>?_);replace a7:=hq;refine zn3 ?_;refine yx (.inl rfl) rfl (zZ U84 rfl rfl a7.range0 sz84) ?_;refine⟨bu,bd,rfl,⟨?_,?_⟩,hB.u⟩;replace a1:=a1.tr1 s17 oG
 · rw[Kv (f:=upN l) (fun i hi=>upP_end hi)]at a1;exact a1
 replace a2:=a2.tr1 s17 oG
 · rw[Kv (f:=ZJ l) (fun i _=>dnP_end l i)]at a2;exact a2
theorem Ok{i:Int}:∀ {ps:List Int} {a1:Int},o7 i a1 ps=0->∀ p∈ps,0<=p/\p<i
 | [],_,_,p,hp=>by cases hp
 | q::ps,a1,h,p,hp=>by
  unfold o7 at h
  by_cases h1:q<0\/i<=q
  ·rw[if_pos h1]at h;cases h
  rw[if_neg h1]at h
  by_cases h2:q<=a1
  ·rw[if_pos h2]at h;cases h
  rw[if_neg h2]at h
  rcases ap.1 hp with rfl|hp
  ·omega
  ·exact Ok h p hp
theorem L8{l:List Ty}{k:Nat}(hk:k<l.length)(h:kw l k=0):vK (l[k]).name=true/\Yk ((l.take k).map (·.name)) (l[k]).name=false/\(decide (k=0)==(l[k]).par.isEmpty)=true/\o7 k (-1) (l[k]).par=0:=by
 cases h1:vK (l[k]).name with
 | false=>rw[ty10 l k hk h1]at h;cases h
 | true=>
  cases h2:Yk ((l.take k).map (·.name)) (l[k]).name with
  | true=>rw[ty7 l k hk h1 h2]at h;cases h
  | false=>
   cases h3:(decide (k=0)==(l[k]).par.isEmpty)with
   | false=>rw[ty5 l k hk h1 h2 h3]at h;cases h
   | true=>
    rw[tyF_par l k hk h1 h2 h3,List.drop_zero]at h;exact⟨rfl,rfl,rfl,h⟩
theorem ux{f:Nat->Int}:∀ {m i:Nat},(vk f i m).1=0->∀ j,i<=j->j<i+m->f j=0
 | 0,i,_,j,h1,h2=>by omega
 | m+1,i,h,j,h1,h2=>by
  unfold vk at h
  by_cases h3:f i≠0
  ·rw[if_pos h3]at h;exact absurd h h3
  rw[if_neg h3]at h
  by_cases e:j=i
  ·subst e;exact ak.1 h3
  ·exact ux h j oG oG
theorem B7{l:List Ty}(h:(xV l).1=0):¬(l.length=0\/60<l.length):=by
 intro hb;simp only[xV,if_pos hb]at h;cases h
theorem types_ok{l:List Ty}(h:(xV l).1=0){k:Nat}(hk:k<l.length):kw l k=0:=by
 have hb:=B7 h;simp only[xV,if_neg hb]at h;exact ux h k (ag _) oG
theorem vt_of{l:List Ty}(h:(xV l).1=0):VT l:=fun _ hi p hp=>Ok (L8 hi (types_ok h hi)).2.2.2 p hp
def L4(l:List Ty)(b:Nat):Int:=if (List.range b).any (fun a=>(kW l a b).2.2)then 16 else 0
theorem RW{l:List Ty}{a b:Nat}(h:a<b)(hm:(kW l a b).2.2=true):L4 l b=16:=by
 unfold L4;rw[if_pos (List.any_eq_true.2 ⟨a,List.mem_range.2 h,hm⟩)]
theorem unmF_no{l:List Ty}{b:Nat}(h:∀ a,a<b->(kW l a b).2.2=false):L4 l b=0:=by
 unfold L4;rw[if_neg];intro hc;obtain⟨a,ha,hm⟩:=List.any_eq_true.1 hc;rw[h a (List.mem_range.1 ha)]at hm;cases hm
def C1(n:Nat)(t:Ft):Prop:=t.of<0\/(n:Int)<=t.of\/t.val<0\/(n:Int)<=t.val
instance(n:Nat)(t:Ft):Decidable (C1 n t):=by unfold C1;infer_instance
def ZX(n:Nat)(fs:List Ft)(i:Nat):Int:=match fs[i]? with
 | none=>0
 | some t=>if vK t.name=false then 10 else if Yk ((fs.take i).map (·.name)) t.name=true then 7 else if C1 n t then 3 else 0
theorem ft10(n:Nat)(l:List Ft)(k:Nat)(hlt:k<l.length)(h1:vK l[k].name=false):ZX n l k=10:=by
 simp only[ZX,List.getElem?_eq_getElem hlt,h1,if_true]
theorem ft7(n:Nat)(l:List Ft)(k:Nat)(hlt:k<l.length)(h1:vK l[k].name=true)(h2:Yk ((l.take k).map (·.name)) l[k].name=true):ZX n l k=7:=by
 simp only[ZX,List.getElem?_eq_getElem hlt,h1,h2,if_true];rfl
theorem ft3(n:Nat)(l:List Ft)(k:Nat)(hlt:k<l.length)(h1:vK l[k].name=true)(h2:Yk ((l.take k).map (·.name)) l[k].name=false)(h3:C1 n l[k]):ZX n l k=3:=by
 simp only[ZX,List.getElem?_eq_getElem hlt,h1,h2,if_pos h3];rfl
theorem ft0(n:Nat)(l:List Ft)(k:Nat)(hlt:k<l.length)(h1:vK l[k].name=true)(h2:Yk ((l.take k).map (·.name)) l[k].name=false)(h3:¬C1 n l[k]):ZX n l k=0:=by
 simp only[ZX,List.getElem?_eq_getElem hlt,h1,h2,if_neg h3];rfl
def M5(l:List Ty):Fl:=vk (L4 l) 0 l.length
def zY(l:List Ty)(fs:List Ft):Fl:=
 if 40<fs.length then (2,-1)
 else if (xV l).1≠0 then xV l
 else if (M5 l).1≠0 then M5 l
 else vk (ZX l.length fs) 0 fs.length
theorem hf_size{l:List Ty}{fs:List Ft}(h:l.length=0\/60<l.length\/40<fs.length):zY l fs=(2,-1):=by
 unfold zY;by_cases h4:40<fs.length
 ·rw[if_pos h4]
 ·have hb:l.length=0\/60<l.length:=by omega
  have ht:xV l=(2,-1):=by simp only[xV,if_pos hb]
  rw[if_neg h4,ht];rfl
theorem hf_types{l:List Ty}{fs:List Ft}(h:¬40<fs.length)(ht:(xV l).1≠0):zY l fs=((xV l).1,(xV l).2):=by
 unfold zY;rw[if_neg h,if_pos ht]
theorem hf_unmet{l:List Ty}{fs:List Ft}(h:¬40<fs.length)(ht:(xV l).1=0){k:Int}(hu:M5 l=(16,k)):zY l fs=(16,k):=by
 unfold zY;rw[if_neg h,if_neg (by rw[ht];exact fun h=>h rfl),hu];rfl
theorem hf_rest{l:List Ty}{fs:List Ft}(h:¬40<fs.length)(ht:(xV l).1=0)(hu:M5 l=(0,0)):zY l fs=vk (ZX l.length fs) 0 (fs.length-0):=by
 unfold zY;rw[if_neg h,if_neg (by rw[ht];exact fun h=>h rfl),hu];rfl
theorem XX:zX prog 96=true:=by kernel_rfl
theorem vX:(prog.info? 45).map (·.size)=some 2:=by kernel_rfl
theorem sz70:(prog.info? 70).map (·.size)=some 3:=by kernel_rfl
theorem ze3_Valid:(prog.info? 3).map (·.zero)=some (some (.int .i64 0)):=by kernel_rfl
theorem PZ:(prog.info? 45).map (·.zero)=some (some (.agg #[.int .i64 0,.int .i64 0])):=by kernel_rfl
theorem ze70:(prog.info? 70).map (·.zero)=some (some (.agg #[.string ⟨#[]⟩,.int .i64 0,.int .i64 0])):=by kernel_rfl
theorem MJ(A B:Option Addr)(c d:Nat)(l:List Ty)(fs:List Ft)(w:World)(bi:TabIn w)(hT:TypesIn w A l)(hF:FeatsIn w B fs):Calls prog 59 #[.agg #[.slice A l.length c,.slice B fs.length d]] w fun e w'=>e= .returned (flV (zY l fs))/\Bel w w':=by
 refine enT func59 ntmps59 rfl rfl fun hB=>?_;refine zn2 ?_;refine qY (v:= .agg #[_,_]) (cs:=#[_,_]) rfl rfl (fun b1 w1 a4 s1 hr=>?_);refine qk (cs:=#[.int .i64 0,.int .i64 0]) PZ rfl (fun b2 w2 a1 s2 hr=>?_);have lo2:=nLT (Bel.size hB.u) hr;refine zn4 ?_;replace hB:=hB.tr0 (s1.t s2);refine xk (rg [] 15 16) 30 (.bool (decide (l.length=0\/60<l.length\/40<fs.length))) nu ?_ (fun gq=>?_)
 ·refine zn6 ?_;refine zw 19 rfl (fun g19=>?_) (fun g19=>?_)
  ·refine kQ ?_;refine zQ (e_R ⟨rfl,agA,?_⟩);exact clA
  refine vy ?_;refine zw 25 rfl (fun g25=>?_) (fun g25=>?_)
  ·refine zn5 ?_;refine zQ (e_R ⟨rfl,agA,?_⟩);exact clA
  refine zn9 ?_;refine zQ (e_R ⟨rfl,agA,?_⟩);exact clA
 refine e_S ?_;refine zV rfl (fun c30=>?_) (fun c30=>?_)
 ·refine zn2 ?_;refine aY XX (uz _ _ _) rfl (fun w3 s3=>?_);refine zk a1.u rfl rfl vX rfl zJ (fun w4 hq s4=>?_);replace a1:=hq;refine zn4 ?_;refine yx (.inl rfl) rfl (zZ U45 rfl rfl a1.range0 vX) ?_;exact⟨vj (hf_size c30),hB.u⟩
 refine zn7 ?_;refine aY kR (types_any _ _ _ _ (hT.mono hB)) rfl (fun w5 s5=>?_);refine yj (cs:=#[.int .i64 0,.int .i64 0]) PZ rfl (fun _=>rfl) (fun _=>rfl) vX rfl zJ (fun b3 w7 hb3 s6 hr=>?_);refine zn9 ?_;refine zV rfl (fun c37=>?_) (fun c37=>?_)
 ·refine zn3 ?_;refine zk a1.u rfl rfl vX rfl zJ (fun w8 hq s7=>?_);replace a1:=hq;refine zn4 ?_;refine yx (.inl rfl) rfl (zZ U45 rfl rfl a1.range0 vX) ?_;exact⟨vj (hf_types oG oG),hB.u⟩
 have bc:(xV l).1=0:=by omega
 have hv:=vt_of bc;refine zn6 ?_;refine zW kR (Vk _ _ _ _ (hT.mono hB.u) hv oG) rfl (fun e' w9 hr=>?_);obtain⟨bu,bd,rfl,⟨a5,a6⟩,s8⟩:=hr;replace s8:=sB s8;have h2u:b2≠bu:=fun h=>absurd (vW (h ▸ a1.u) a5) dE
 have h2d:b2≠bd:=fun h=>absurd (vW (h ▸ a1.u) a6) dE
 refine⟨_,rfl,?_⟩;refine yj (cs:=#[.slice none 0 0,.slice none 0 0]) ze84 rfl (fun _=>rfl) (fun _=>rfl) sz84 rfl zJ (fun b4 w11 a7 s9 hr=>?_);refine jz ?_;replace a5:=a5.tr0 s9;replace a6:=a6.tr0 s9;refine qj (rg (rg [] 5 5) 45 20) (fun m g w'=>∃(k:Nat),k<=l.length/\m=l.length-k/\g 45= .int .i64 k/\Bel w w'/\Blk w' b1 25 #[.slice A l.length c,.slice B fs.length d]/\Blk w' b2 45 #[.int .i64 0,.int .i64 0]/\Blk w' b4 84 #[.slice (some ⟨bu,0,none⟩) l.length l.length,.slice (some ⟨bd,0,none⟩) l.length l.length]/\Blk w' bu 114 (rU l.length (upN l))/\Blk w' bd 114 (rU l.length (ZJ l))/\M5 l=vk (L4 l) k (l.length-k)) (l.length) ?_ (fun m g8 w12 hI=>?_)
 ·exact⟨0,ag _,rfl,rfl,hB.u,a4.u,a1.u,a7,a5,a6,rfl⟩
 obtain⟨k,hk,hm,h45,hB,a4,a1,a7,a5,a6,hU⟩:=hI;refine zK 45 _ h45 nu (zn6 ?_);refine zV rfl (fun c46=>?_) (fun c46=>?_)
 ·have a3:k<l.length:=by omega
  refine Ry ?_;refine qj (rg [6,7,8,9] 49 15) (fun m g w'=>∃(a:Nat),a<=k/\m=k-a/\g 49= .int .i64 a/\Bel w w'/\Blk w' b1 25 #[.slice A l.length c,.slice B fs.length d]/\Blk w' b2 45 #[.int .i64 0,.int .i64 0]/\Blk w' b4 84 #[.slice (some ⟨bu,0,none⟩) l.length l.length,.slice (some ⟨bd,0,none⟩) l.length l.length]/\Blk w' bu 114 (rU l.length (upN l))/\Blk w' bd 114 (rU l.length (ZJ l))/\(∀ j,j<a->(kW l j k).2.2=false)) (k) ?_ (fun m g11 w13 hI=>?_)
  ·exact⟨0,ag _,rfl,rfl,hB,a4,a1,a7,a5,a6,fun j hj=>by omega⟩
  obtain⟨a,ha,hma,h49,hB,a4,a1,a7,a5,a6,hM⟩:=hI;refine zK 49 _ h49 nu (zn6 ?_);refine zV rfl (fun c50=>?_) (fun c50=>?_)
  ·refine My ?_;refine aY kR (Wk l bu bd a k _ (bi.mono hB) ⟨a5,a6⟩ hv oG oG a3) rfl (fun w14 ad=>?_);refine wmT rfl (wl (y8 (v:= .int _ _) rfl rfl) (wl (y8 (v:= .bool _) rfl rfl) (wl (y8 (v:= .bool _) rfl rfl) (vy ?_))));refine ky rfl (fun bn=>?_) (fun bn=>?_)
   ·have bb:=RW (show a<k by omega) bn;have bh:=hf_unmet (fs:=fs) oG bc (hU.trans (yW oG bb dE));refine zn3 ?_;refine aY XX (uz _ _ _) rfl (fun w15 s11=>?_);refine zk a1.u rfl rfl vX rfl zJ (fun w16 hq s12=>?_);replace a1:=hq;refine jz ?_;refine yx (.inl rfl) rfl (zZ U45 rfl rfl a1.range0 vX) ?_;exact⟨vj bh,hB.u⟩
   refine zn7 ?_;refine xK (k-(a+1)) oG agA ?_;replace hB:=hB.tr0 ad;replace a4:=a4.tr0 ad;replace a1:=a1.tr0 ad;replace a5:=a5.tr0 ad;replace a6:=a6.tr0 ad;replace a7:=a7.tr0 ad
   exact⟨a+1,by omega,rfl,rfl,hB,a4,a1,a7,a5,a6,fun j hj=>by
     by_cases e:j=a
     ·subst e;exact bn
     ·exact hM j oG⟩
  have bb:L4 l k=0:=unmF_no (fun j hj=>hM j oG);refine vy ?_;refine xK (l.length-(k+1)) oG agA ?_;exact⟨k+1,by omega,rfl,rfl,hB,a4,a1,a7,a5,a6,hU.trans (ov a3 bb)⟩
 have hR:=Lib.hid (hf_rest (fs:=fs) oG bc (hU.trans (Z4 oG)));refine zn7 ?_;refine wl_mm (fun b65 w17 a2 s13 hr=>?_);have:=nLL a4.lt hr;have:=nLL a1.lt hr;have b9:=nLT (Bel.size hB) hr;refine wl (gk (v:= .map _) rfl) (jz ?_);refine qj (rg [11,12,13,14] 69 52) (fun m g w'=>∃(k:Nat) (mp:List (ByteArray×Value)),k<=fs.length/\m=fs.length-k/\g 69= .int .i64 k/\Bel w w'/\Blk w' b1 25 #[.slice A l.length c,.slice B fs.length d]/\Blk w' b2 45 #[.int .i64 0,.int .i64 0]/\MapS w' b65 mp/\(∀ s,lkB mp s=Yk ((fs.take k).map (·.name)) s)/\zY l fs=vk (ZX l.length fs) k (fs.length-k)) (fs.length) ?_ (fun m g20 w18 hI=>?_)
 ·exact⟨0,[],ag _,rfl,rfl,hB.u,a4.u,a1.u,a2,fun s=>rfl,hR.out⟩
 obtain⟨k,mp,hk,hm,h69,hB,a4,a1,a2,bg,b5⟩:=hI;refine zK 69 _ h69 nu (zn6 ?_);refine zV rfl (fun c70=>?_) (fun c70=>?_)
 ·have a3:k<fs.length:=by omega
  obtain⟨tb,to,rfl,htb,htr⟩:=hF.at_ hB a3;refine zn8 ?_;refine wl (qZ U70 rfl rfl htr sz70) ?_;refine qk (cs:=#[.string ⟨#[]⟩,.int .i64 0,.int .i64 0]) ze70 rfl (fun b12 w19 an b8 hr=>?_);have:=nLL a4.lt hr;have:=nLL a1.lt hr;have:=nLL a2.lt hr;have ba:=nLT (Bel.size hB) hr;refine waI rfl ?_;refine zk an rfl rfl sz70 rfl zJ (fun w20 hq b7=>?_);replace an:=hq;refine zn7 ?_;refine zW kR (NV _ _) rfl (fun e' w21 hr=>?_);obtain⟨rfl,rfl⟩:=hr;refine⟨_,rfl,?_⟩;refine zn3 ?_;refine ky rfl (fun bm=>?_) (fun bm=>?_)
  ·have a8:=ft10 l.length fs k a3 (by simpa using bm);refine zn3 ?_;refine aY XX (uz _ _ _) rfl (fun w22 s16=>?_);refine zk a1.u rfl rfl vX rfl zJ (fun w23 hq s17=>?_);replace a1:=hq;refine zn9 ?_;refine yx (.inl rfl) rfl (zZ U45 rfl rfl a1.range0 vX) ?_;exact⟨vj (b5.trans (yW (c:=10) oG a8 dE)),hB.u⟩
  have be:vK (fs[k]'a3).name=true:=by simpa using bm
  refine zn5 ?_;refine wl (xz (v:= .map _) rfl) (zn2 ?_);replace a2:=(a2.tr0 b8).tr1 b7 oG;refine wl (r_lkS a2 U156 U9 ze3_Valid rfl rfl) (wmT rfl (wl (y8 (v:=_) rfl rfl) (wl (y8 (v:= .bool _) rfl rfl) (wl (gk (v:=_) rfl) (zn8 ?_)))));refine ky rfl (fun b6=>?_) (fun b6=>?_)
  ·have a8:=ft7 l.length fs k a3 be ((bg _).symm.trans b6);refine zn3 ?_;refine aY XX (uz _ _ _) rfl (fun w24 s18=>?_);refine zk a1.u rfl rfl vX rfl zJ (fun w25 hq s19=>?_);replace a1:=hq;refine zn9 ?_;refine yx (.inl rfl) rfl (zZ U45 rfl rfl a1.range0 vX) ?_;exact⟨vj (b5.trans (yW (c:=7) oG a8 dE)),hB.u⟩
  have hsn:Yk ((fs.take k).map (·.name)) (fs[k]'a3).name=false:=by rw[<- bg];exact b6
  have bf:∀ s,lkB (D7 mp (fs[k]'a3).name (.int .i64 k)) s=Yk ((fs.take (k+1)).map (·.name)) s:=fun s=>by
    rw[Qq _ _ _ b6,I5 fs a3,List.map_append,List.map_cons,List.map_nil,BX,<- bg];simp[lkB]
  refine zn4 ?_;refine wl (xz (v:= .map _) rfl) (zn3 ?_);refine wl_muS (v:= .int _ _) a2 U156 U9 rfl rfl rfl (fun w26 hq s20=>?_);replace a2:=hq;refine zn3 ?_;replace hB:=((hB.tr0 b8).tr1 b7 ba).tr1 s20 b9;replace a1:=((a1.tr0 b8).tr1 b7 oG).tr1 s20 oG;refine xk (rg [] 94 24) 117 (.bool (decide ((fs[k]'a3).of<0\/(l.length:Int)<=(fs[k]'a3).of\/(fs[k]'a3).val<0\/(l.length:Int)<=(fs[k]'a3).val))) nu ?_ (fun gq=>?_)
  ·refine zn5 ?_;refine zw 97 rfl (fun g97=>?_) (fun g97=>?_)
   ·refine zn20 ?_;refine zQ (e_R ⟨rfl,agA,?_⟩);exact clA
   refine Jj ?_;refine zw 105 rfl (fun bk=>?_) (fun bk=>?_)
   ·refine jz ?_;refine zQ (e_R ⟨rfl,agA,?_⟩);exact clA
   refine zn8 ?_;refine zw 110 rfl (fun bj=>?_) (fun bj=>?_)
   ·refine zn7 ?_;refine zQ (e_R ⟨rfl,agA,?_⟩);exact clA
   refine oJ ?_;refine zQ (e_R ⟨rfl,agA,?_⟩);exact clA
  refine e_S ?_;refine zV rfl (fun a9=>?_) (fun a9=>?_)
  ·have a8:=ft3 l.length fs k a3 be hsn a9;refine zn3 ?_;refine aY XX (uz _ _ _) rfl (fun w27 s21=>?_);refine zk a1.u rfl rfl vX rfl zJ (fun w28 hq s22=>?_);replace a1:=hq;refine zn8 ?_;refine yx (.inl rfl) rfl (zZ U45 rfl rfl a1.range0 vX) ?_;exact⟨vj (b5.trans (yW (c:=3) oG a8 dE)),hB.u⟩
  have a8:=ft0 l.length fs k a3 be hsn a9;refine zn7 ?_;refine xK (fs.length-(k+1)) oG agA ?_;exact⟨k+1,D7 mp (fs[k]'a3).name (.int .i64 k),by omega,rfl,rfl,hB,a4.u,a1,a2,bf,b5.trans (ov a3 a8)⟩
 refine zn7 ?_;refine wl (kK (vs:=#[]) (cs:=#[.int .i64 0,.int .i64 0]) (by simp) kR) ?_;refine zk a1 rfl rfl vX rfl zJ (fun w29 hq s23=>?_);replace a1:=hq;refine zn3 ?_;refine yx (.inl rfl) rfl (zZ U45 rfl rfl a1.range0 vX) ?_;exact⟨vj (b5.trans (Z4 oG)),hB.u⟩
theorem meet_none{l:List Ty}{a b:Nat}(h:∀ i,i<l.length->Z5 l a b i=false):(kW l a b).2.2=false:=by
 have h0:j9 l a b=0:=mask_eq_zero.2 h;simp only[kW,if_pos h0]
theorem meet_some{l:List Ty}(hv:VT l)(h60:l.length<=60){a b m:Nat}(hm:m<l.length)(a1:Z5 l a b m=true)(hl:∀ i,i<m->Z5 l a b i=false)(hs:∀ i,i<l.length->Z5 l a b i=true->sub l i m=true):(kW l a b).2.2=false:=by
 have h0:j9 l a b≠0:=fun h=>by
  have:=mask_eq_zero.1 h m hm;rw[a1]at this;cases this
 have hz:=E3 h60 h0;have he:Lib.ctz 64 (j9 l a b)=m:=by
  have h1:¬Lib.ctz 64 (j9 l a b)<m:=fun h=>by
   have:=hl _ h;rw[show Z5 l a b (Lib.ctz 64 (j9 l a b))=true from hz.2.1]at this;cases this
  have h2:¬m<Lib.ctz 64 (j9 l a b):=fun h=>by
   have:=hz.2.2 m h;rw[a1]at this;cases this
  omega
 have hd:ZJ l (Lib.ctz 64 (j9 l a b))=j9 l a b:=by
  rw[he];refine kz (fun i hi=>?_);cases h1:sub l i m with
  | true=>
   simp only[Z5,Bool.and_eq_true]at a1;simp[Z5,QK hv h1 a1.1,QK hv h1 a1.2]
  | false=>
   cases h2:Z5 l a b i with
   | false=>rfl
   | true=>rw[hs i hi h2]at h1;cases h1
 simp only[kW,if_neg h0,hd,ne_eq,not_true_eq_false,if_false]
inductive MS(l:List Ty)(a b c:Nat)(m:Int):Prop
 | none (h:m= -1) (h0:∀ i,i<c->Z5 l a b i=false)
 | some (n:Nat) (h:m=n) (hn:n<c) (h1:Z5 l a b n=true) (h2:∀ i,i<n->Z5 l a b i=false) (h3:∀ i,i<c->Z5 l a b i=true->sub l i n=true)
theorem MS.start(l:List Ty)(a b:Nat):MS l a b 0 (-1):= .none rfl (fun i h=>by omega)
theorem MS.skip{l:List Ty}{a b c:Nat}{m:Int}(h:MS l a b c m)(hc:Z5 l a b c=false):MS l a b (c+1) m:=by
 cases h with
 | none h h0=>exact .none h (fun i hi=>by
  by_cases e:i=c
  ·subst e;exact hc
  ·exact h0 i oG)
 | some n h hn h1 h2 h3=>exact .some n h oG h1 h2 (fun i hi a1=>by
  by_cases e:i=c
  ·subst e;rw[hc]at a1;cases a1
  ·exact h3 i oG a1)
theorem MS.first{l:List Ty}(hv:VT l){a b c:Nat}{m:Int}(h:MS l a b c m)(hm:m<0)(hc:Z5 l a b c=true):MS l a b (c+1) c:=by
 cases h with
 | none h h0=>exact .some c rfl oG hc h0 (fun i hi hci=>by
  by_cases e:i=c
  ·subst e;exact YX hv _
  ·rw[h0 i oG]at hci;cases hci)
 | some n h=>omega
theorem MS.pos{l:List Ty}{a b c:Nat}{m:Int}(h:MS l a b c m)(hm:¬m<0):∃ n:Nat,m=n/\n<c/\Z5 l a b n=true/\(∀ i,i<n->Z5 l a b i=false)/\∀ i,i<c->Z5 l a b i=true->sub l i n=true:=by
 cases h with
 | none h=>omega
 | some n h hn h1 h2 h3=>exact⟨n,h,hn,h1,h2,h3⟩
theorem MS.end_{l:List Ty}(hv:VT l)(h60:l.length<=60){a b:Nat}{m:Int}(h:MS l a b l.length m):(kW l a b).2.2=false:=by
 cases h with
 | none h h0=>exact meet_none h0
 | some n h hn h1 h2 h3=>exact meet_some hv h60 hn h1 h2 h3
theorem Y0{a b:Int}(h:a=b):Ending.returned (.int .i64 b)= .returned (.int .i64 a):=by rw[h]
def capB(l:List Ty)(a b c:Nat):Bool:=sub l a c&&sub l b c
def joinB(l:List Ty)(a b c:Nat):Bool:=capB l a b c&&(List.range l.length).all (fun j=>!(!(decide (j=c))&&sub l j c&&capB l a b j))
def restN(l:List Ty)(a b k:Nat):Nat:=kv (fun i=>capB l a b i&&decide (k<=i)) l.length
structure RestAt(l:List Ty)(a b k i:Nat):Prop where
 lt:i<l.length
 le:k<=i
 cap:capB l a b i=true
 gap:∀ j,k<=j->j<i->joinB l a b j=false
 next:restN l a b k&&&(restN l a b k-1)=restN l a b (i+1)
theorem meet_is{l:List Ty}(hv:VT l)(h60:l.length<=60){a b m:Nat}(hm:m<l.length)(a1:Z5 l a b m=true)(hs:∀ i,i<l.length->Z5 l a b i=true->sub l i m=true):kW l a b=(m,true,false):=by
 have h0:j9 l a b≠0:=fun h=>by
  have:=mask_eq_zero.1 h m hm;rw[a1]at this;cases this
 have hz:=E3 h60 h0;have he:Lib.ctz 64 (j9 l a b)=m:=by
  have h1:¬m<Lib.ctz 64 (j9 l a b):=fun h=>by
   have:=hz.2.2 m h;rw[a1]at this;cases this
  have h2:=MY hv (hs _ hz.1 hz.2.1);exact Nat.le_antisymm (Nat.le_of_not_lt h1) h2
 have hd:ZJ l (Lib.ctz 64 (j9 l a b))=j9 l a b:=by
  rw[he];refine kz (fun i hi=>?_);cases h1:sub l i m with
  | true=>
   simp only[Z5,Bool.and_eq_true]at a1;simp[Z5,QK hv h1 a1.1,QK hv h1 a1.2]
  | false=>
   cases h2:Z5 l a b i with
   | false=>rfl
   | true=>rw[hs i hi h2]at h1;cases h1
 unfold kW;rw[if_neg h0,if_neg (fun h=>h hd),he]
theorem meet_spec{l:List Ty}(h60:l.length<=60){a b:Nat}(h:(kW l a b).2.1=true):(kW l a b).1<l.length/\Z5 l a b (kW l a b).1=true/\∀ i,i<l.length->Z5 l a b i=true->sub l i (kW l a b).1=true:=by
 by_cases h0:j9 l a b=0
 ·simp only[kW,if_pos h0]at h;cases h
 by_cases hd:ZJ l (Lib.ctz 64 (j9 l a b))≠j9 l a b
 ·simp only[kW,if_neg h0,if_pos hd]at h;cases h
 have e:kW l a b=(Lib.ctz 64 (j9 l a b),true,false):=by simp only[kW,if_neg h0,if_neg hd]
 have hz:=E3 h60 h0;rw[e];refine⟨hz.1,hz.2.1,fun i hi hc=>?_⟩;have hd':ZJ l (Lib.ctz 64 (j9 l a b))=j9 l a b:=ak.1 hd;have:=mask_inj.1 hd' i hi;rw[hc]at this;exact this
theorem meet_comm(l:List Ty)(a b:Nat):kW l b a=kW l a b:=by
 have e:j9 l b a=j9 l a b:=kz (fun i _=>Bool.and_comm _ _);unfold kW;rw[e]
structure Cz(l:List Ty):Prop where
 vt:VT l
 pos:0<l.length
 le:l.length<=60
 all:∀ a b i,a<l.length->b<l.length->i<l.length->Z5 l a b i=true->(kW l a b).2.1=true
theorem Qy{l:List Ty}{fs:List Ft}(h:(zY l fs).1=0):Cz l:=by
 unfold zY at h;by_cases h4:40<fs.length
 ·rw[if_pos h4]at h;cases h
 rw[if_neg h4]at h;by_cases ht:(xV l).1≠0
 ·rw[if_pos ht]at h;exact absurd h ht
 rw[if_neg ht]at h;have ht0:=ak.1 ht;by_cases hu:(M5 l).1≠0
 ·rw[if_pos hu]at h;exact absurd h hu
 have hu0:=ak.1 hu;have hv:=vt_of ht0;have hl:=B7 ht0;have h60:l.length<=60:=by omega
 have hlt:∀ a b,a<b->b<l.length->(kW l a b).2.2=false:=fun a b hab hb=>by
  have h1:=ux hu0 b (ag _) oG;cases h2:(kW l a b).2.2 with
  | false=>rfl
  | true=>rw[RW hab h2]at h1;cases h1
 have a1:∀ a b,a<l.length->b<l.length->(kW l a b).2.2=false:=fun a b ha hb=>by
  rcases Nat.lt_trichotomy a b with h1|h1|h1
  ·exact hlt a b h1 hb
  ·subst h1
   have:=meet_is hv h60 (a:=a) (b:=a) ha (by simp[Z5,YX hv]) (fun i _ hc=>by
    simp only[Z5,Bool.and_eq_true]at hc
    exact hc.1)
   rw[this]
  ·rw[<- meet_comm];exact hlt b a h1 ha
 refine⟨hv,by omega,h60,fun a b i ha hb hi hc=>?_⟩;have h1:=a1 a b ha hb;have h0:j9 l a b≠0:=fun h=>by
  have:=mask_eq_zero.1 h i hi;rw[hc]at this;cases this
 by_cases hd:ZJ l (Lib.ctz 64 (j9 l a b))≠j9 l a b
 ·simp only[kW,if_neg h0,if_pos hd]at h1;cases h1
 ·simp only[kW,if_neg h0,if_neg hd]
theorem Fk{l:List Ty}(hv:VT l){a b:Nat}(h:sub l a b=true)(h2:sub l b a=true):a=b:=Nat.le_antisymm (MY hv h2) (MY hv h)
structure Tri(l:List Ty)(a b c m:Nat)(ok:Bool):Prop where
 yes:ok=true->m<l.length/\(sub l m a=true/\sub l m b=true/\sub l m c=true)/\∀ i,i<l.length->sub l i a=true->sub l i b=true->sub l i c=true->sub l i m=true
 no:ok=false->m=0/\∀ i,i<l.length->sub l i a=true->sub l i b=true->sub l i c=true->False
theorem Tri.uniq{l:List Ty}(hv:VT l){a b c m n:Nat}{p q:Bool}(h:Tri l a b c m p)(k:Tri l a b c n q):p=q/\m=n:=by
 cases p with
 | true=>
  obtain⟨h1,⟨h2,h3,h4⟩,h5⟩:=h.yes rfl;cases q with
  | true=>
   obtain⟨k1,⟨k2,k3,k4⟩,k5⟩:=k.yes rfl;exact⟨rfl,Fk hv (k5 m h1 h2 h3 h4) (h5 n k1 k2 k3 k4)⟩
  | false=>exact((k.no rfl).2 m h1 h2 h3 h4).elim
 | false=>
  cases q with
  | true=>
   obtain⟨k1,⟨k2,k3,k4⟩,k5⟩:=k.yes rfl;exact((h.no rfl).2 n k1 k2 k3 k4).elim
  | false=>exact⟨rfl,(h.no rfl).1.trans (k.no rfl).1.symm⟩
def twoF(l:List Ty)(fs:List Ft)(a b:Int):Fl:=
 if (zY l fs).1≠0 then zY l fs else if a<0\/(l.length:Int)<=a then (3,-2)else if b<0\/(l.length:Int)<=b then (3,-3)else (0,0)
structure TwoOk(l:List Ty)(fs:List Ft)(a b:Int):Prop where
 h:(zY l fs).1=0
 s:Cz l
 a0:0<=a
 al:a<l.length
 b0:0<=b
 bl:b<l.length
 z:twoF l fs a b=(0,0)
def hsub(l:List Ty)(fs:List Ft)(a b:Int):Bool:=if (twoF l fs a b).1≠0 then false else sub l a.toNat b.toNat
theorem NX{w:World}{base:Nat}{A:Option Addr}{cap:Nat}{xs:List Int}{z:Int}(h:Own w base 3 1 A (xs.length+1) cap (xs.map (Value.int .i64)++[Value.int .i64 z])):Own w base 3 1 A (xs++[z]).length cap ((xs++[z]).map (Value.int .i64)):=by
 rw[List.length_append,List.map_append];exact h
theorem P9(A:Option Addr)(cap:Nat)(xs:List Int)(z:Int):Value.slice A (xs.length+1) cap=Value.slice A (xs++[z]).length cap:=by rw[List.length_append];rfl
structure Nd where
 ty:Int
 ln:List (Int×Int)
theorem VW{a b:Nd}(h1:a.ty=b.ty)(h2:a.ln=b.ln):a=b:=by
 cases a;cases b;simp only at h1 h2;rw[h1,h2]
instance:DecidableEq Nd:=fun a b=>decidable_of_iff (a.ty=b.ty/\a.ln=b.ln) ⟨fun h=>VW h.1 h.2,fun h=>by rw[h];exact⟨rfl,rfl⟩⟩
def LinksIn(w:World)(A:Option Addr)(xs:List (Int×Int)):Prop:=
 xs.length<=jx/\(xs≠[]->∃ b o,A=some ⟨b,o,none⟩/\b<w.heap.size/\∀ k (h:k<xs.length),w.rangeAt b (o+k*2) [.int .i64 (xs[k]).1,.int .i64 (xs[k]).2])
theorem LinksIn.mono{w w':World}{A:Option Addr}{xs:List (Int×Int)}(h:LinksIn w A xs)(hb:Bel w w'):LinksIn w' A xs:=
 ⟨h.1,fun hn=>by
  obtain⟨b,o,e,hl,hc⟩:=h.2 hn
  exact⟨b,o,e,nLL hl hb.size,fun k hk=>hb.range hl (hc k hk)⟩⟩
theorem LinksIn.at_{w w':World}{A:Option Addr}{xs:List (Int×Int)}(h:LinksIn w A xs)(hb:Bel w w'){k:Nat}(hk:k<xs.length):
  ∃ b o,A=some ⟨b,o,none⟩/\b<w.heap.size/\w'.rangeAt b (o+k*2) [.int .i64 (xs[k]).1,.int .i64 (xs[k]).2]:=by
 obtain⟨b,o,e,hl,hc⟩:=h.2 (by rintro rfl;simp at hk);exact⟨b,o,e,hl,hb.range hl (hc k hk)⟩
def NdIn(w:World)(b o:Nat)(n:Nd):Prop:=∃ A c,w.rangeAt b o [.int .i64 n.ty,.slice A n.ln.length c]/\LinksIn w A n.ln
def NodesIn(w:World)(A:Option Addr)(g:List Nd):Prop:=
 g.length<=jx/\(g≠[]->∃ b o,A=some ⟨b,o,none⟩/\b<w.heap.size/\∀ k (h:k<g.length),NdIn w b (o+k*2) g[k])
theorem NdIn.mono{w w':World}{b o:Nat}{n:Nd}(h:NdIn w b o n)(hb:Bel w w')(hl:b<w.heap.size):NdIn w' b o n:=by
 obtain⟨A,c,h1,h2⟩:=h;exact⟨A,c,hb.range hl h1,h2.mono hb⟩
theorem NodesIn.mono{w w':World}{A:Option Addr}{g:List Nd}(h:NodesIn w A g)(hb:Bel w w'):NodesIn w' A g:=
 ⟨h.1,fun hn=>by
  obtain⟨b,o,e,hl,hc⟩:=h.2 hn
  exact⟨b,o,e,nLL hl hb.size,fun k hk=>(hc k hk).mono hb hl⟩⟩
theorem NodesIn.at_{w w':World}{A:Option Addr}{g:List Nd}(h:NodesIn w A g)(hb:Bel w w'){k:Nat}(hk:k<g.length):
  ∃ b o A' c,A=some ⟨b,o,none⟩/\b<w.heap.size/\w'.rangeAt b (o+k*2) [.int .i64 (g[k]).ty,.slice A' (g[k]).ln.length c]/\LinksIn w A' (g[k]).ln:=by
 obtain⟨b,o,e,hl,hc⟩:=h.2 (by rintro rfl;simp at hk);obtain⟨A',c,h1,h2⟩:=hc k hk;exact⟨b,o,A',c,e,hl,hb.range hl h1,h2⟩
def uX(nf n:Nat)(x:Int×Int):Prop:=x.1<0\/(nf:Int)<=x.1\/x.2<0\/(n:Int)<=x.2
instance(nf n:Nat)(x:Int×Int):Decidable (uX nf n x):=by unfold uX;infer_instance
def yw(nf n:Nat):Int->List (Int×Int)->Int
 | _,[]=>0
 | last,x::xs=>if uX nf n x then 3 else if x.1<=last then 13 else yw nf n x.1 xs
def TJ(nt nf n:Nat)(x:Nd):Int:=if x.ty<0\/(nt:Int)<=x.ty then 3 else yw nf n (-1) x.ln
def XQ(nt nf:Nat)(g:List Nd)(i:Nat):Int:=match g[i]? with
 | none=>0
 | some x=>TJ nt nf g.length x
def vJ(nt nf:Nat)(g:List Nd):Fl:=if g.length=0\/60<g.length then (2,-2)else vk (XQ nt nf g) 0 g.length
theorem Iq{nt nf:Nat}{g:List Nd}{i:Nat}(hi:i<g.length)(h:(g[i]).ty<0\/(nt:Int)<=(g[i]).ty):XQ nt nf g i=3:=by
 simp only[XQ,List.getElem?_eq_getElem hi,TJ,if_pos h]
theorem Xz{nt nf:Nat}{g:List Nd}{i:Nat}(hi:i<g.length)(h:¬((g[i]).ty<0\/(nt:Int)<=(g[i]).ty)):XQ nt nf g i=yw nf g.length (-1) ((g[i]).ln.drop 0):=by
 simp only[XQ,List.getElem?_eq_getElem hi,TJ,if_neg h,List.drop_zero]
theorem ln_bad{nf n:Nat}{a1:Int}{xs:List (Int×Int)}{j:Nat}(hj:j<xs.length)(h:uX nf n xs[j]):yw nf n a1 (xs.drop j)=3:=by
 rw[List.drop_eq_getElem_cons hj];simp only[yw,if_pos h]
theorem ln_ord{nf n:Nat}{a1:Int}{xs:List (Int×Int)}{j:Nat}(hj:j<xs.length)(h:¬uX nf n xs[j])(h2:(xs[j]).1<=a1):yw nf n a1 (xs.drop j)=13:=by
 rw[List.drop_eq_getElem_cons hj];simp only[yw,if_neg h,if_pos h2]
theorem TW{nf n:Nat}{a1:Int}{xs:List (Int×Int)}{j:Nat}(hj:j<xs.length)(h:¬uX nf n xs[j])(h2:¬(xs[j]).1<=a1):yw nf n a1 (xs.drop j)=yw nf n (xs[j]).1 (xs.drop (j+1)):=by
 rw[List.drop_eq_getElem_cons hj];simp only[yw,if_neg h,if_neg h2]
theorem ln_end{nf n:Nat}{a1:Int}{xs:List (Int×Int)}{j:Nat}(hj:xs.length<=j):yw nf n a1 (xs.drop j)=0:=by
 rw[List.drop_eq_nil_of_le hj];rfl
theorem DK{nf n:Nat}:∀ {xs:List (Int×Int)} {a1:Int},yw nf n a1 xs=0->∀ x∈xs,¬uX nf n x
 | [],_,_,x,hx=>by cases hx
 | y::ys,a1,h,x,hx=>by
  unfold yw at h
  by_cases h1:uX nf n y
  ·rw[if_pos h1]at h;cases h
  rw[if_neg h1]at h
  by_cases h2:y.1<=a1
  ·rw[if_pos h2]at h;cases h
  rw[if_neg h2]at h
  rcases ap.1 hx with rfl|hx
  ·exact h1
  ·exact DK h x hx
theorem Oy{nf n:Nat}:∀ {xs:List (Int×Int)} {a1:Int},yw nf n a1 xs=0->-1<=a1->a1<nf->(xs.length:Int)<=nf-1-a1
 | [],a1,_,h1,h2=>by simp only[List.length_nil];omega
 | y::ys,a1,h,h1,h2=>by
  unfold yw at h
  by_cases h3:uX nf n y
  ·rw[if_pos h3]at h;cases h
  rw[if_neg h3]at h
  by_cases h4:y.1<=a1
  ·rw[if_pos h4]at h;cases h
  rw[if_neg h4]at h
  unfold uX at h3
  have:=Oy h oG oG
  simp only[List.length_cons]
  omega
structure GOk(nt nf:Nat)(g:List Nd):Prop where
 pos:0<g.length
 le:g.length<=60
 ty:∀ i (h:i<g.length),0<=(g[i]).ty/\(g[i]).ty<nt
 ln:∀ i (h:i<g.length),∀ x∈(g[i]).ln,0<=x.1/\x.1<nf/\0<=x.2/\x.2<g.length
 few:∀ i (h:i<g.length),(g[i]).ln.length<=nf
structure B4(nf:Nat)(g:List Nd):Prop where
 pos:0<g.length
 le:g.length<=1000000
 ln:∀ i (h:i<g.length),∀ x∈(g[i]).ln,0<=x.1/\x.1<nf/\0<=x.2/\x.2<g.length
 few:∀ i (h:i<g.length),(g[i]).ln.length<=nf
theorem GOk.two{nt nf:Nat}{g:List Nd}(h:GOk nt nf g):B4 nf g:=⟨h.pos,nLT h.le dE,h.ln,h.few⟩
theorem R6{nt nf:Nat}{g:List Nd}(h:(vJ nt nf g).1=0):GOk nt nf g:=by
 unfold vJ at h;by_cases h0:g.length=0\/60<g.length
 ·rw[if_pos h0]at h;cases h
 rw[if_neg h0]at h;have hi:∀ i (h:i<g.length),¬((g[i]).ty<0\/(nt:Int)<=(g[i]).ty)/\yw nf g.length (-1) (g[i]).ln=0:=fun i hl=>by
  have h1:=ux h i (ag _) oG;by_cases h2:(g[i]).ty<0\/(nt:Int)<=(g[i]).ty
  ·rw[Iq hl h2]at h1;cases h1
  ·rw[Xz hl h2,List.drop_zero]at h1
   exact⟨h2,h1⟩
 refine⟨by omega,by omega,fun i hl=>?_,fun i hl x hx=>?_,fun i hl=>?_⟩
 ·have:=(hi i hl).1;omega
 ·have:=DK (hi i hl).2 x hx
  unfold uX at this;omega
 ·have:=Oy (hi i hl).2 oG oG
  omega
theorem V6{nt nf:Nat}{g:List Nd}(h:(vJ nt nf g).1=0):∀ i (hi:i<g.length),yw nf g.length (-1) (g[i]).ln=0:=fun i hl=>by
 unfold vJ at h
 by_cases h0:g.length=0\/60<g.length
 ·rw[if_pos h0]at h;cases h
 rw[if_neg h0]at h
 have h1:=ux h i (ag _) oG
 by_cases h2:(g[i]).ty<0\/(nt:Int)<=(g[i]).ty
 ·rw[Iq hl h2]at h1;cases h1
 ·rw[Xz hl h2,List.drop_zero]at h1
  exact h1
theorem XV{f:Nat->Int}:∀ {m i:Nat},(∀ j,i<=j->j<i+m->f j=0)->vk f i m=(0,0)
 | 0,_,_=>rfl
 | m+1,i,h=>by
  unfold vk
  rw[if_neg (fun e=>e (h i (Nat.le_refl _) oG))]
  exact XV (fun j h1 h2=>h j oG oG)
theorem Sk{f:Nat->Int}:∀ {m i:Nat},(vk f i m).1=0->vk f i m=(0,0)
 | 0,_,_=>rfl
 | m+1,i,h=>by
  unfold vk at h ⊢
  by_cases h3:f i≠0
  ·rw[if_pos h3]at h;exact absurd h h3
  ·rw[if_neg h3]at h ⊢;exact Sk h
def O4(fs:List Ft)(z:Int):Ft:=fs.getD z.toNat ⟨⟨#[]⟩,0,0⟩
def NK(g:List Nd)(z:Int):Nd:=g.getD z.toNat ⟨0,[]⟩
def NY(l:List Ty)(fs:List Ft)(g:List Nd)(t:Int)(x:Int×Int):Bool:=
 !(sub l t.toNat (O4 fs x.1).of.toNat) || !(sub l (NK g x.2).ty.toNat (O4 fs x.1).val.toNat)
def tyN(l:List Ty)(fs:List Ft)(g:List Nd)(i:Nat):Int:=match g[i]? with
 | none=>0
 | some x=>if x.ln.any (NY l fs g x.ty)then 12 else 0
def tyF(l:List Ty)(fs:List Ft)(g:List Nd):Fl:=vk (tyN l fs g) 0 g.length
theorem tyN_yes{l:List Ty}{fs:List Ft}{g:List Nd}{i j:Nat}(hi:i<g.length)(hj:j<(g[i]).ln.length)(h:NY l fs g (g[i]).ty (g[i]).ln[j]=true):tyN l fs g i=12:=by
 simp only[tyN,List.getElem?_eq_getElem hi];rw[if_pos (List.any_eq_true.2 ⟨_,List.getElem_mem hj,h⟩)]
theorem SV{l:List Ty}{fs:List Ft}{g:List Nd}{i:Nat}(hi:i<g.length)(h:∀ j (hj:j<(g[i]).ln.length),NY l fs g (g[i]).ty (g[i]).ln[j]=false):tyN l fs g i=0:=by
 simp only[tyN,List.getElem?_eq_getElem hi];rw[if_neg];intro hc;obtain⟨x,hx,h2⟩:=List.any_eq_true.1 hc;obtain⟨j,hj,rfl⟩:=List.getElem_of_mem hx;rw[h j hj]at h2;cases h2
inductive Rch(g:List Nd):Nat->Prop
 | zero:Rch g 0
 | step {i:Nat} {x:Int×Int} (h:Rch g i) (hi:i<g.length) (hx:x∈(g[i]).ln):Rch g x.2.toNat
def CL(g:List Nd)(mk:Nat->Bool):Prop:=∀ i (hi:i<g.length),mk i=true->∀ x∈(g[i]).ln,mk x.2.toNat=true
def Only(g:List Nd)(mk:Nat->Bool):Prop:=∀ i,mk i=true->Rch g i
theorem reach_cl{g:List Nd}{mk:Nat->Bool}(h0:mk 0=true)(hc:CL g mk){i:Nat}(h:Rch g i):mk i=true:=by
 induction h with
 | zero=>exact h0
 | step h hi hx ih=>exact hc _ hi ih _ hx
def UnrIs(g:List Nd)(r:Int):Prop:=(r= -1/\∀ i,i<g.length->Rch g i)\/∃ k:Nat,r=k/\k<g.length/\¬Rch g k/\∀ i,i<k->Rch g i
theorem UnrIs.uniq{g:List Nd}{r s:Int}(h:UnrIs g r)(k:UnrIs g s):r=s:=by
 rcases h with ⟨h1,h2⟩|⟨a,h1,h2,h3,h4⟩<;>rcases k with ⟨k1,k2⟩|⟨b,k1,k2,k3,k4⟩
 ·omega
 ·exact absurd (h2 b k2) k3
 ·exact absurd (k2 a h2) h3
 ·have:¬a<b:=fun h=>h3 (k4 a h)
  have:¬b<a:=fun h=>k3 (h4 b h)
  omega
noncomputable def JX(g:List Nd):Int:=@Classical.epsilon Int ⟨0⟩ (UnrIs g)
theorem Ez{g:List Nd}{r:Int}(h:UnrIs g r):r=JX g:=h.uniq (@Classical.epsilon_spec Int (UnrIs g) ⟨r,h⟩)
structure AllM(g:List Nd)(mk:Nat->Bool):Prop where
 zero:mk 0=true
 only:Only g mk
 cl:CL g mk
theorem AllM.no{g:List Nd}{mk:Nat->Bool}(h:AllM g mk){k:Nat}(hk:k<g.length)(hm:mk k=false)(hb:∀ i,i<k->mk i=true):((k:Nat):Int)=JX g:=
 Ez (.inr ⟨k,rfl,hk,fun hr=>absurd ((reach_cl h.zero h.cl hr).symm.trans hm) (by simp),fun i hi=>h.only i (hb i hi)⟩)
theorem AllM.yes{g:List Nd}{mk:Nat->Bool}(h:AllM g mk)(hb:∀ i,i<g.length->mk i=true):(-1:Int)=JX g:=
 Ez (.inl ⟨rfl,fun i hi=>h.only i (hb i hi)⟩)
def Zq(mk:Nat->Bool)(j:Nat)(x:Nat):Bool:=if x=j then true else mk x
theorem I7(mk:Nat->Bool)(j:Nat):Zq mk j j=true:=by simp[Zq]
theorem uy{mk:Nat->Bool}{j x:Nat}(h:mk x=true):Zq mk j x=true:=by
 unfold Zq;split
 ·rfl
 ·exact h
theorem gW{mk:Nat->Bool}{j x:Nat}(h:Zq mk j x=true):x=j\/mk x=true:=by
 unfold Zq at h;by_cases e:x=j
 ·exact .inl e
 ·rw[if_neg e]at h;exact .inr h
def jW(n:Nat)(mk:Nat->Bool):Nat:=(List.range n).countP (fun i=>!mk i)
theorem Pv(n:Nat)(mk:Nat->Bool):jW n mk<=n:=by
 have:=List.countP_le_length (p:=fun i=>!mk i) (l:=List.range n)
 simpa[jW]using this
theorem WX{n j:Nat}{mk:Nat->Bool}(hj:j<n)(h:mk j=false):jW n (Zq mk j)<jW n mk:=
 Z9 (fun x hx=>by
  cases hm:mk x with
  | false=>rfl
  | true=>
   have:=uy (j:=j) hm
   simp[this]at hx) (List.range n) j (ax.2 hj) (by simp[h]) (by simp[I7])
structure DS(g:List Nd)(mk:Nat->Bool)(st:List Int)(i k:Nat):Prop where
 zero:mk 0=true
 only:Only g mk
 stk:∀ s∈st,∃ n:Nat,s=(n:Int)/\n<g.length/\mk n=true
 cl:∀ j (hj:j<g.length),mk j=true->j≠i->(j:Int)∈st\/∀ x∈(g[j]).ln,mk x.2.toNat=true
 me:∀(hi:i<g.length),mk i=true/\∀ x∈(g[i]).ln.take k,mk x.2.toNat=true
theorem DS.start{g:List Nd}(h:0<g.length):DS g (Zq (fun _=>false) 0) [0] g.length 0:=
 ⟨by simp[Zq],fun i hi=>by
  rcases gW hi with rfl|h
  ·exact .zero
  ·exact absurd h Bool.false_ne_true,fun s hs=>by
  obtain rfl:=aj.1 hs
  exact⟨0,rfl,h,by simp[Zq]⟩,fun j hj hm _=>by
  rcases gW hm with rfl|h
  ·exact .inl (by simp)
  ·exact absurd h Bool.false_ne_true,fun hi=>absurd hi (aF _)⟩
theorem DS.pop{g:List Nd}{mk:Nat->Bool}{st:List Int}{z:Int}(h:DS g mk (st++[z]) g.length 0):∃ n:Nat,z=(n:Int)/\n<g.length/\DS g mk st n 0:=by
 obtain⟨n,rfl,hn,hm⟩:=h.stk z (by simp);refine⟨n,rfl,hn,h.zero,h.only,fun s hs=>h.stk s (by simp[hs]),fun j hj hmj hne=>?_,fun hi=>⟨hm,fun x hx=>by simp at hx⟩⟩;rcases h.cl j hj hmj oG with h1|h1
 ·rcases az.1 h1 with h2|h2
  ·exact .inl h2
  ·have:=aj.1 h2
   omega
 ·exact .inr h1
theorem DS.old{g:List Nd}{mk:Nat->Bool}{st:List Int}{i k:Nat}(h:DS g mk st i k)(hi:i<g.length)(hk:k<(g[i]).ln.length)(hm:mk ((g[i]).ln[k]).2.toNat=true):DS g mk st i (k+1):=
 ⟨h.zero,h.only,h.stk,h.cl,fun _=>⟨(h.me hi).1,fun x hx=>by
  rw[List.take_succ_eq_append_getElem hk]at hx
  rcases az.1 hx with hx|hx
  ·exact(h.me hi).2 x hx
  ·rw[List.mem_singleton.1 hx];exact hm⟩⟩
theorem DS.new{g:List Nd}{mk:Nat->Bool}{st:List Int}{i k t:Nat}(h:DS g mk st i k)(hi:i<g.length)(hk:k<(g[i]).ln.length)(ht:((g[i]).ln[k]).2=(t:Int))(htl:t<g.length):DS g (Zq mk t) (st++[(t:Int)]) i (k+1):=
 ⟨uy h.zero,fun j hj=>by
  rcases gW hj with rfl|hj
  ·have:=Rch.step (h.only i (h.me hi).1) hi (ar hk)
   rw[ht]at this;simpa using this
  ·exact h.only j hj,fun s hs=>by
  rcases az.1 hs with hs|hs
  ·obtain⟨n,h1,h2,h3⟩:=h.stk s hs
   exact⟨n,h1,h2,uy h3⟩
  ·exact⟨t,aj.1 hs,htl,I7 _ _⟩,fun j hj hm hne=>by
  rcases gW hm with rfl|hm
  ·exact .inl (by simp)
  ·rcases h.cl j hj hm hne with h1|h1
   ·exact .inl (by simp[h1])
   ·exact .inr (fun x hx=>uy (h1 x hx)),fun _=>⟨uy (h.me hi).1,fun x hx=>by
  rw[List.take_succ_eq_append_getElem hk]at hx
  rcases az.1 hx with hx|hx
  ·exact uy ((h.me hi).2 x hx)
  ·rw[List.mem_singleton.1 hx,ht];simp[I7]⟩⟩
theorem DS.done{g:List Nd}{mk:Nat->Bool}{st:List Int}{i k:Nat}(h:DS g mk st i k)(hi:i<g.length)(hk:k=(g[i]).ln.length):DS g mk st g.length 0:=
 ⟨h.zero,h.only,h.stk,fun j hj hm _=>by
  by_cases e:j=i
  ·subst e
   have h1:=(h.me hj).2
   rw[hk,List.take_length]at h1
   exact .inr h1
  ·exact h.cl j hj hm e,fun hi=>absurd hi (aF _)⟩
theorem DS.end_{g:List Nd}{mk:Nat->Bool}(h:DS g mk [] g.length 0):AllM g mk:=
 ⟨h.zero,h.only,fun i hi hm x hx=>by
  rcases h.cl i hi hm oG with h1|h1
  ·cases h1
  ·exact h1 x hx⟩
def cntN(n:Nat)(mk:Nat->Bool):Nat:=(List.range n).countP mk
theorem cnt_le(n:Nat)(mk:Nat->Bool):cntN n mk<=n:=by
 have:=List.countP_le_length (p:=mk) (l:=List.range n)
 simpa[cntN]using this
structure PS(g:List Nd)(mk:Nat->Bool)(p:Nat):Prop where
 zero:mk 0=true
 only:Only g mk
 far:CL g mk\/p+1<=cntN g.length mk
structure PP(g:List Nd)(m0 mk:Nat->Bool)(i k:Nat):Prop where
 zero:mk 0=true
 only:Only g mk
 sup:∀ j,m0 j=true->mk j=true
 same:CL g m0->∀ j,mk j=true->m0 j=true
 done:∀ j (hj:j<g.length),j<i->m0 j=true->∀ x∈(g[j]).ln,mk x.2.toNat=true
 me:∀(hi:i<g.length),m0 i=true->∀ x∈(g[i]).ln.take k,mk x.2.toNat=true
theorem PS.start{g:List Nd}(h:0<g.length):PS g (Zq (fun _=>false) 0) 0:=
 ⟨by simp[Zq],fun i hi=>by
  rcases gW hi with rfl|h
  ·exact .zero
  ·exact absurd h Bool.false_ne_true,.inr (by
  have:0<cntN g.length (Zq (fun _=>false) 0):=List.countP_pos_iff.2 ⟨0,ax.2 h,by simp[Zq]⟩
  omega)⟩
theorem PP.start{g:List Nd}{mk:Nat->Bool}{p:Nat}(h:PS g mk p):PP g mk mk 0 0:=
 ⟨h.zero,h.only,fun _ h=>h,fun _ _ h=>h,fun j _ hj=>by omega,fun _ _ x hx=>by simp at hx⟩
theorem PP.skip{g:List Nd}{m0 mk:Nat->Bool}{i k:Nat}(h:PP g m0 mk i k)(hm:mk i=false):PP g m0 mk i (k+1):=
 ⟨h.zero,h.only,h.sup,h.same,h.done,fun _ h0=>absurd ((h.sup i h0).symm.trans hm) (by simp)⟩
theorem PP.mark{g:List Nd}{m0 mk:Nat->Bool}{i k t:Nat}(h:PP g m0 mk i k)(hi:i<g.length)(hk:k<(g[i]).ln.length)(ht:((g[i]).ln[k]).2=(t:Int))(hm:mk i=true):PP g m0 (Zq mk t) i (k+1):=
 ⟨uy h.zero,fun j hj=>by
  rcases gW hj with rfl|hj
  ·have:=Rch.step (h.only i hm) hi (ar hk)
   rw[ht]at this;simpa using this
  ·exact h.only j hj,fun j hj=>uy (h.sup j hj),fun hc j hj=>by
  rcases gW hj with rfl|hj
  ·have:=hc i hi (h.same hc i hm) _ (ar hk)
   rw[ht]at this;simpa using this
  ·exact h.same hc j hj,fun j hj hji h0 x hx=>uy (h.done j hj hji h0 x hx),fun _ h0 x hx=>by
  rw[List.take_succ_eq_append_getElem hk]at hx
  rcases az.1 hx with hx|hx
  ·exact uy (h.me hi h0 x hx)
  ·rw[List.mem_singleton.1 hx,ht];simp[I7]⟩
theorem PP.next{g:List Nd}{m0 mk:Nat->Bool}{i k:Nat}(h:PP g m0 mk i k)(hi:i<g.length)(hk:k=(g[i]).ln.length):PP g m0 mk (i+1) 0:=
 ⟨h.zero,h.only,h.sup,h.same,fun j hj hji h0 x hx=>by
  by_cases e:j=i
  ·subst e
   have:=h.me hj h0
   rw[hk,List.take_length]at this
   exact this x hx
  ·exact h.done j hj oG h0 x hx,fun _ _ x hx=>by simp at hx⟩
theorem PP.end_{g:List Nd}(hr:∀ i (hi:i<g.length),∀ x∈(g[i]).ln,x.2.toNat<g.length){m0 mk:Nat->Bool}{p:Nat}(h0:PS g m0 p)(h:PP g m0 mk g.length 0):PS g mk (p+1):=by
 refine⟨h.zero,h.only,?_⟩;have hcl:CL g m0->CL g mk:=fun hc i hi hm x hx=>h.sup _ (hc i hi (h.same hc i hm) x hx)
 by_cases hc:CL g m0
 ·exact .inl (hcl hc)
 ·right
  rcases h0.far with h1|h1
  ·exact absurd h1 hc
  ·have hex:∃ i,∃ hi:i<g.length,m0 i=true/\∃ x,x∈(g[i]).ln/\m0 x.2.toNat=false:=aH (fun hn=>hc (fun i hi hm x hx=>by
    cases hv:m0 x.2.toNat with
    | true=>rfl
    | false=>exact absurd ⟨i,hi,hm,x,hx,hv⟩ hn))
   obtain⟨i,hi,hm,x,hx,hv⟩:=hex;have a1:=h.done i hi hi hm x hx;have hl:=hr i hi x hx;have:cntN g.length m0<cntN g.length mk:=Z9 h.sup (List.range g.length) _ (ax.2 hl) a1 hv;omega
theorem PS.end_{g:List Nd}{mk:Nat->Bool}(h:PS g mk g.length):AllM g mk:=
 ⟨h.zero,h.only,by
  rcases h.far with h1|h1
  ·exact h1
  ·have:=cnt_le g.length mk
   omega⟩
theorem snoc_of{st:List Int}(h:0<st.length):∃ s z,st=s++[z]:=by
 rcases List.eq_nil_or_concat st with rfl|⟨s,z,rfl⟩
 ·cases h
 ·exact⟨s,z,List.concat_eq_append⟩
theorem FY{n j:Nat}{mk:Nat->Bool}:row n (fun x=>if x=j then Value.bool true else .bool (mk x))=row n (fun x=> .bool (Zq mk j x)):=
 vx (fun x _=>by by_cases e:x=j<;>simp[Zq,e])
theorem gok_rng{nt nf:Nat}{g:List Nd}(h:GOk nt nf g):∀ i (hi:i<g.length),∀ x∈(g[i]).ln,x.2.toNat<g.length:=fun i hi x hx=>by
 have:=h.ln i hi x hx;omega
structure FOk(nt:Nat)(fs:List Ft):Prop where
 at_:∀ i (h:i<fs.length),0<=(fs[i]).of/\(fs[i]).of<nt/\0<=(fs[i]).val/\(fs[i]).val<nt
theorem O5{l:List Ty}{fs:List Ft}(h:(zY l fs).1=0):FOk l.length fs:=by
 unfold zY at h;by_cases h4:40<fs.length
 ·rw[if_pos h4]at h;cases h
 rw[if_neg h4]at h;by_cases ht:(xV l).1≠0
 ·rw[if_pos ht]at h;exact absurd h ht
 rw[if_neg ht]at h;by_cases hu:(M5 l).1≠0
 ·rw[if_pos hu]at h;exact absurd h hu
 rw[if_neg hu]at h;refine⟨fun i hi=>?_⟩;have h1:=ux h i (ag _) oG;by_cases hn:vK (fs[i]).name=false
 ·rw[ft10 l.length fs i hi hn]at h1;cases h1
 have hn':vK (fs[i]).name=true:=by simpa using hn
 by_cases hs:Yk ((fs.take i).map (·.name)) (fs[i]).name=true
 ·rw[ft7 l.length fs i hi hn' hs]at h1;cases h1
 have hs':Yk ((fs.take i).map (·.name)) (fs[i]).name=false:=by simpa using hs
 by_cases hb:C1 l.length fs[i]
 ·rw[ft3 l.length fs i hi hn' hs' hb]at h1;cases h1
 ·unfold C1 at hb;omega
theorem lnTy_at{l:List Ty}{fs:List Ft}{g:List Nd}{t:Int}{x:Int×Int}{fi ti yn on vn zn:Nat}(h1:x.1=(fi:Int))(hfi:fi<fs.length)(h2:x.2=(ti:Int))(hti:ti<g.length)(ht:t=(yn:Int))(ho:(fs[fi]).of=(on:Int))(hv:(fs[fi]).val=(vn:Int))(hz:(g[ti]).ty=(zn:Int)):
  NY l fs g t x=(!sub l yn on || !sub l zn vn):=by
 unfold NY O4 NK;rw[h1,h2,ht];have e1:fs.getD (fi:Int).toNat ⟨⟨#[]⟩,0,0⟩=fs[fi]:=by simp[List.getD,hfi]
 have e2:g.getD (ti:Int).toNat ⟨0,[]⟩=g[ti]:=by simp[List.getD,hti]
 rw[e1,e2,ho,hv,hz];simp
noncomputable def x7(l:List Ty)(fs:List Ft)(g:List Nd):Fl:=
 if (vJ l.length fs.length g).1≠0 then vJ l.length fs.length g else if (tyF l fs g).1≠0 then tyF l fs g else if 0<=JX g then (5,JX g)else (0,0)
theorem MQ{l:List Ty}{fs:List Ft}{g:List Nd}(h:¬(vJ l.length fs.length g).1=0):x7 l fs g=((vJ l.length fs.length g).1,(vJ l.length fs.length g).2):=by unfold x7;rw[if_pos h]
theorem wi_ty{l:List Ty}{fs:List Ft}{g:List Nd}{k:Int}(h:(vJ l.length fs.length g).1=0)(ht:tyF l fs g=(12,k)):x7 l fs g=(12,k):=by
 unfold x7;rw[if_neg (fun e=>e h),ht];rfl
theorem L1{l:List Ty}{fs:List Ft}{g:List Nd}(h:(vJ l.length fs.length g).1=0)(ht:tyF l fs g=(0,0))(hu:0<=JX g):x7 l fs g=(5,JX g):=by
 unfold x7;rw[if_neg (fun e=>e h),ht,if_neg (fun e=>e rfl),if_pos hu]
theorem XY{l:List Ty}{fs:List Ft}{g:List Nd}(h:(vJ l.length fs.length g).1=0)(ht:tyF l fs g=(0,0))(hu:¬0<=JX g):x7 l fs g=(0,0):=by
 unfold x7;rw[if_neg (fun e=>e h),ht,if_neg (fun e=>e rfl),if_neg hu]
noncomputable def yJ(l:List Ty)(fs:List Ft)(g:List Nd):Fl:=if (zY l fs).1≠0 then zY l fs else x7 l fs g
theorem gf_hier{l:List Ty}{fs:List Ft}{g:List Nd}(h:¬(zY l fs).1=0):yJ l fs g=((zY l fs).1,(zY l fs).2):=by unfold yJ;rw[if_pos h]
theorem KV{l:List Ty}{fs:List Ft}{g:List Nd}(h:(zY l fs).1=0):yJ l fs g=((x7 l fs g).1,(x7 l fs g).2):=by unfold yJ;rw[if_neg (fun e=>e h)]
end Go.Proofs.YtiofaflajkgiaaaGreatDoor
