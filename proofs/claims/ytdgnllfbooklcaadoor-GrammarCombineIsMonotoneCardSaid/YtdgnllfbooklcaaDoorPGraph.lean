/- What these functions of the program compute, at every world: (*glosswright/unify.pool).graph. -/
import Derived.Test.YtdgnllfbooklcaaDoorU
import Derived.Test.YtdgnllfbooklcaaDoorName
import Derived.Test.YtdgnllfbooklcaaDoorPJoin
namespace Go.Proofs.YtdgnllfbooklcaaDoor
open Go.RowKit
theorem pool_gok2 {l:List Ty} {U:List Nd} {J:List (Nat×Nat)} {P rep ρ:Nat→Nat} {T:Nat→Int} {L:Nat→List (Int×Int)} {nf:Nat} (h:US l U J P rep ρ T L []) (hp:0 < U.length) (hn:U.length≤1000000) (hUf:∀ i,i < U.length→∀ z ∈ (nd U i).ln,0≤z.1∧z.1 < nf):PV nf (yx U.length rep T L):=by
  have hL:∀ i,i < U.length→rep i=i→∀ z ∈ L i,0≤z.1∧z.1 < nf:=fun i hi hr z hz=>by
    obtain⟨u,hu,_,hm⟩:=h.val i hi hr z hz;exact hUf u hu z hm
  refine⟨by rw [yw];exact hp,by rw [yw];exact hn,fun i hi x hx=>?_,fun i hi=>?_⟩
  · rw [← yy hi] at hx
    rw [yw] at hi ⊢;rw [oW hi] at hx
    dsimp only at hx
    split at hx
    · rename_i hri
      obtain⟨y,hy,rfl⟩:=List.mem_map.1 hx;obtain⟨u,hu,_,hm⟩:=h.val i hi hri y hy;have h1:=hL i hi hri y hy;have h2:=h.ur u hu y hm;have h3:=h.uf.rl _ h2.2;simp only;omega
    · cases hx
  · rw [← yy hi]
    rw [yw] at hi;rw [oW hi]
    dsimp only
    split
    · rename_i hri
      rw [List.length_map];have:=I6 (nf:=nf) (lo:=0) (h.srt i hi) (hL i hi hri) (Int.le_refl _) om;omega
    · exact Nat.zero_le _
theorem fromn_any (G:Option Addr) (cg nf:Nat) (gr:List Nd) (r n:Nat) (w:World) (hG:NodesIn w G gr) (hn:gr.length=n) (hk:PV nf gr) (hnf:nf≤1000) (hr:r < gr.length):Calls Tryd.prog 61 #[.agg #[.slice G n cg],.int .i64 r] w fun e w'=>(∃ o A,DL gr [r] [] o∧OOk gr.length o∧e= .returned (.agg #[.slice A o.length o.length])∧(∀ w2,FrSame w.heap.size w' w2→NodesIn w2 A (yk gr o)))∧Bel w w':=by
  subst hn;exact DX G cg nf gr r w hG hk hnf hr
theorem fn61:zZ Tryd.prog 61=true:=by kernel_rfl
theorem NV:(Tryd.prog.info? 93).map (fun i=>(i.zero,i.size,i.bytes))=some (some (.agg #[.int .i64 0,.slice none 0 0]),2,32):=by kernel_rfl
set_option maxRecDepth 100000 in
set_option maxHeartbeats 4000000 in
theorem FJ {ob bp n nf r:Nat} {c0 c1:Value} {PA TA LA:Option Addr} {cp ct cl:Nat} {P rep ρ:Nat→Nat} {T:Nat→Int} {V:Nat→Value} {L:Nat→List (Int×Int)} (w:World) (hp:PoolAt w ob bp c0 c1 n PA TA LA cp ct cl P T V L) (hu:UF n P rep ρ) (hbo:bp < ob) (hob:ob≤w.heap.size) (hn:n≤1000000) (hnf:nf≤1000) (hG2:PV nf (yx n rep T L)) (hrt:r < n) (hLr:∀ i,i < n→rep i=i→∀ z ∈ L i,0≤z.2∧z.2.toNat < n) (hLl:∀ i,i < n→rep i=i→(L i).length≤nf):Calls Tryd.prog 58 #[.pointer (some ⟨bp,0,none⟩),.int .i64 (r:Nat)] w fun e w'=>(∃ o A,DL (yx n rep T L) [rep r] [] o∧e= .returned (.agg #[.slice A o.length o.length])∧∀ w2,FrSame w.heap.size w' w2→NodesIn w2 A (yk (yx n rep T L) o))∧Chg ob [bp] w w'∧ob≤w'.heap.size:=by
 have hlob:w.heap.size≤w.heap.size:=Nat.le_refl _;obtain⟨hbp,hpa,hta,hla,hrw,hdis⟩:=hp;obtain⟨qp,rfl,hqp,hqpl,_⟩:=hpa.rowc hrt;obtain⟨qt,rfl,hqt,hqtl,_⟩:=hta.rowc hrt;obtain⟨ql,rfl,hql,hqll,_⟩:=hla.rowc hrt;obtain⟨zb,hzbe⟩:∃ b,b=w.heap.size:=⟨_,rfl⟩
 rw [← hzbe] at hrw;have hzb:zb≤w.heap.size:=Nat.le_of_eq hzbe;have hbpl:=hbp.lt;rw [← hzbe] at hqpl hqtl hqll hbpl;have hCS:Chg ob [bp] w w∧ob≤w.heap.size:=⟨Chg.refl _ _ _,hob⟩
 rw [← hzbe];refine enter Tryd.func58 Tryd.ntmps58 rfl (Nat.le_of_ble_eq_true rfl) (zn2 ?_);refine qV (cs:=#[.slice none 0 0]) yW rfl (fun b4 w1 hb4 t1 hr=>?_);have:=nLL hbp.lt hr;have or_hpa_b4:=(fun(g:Nat) hg=>nLL (hpa.lt g hg).2 hr)
 have or_hta_b4:=(fun(g:Nat) hg=>nLL (hta.lt g hg).2 hr)
 have or_hla_b4:=(fun(g:Nat) hg=>nLL (hla.lt g hg).2 hr)
 have or_hCS_b4:=(nLT hCS.2 hr)
 have or_hzb_b4:=(nLT hzb hr)
 replace hrw:=fun x hx=>(hrw x hx).tr t1 (by simp)
 replace hCS:=And.intro (hCS.1.st t1 hCS.2 (by simp)) (nLT hCS.2 (Same.size t1));replace hzb:=nLT hzb (Same.size t1);refine zn4 ?_;refine qV (cs:=#[.slice none 0 0]) yW rfl (fun b5 w2 hb5 t2 hr=>?_);replace hbp:=hbp.tr0 t1;have:=nLL hbp.lt hr;replace hpa:=hpa.tr0 t1;have or_hpa_b5:=(fun(g:Nat) hg=>nLL (hpa.lt g hg).2 hr)
 replace hta:=hta.tr0 t1;have or_hta_b5:=(fun(g:Nat) hg=>nLL (hta.lt g hg).2 hr)
 replace hla:=hla.tr0 t1;have or_hla_b5:=(fun(g:Nat) hg=>nLL (hla.lt g hg).2 hr)
 have or_hCS_b5:=(nLT hCS.2 hr)
 have or_hzb_b5:=(nLT hzb hr)
 have:=nLL hb4.lt hr;replace hrw:=fun x hx=>(hrw x hx).tr t2 (by simp)
 replace hCS:=And.intro (hCS.1.st t2 hCS.2 (by simp)) (nLT hCS.2 (Same.size t2));replace hzb:=nLT hzb (Same.size t2);refine zn4 ?_;have hlo45:=or_hzb_b4;have hlo5b:=or_hzb_b5;have hloN:zb≤b5 + 1:=Nat.le_succ_of_le or_hzb_b5;refine Q4 (wl (x8 (v:= .pointer (some _)) rfl) (wl (Qz rfl) (zn7 ?_)));replace hbp:=hbp.tr0 t2;replace hpa:=hpa.tr0 t2;replace hta:=hta.tr0 t2;replace hla:=hla.tr0 t2;replace hb4:=hb4.tr0 t2;refine qQ [6,7,9,15,16,17,18,19,20,21,22,23,24,25,26,27,28,29,30,31,32,33,34,35,36,37,38,39,40,41,42,43,44,45,46,47,48,49,50,51,52,53,54,55,56,57,58,59,60,61,62] (fun m g w'=>∃ (k:Nat) (AN:Option Addr) (capN:Nat) (Vn:Nat→Value) (P:Nat→Nat),k≤n∧m=n - k∧g 15= .int .i64 k∧Blk w' b4 30 #[.slice none 0 0]∧Blk w' b5 30 #[.slice AN k capN]∧Blk w' bp 125 #[c0,c1,.slice (some ⟨qp,0,none⟩) n cp,.slice (some ⟨qt,0,none⟩) n ct,.slice (some ⟨ql,0,none⟩) n cl]∧Own w' ob 3 1 (some ⟨qp,0,none⟩) n cp (vV n (vN P))∧Own w' ob 3 1 (some ⟨qt,0,none⟩) n ct (vV n (vI T))∧Own w' ob 91 1 (some ⟨ql,0,none⟩) n cl (vV n V)∧(∀ x,x < n→RowO w' ob zb (V x) (L x))∧UF n P rep ρ∧(Chg ob [bp] w w'∧ob≤w'.heap.size)∧zb≤w'.heap.size∧Own w' (b5 + 1) 93 2 AN k capN (ndV (vI T) Vn k)∧(∀ x,x < k→RowO w' zb w'.heap.size (Vn x) (nd (yx n rep T L) x).ln)) (n) ?_ (fun m g3 w3 hI=>?_)
 ·exact⟨0,none,0,fun _=> .slice none 0 0,P,Nat.zero_le _,rfl,rfl,hb4,hb5,hbp,hpa,hta,hla,hrw,hu,hCS,hzb,Own.nil _ _ _ _,fun x hx=>by omega⟩
 obtain⟨k,AN,capN,Vn,P,hkk,hm,h15,hb4,hb5,hbp,hpa,hta,hla,hrw,hu,hCS,hzb,hoN,hvn⟩:=hI;obtain⟨bs,hbse⟩:∃ b,b=w3.heap.size:=⟨_,rfl⟩
 rw [← hbse] at hvn;have hbz:bs≤w3.heap.size:=Nat.le_of_eq hbse;have lu5:=hb5.lt;have lu4:=hb4.lt;have luN:=fun g hg=>(hoN.lt g hg).2
 have hzbs:=hzb;rw [← hbse] at lu5 lu4 luN hzbs;refine zX 15 _ h15 nu (zn6 ?_);refine zW rfl (fun c16=>?_) (fun c16=>?_)
 ·have hlt:k < n:=by omega
  refine jw ?_;refine wl (x8 (v:= .pointer (some _)) rfl) (wl (Qz rfl) (zn3 ?_));refine wl (yz (i:=k) U70 qy rfl rfl hlt rfl) (wl (qY (v:= .int _ _) U3 rfl rfl (hta.rowq hlt)) (wl (IX (v0:= .int _ _) (fun v0=>#[v0,.slice none 0 0]) rfl kR) ?_));refine qV (cs:=#[.int .i64 0,.slice none 0 0]) JZ rfl (fun b7 w4 hb7 t3 hr=>?_);have:=nLL hbp.lt hr;have or_hpa_b7:=(fun(g:Nat) hg=>nLL (hpa.lt g hg).2 hr)
  have or_hta_b7:=(fun(g:Nat) hg=>nLL (hta.lt g hg).2 hr)
  have or_hla_b7:=(fun(g:Nat) hg=>nLL (hla.lt g hg).2 hr)
  have or_hCS_b7:=(nLT hCS.2 hr)
  have or_hzb_b7:=(nLT hzb hr)
  have:=nLL hb4.lt hr;have:=nLL hb5.lt hr;have or_hoN_b7:=(fun(g:Nat) hg=>nLL (hoN.lt g hg).2 hr)
  have or_hbz_b7:=(nLT hbz hr)
  replace hrw:=fun x hx=>(hrw x hx).tr t3 (by simp)
  replace hCS:=And.intro (hCS.1.st t3 hCS.2 (by simp)) (nLT hCS.2 (Same.size t3));replace hzb:=nLT hzb (Same.size t3);replace hvn:=fun x hx=>(hvn x hx).tr t3 (by simp)
  replace hbz:=nLT hbz (Same.size t3);refine zk hb7 rfl rfl oq rfl zJ (fun w5 hq t4=>?_);replace hpa:=hpa.tr0 t3;replace hpa:=hpa.tr1 t4 (fun g hg=>by have:=(hpa.lt g hg).1;(try have:=or_hpa_b7 g hg);omega);replace hta:=hta.tr0 t3;replace hta:=hta.tr1 t4 (fun g hg=>by have:=(hta.lt g hg).1;(try have:=or_hta_b7 g hg);omega);replace hla:=hla.tr0 t3;replace hla:=hla.tr1 t4 (fun g hg=>by have:=(hla.lt g hg).1;(try have:=or_hla_b7 g hg);omega);replace hrw:=fun x hx=>(hrw x hx).tr t4 (fun g hg=>by rw [List.mem_singleton.1 hg];first | exact .inr ⟨_,_,hb7,by decide⟩ | exact .inl om)
  replace hCS:=And.intro (hCS.1.st t4 hCS.2 (fun g hg=>by have h1:=List.mem_singleton.1 hg;first | (left;rw [h1];simp;done) | (right;omega))) (nLT hCS.2 (Same.size t4));replace hzb:=nLT hzb (Same.size t4);replace hoN:=hoN.tr0 t3;replace hoN:=hoN.tr1 t4 (fun g hg=>by have:=(hoN.lt g hg).1;(try have:=or_hoN_b7 g hg);omega);replace hvn:=fun x hx=>(hvn x hx).tr t4 (fun g hg=>by rw [List.mem_singleton.1 hg];first | exact .inr ⟨_,_,hb7,by decide⟩ | exact .inl om)
  replace hbz:=nLT hbz (Same.size t4);replace hb7:=hq;refine zn4 ?_;have hlo5:zb≤b7 + 1:=Nat.le_succ_of_le or_hzb_b7;have hbsb7:bs≤b7:=or_hbz_b7;refine Q4 (wl (x8 (v:= .pointer (some _)) rfl) (wmI rfl ?_));replace hbp:=(hbp.tr0 t3).tr1 t4 om;refine qz fn68 (Y4 _ hbp hpa hbo hu hlt) rfl (fun e' w6 hr=>?_);obtain⟨P1,rfl,hpa1,hu1,t5⟩:=hr;replace hbp:=hbp.tr t5 (fun hx=>by have:=(hpa.lt _ hx).1;(try have:=or_hpa_bp _ hx);omega);replace hta:=hta.tr t5 (fun g hg hx=>by first | exact xv hta hpa dE g hg hx | exact hdis g hg hx | exact hdis g hx hg | (have h1:=(hpa.lt g hx).1;(try have:=hzz g hg);omega));replace hla:=hla.tr t5 (fun g hg hx=>by first | exact xv hla hpa dE g hg hx | exact hdis g hg hx | exact hdis g hx hg | (have h1:=(hpa.lt g hx).1;(try have:=hzz g hg);omega));replace hrw:=fun x hx=>(hrw x hx).tr t5 (fun g hg=>by first | exact .inl (by have:=((hpa).lt g hg).1;omega) | (obtain⟨cs,h⟩:=(hpa).typ g hg;exact .inr ⟨_,_,h,by decide⟩))
  replace hCS:=And.intro (hCS.1.st t5 hCS.2 (fun g hg=> .inr (by have:=((hpa).lt g hg).1;omega))) (nLT hCS.2 (Same.size t5));replace hzb:=nLT hzb (Same.size t5);replace hb4:=(hb4.tr0 t3).tr1 t4 om;replace hb4:=hb4.tr t5 (fun hx=>by have:=(hpa.lt _ hx).1;(try have:=or_hpa_b4 _ hx);omega);replace hb5:=(hb5.tr0 t3).tr1 t4 om;replace hb5:=hb5.tr t5 (fun hx=>by have:=(hpa.lt _ hx).1;(try have:=or_hpa_b5 _ hx);omega);replace hoN:=hoN.tr t5 (fun g hg hx=>xv hoN hpa dE g hg hx);replace hvn:=fun x hx=>(hvn x hx).tr t5 (fun g hg=>by first | exact .inl (by have:=((hpa).lt g hg).1;omega) | (obtain⟨cs,h⟩:=(hpa).typ g hg;exact .inr ⟨_,_,h,by decide⟩))
  replace hbz:=nLT hbz (Same.size t5);replace hb7:=hb7.tr t5 (fun hx=>by have:=(hpa.lt _ hx).1;(try have:=or_hpa_b7 _ hx);omega);have hpa:=hpa1;refine⟨_,rfl,?_⟩;refine zn4 ?_;refine zW rfl (fun c30=>?_) (fun c30=>?_)
  ·have hrk:rep k=k:=by omega
   have hGk:(nd (yx n rep T L) k).ln=((L k).map (fun x=>(x.1,((rep x.2.toNat:Nat):Int)))):=by rw [oW hlt,if_pos hrk]
   obtain⟨Ax,cx,hVk,hAo,hAb⟩:=hrw k hlt;have hLm:=hAo.max;have hLk:=hLl k hlt hrk;refine zn2 ?_;refine wl (x8 (v:= .pointer (some _)) rfl) (wl (Qz rfl) (zn3 ?_));refine wl (yz (i:=k) PK oj rfl rfl hlt rfl) (wl (qY (v:= .slice Ax (L k).length cx) U91 rfl rfl (by have h:=hla.rowq hlt;rw [hVk] at h;exact h)) (zn5 ?_));refine qQ [9,39,40,41,42,43,44,45,46,47,48,49,50,51,52,53,54,55] (fun m g w'=>∃ (j:Nat) (A5:Option Addr) (cap5:Nat) (P1:Nat→Nat),j≤(L k).length∧m=(L k).length - j∧g 39= .int .i64 j∧Blk w' b4 30 #[.slice none 0 0]∧Blk w' b5 30 #[.slice AN k capN]∧Blk w' bp 125 #[c0,c1,.slice (some ⟨qp,0,none⟩) n cp,.slice (some ⟨qt,0,none⟩) n ct,.slice (some ⟨ql,0,none⟩) n cl]∧Own w' ob 3 1 (some ⟨qp,0,none⟩) n cp (vV n (vN P1))∧Own w' ob 3 1 (some ⟨qt,0,none⟩) n ct (vV n (vI T))∧Own w' ob 91 1 (some ⟨ql,0,none⟩) n cl (vV n V)∧(∀ x,x < n→RowO w' ob zb (V x) (L x))∧UF n P1 rep ρ∧(Chg ob [bp] w w'∧ob≤w'.heap.size)∧zb≤w'.heap.size∧Own w' (b5 + 1) 93 2 AN k capN (ndV (vI T) Vn k)∧(∀ x,x < k→RowO w' zb bs (Vn x) (nd (yx n rep T L) x).ln)∧bs≤w'.heap.size∧Blk w' b7 93 #[.int .i64 (T k),.slice A5 j cap5]∧Own w' (b7 + 1) 95 2 A5 j cap5 (lnV (((L k).take j).map (fun x=>(x.1,((rep x.2.toNat:Nat):Int)))))) ((L k).length) ?_ (fun m g8 w7 hI=>?_)
   ·exact⟨0,none,0,P1,Nat.zero_le _,rfl,rfl,hb4,hb5,hbp,hpa,hta,hla,hrw,hu1,hCS,hzb,hoN,hvn,hbz,hb7,Own.nil _ _ _ _⟩
   obtain⟨j,A5,cap5,P1,hj,hmj,h39,hb4,hb5,hbp,hpa,hta,hla,hrw,hu1,hCS,hzb,hoN,hvn,hbz,hb7,ho5⟩:=hI;refine zX 39 _ h39 nu (zn6 ?_);refine zW rfl (fun c40=>?_) (fun c40=>?_)
   ·have hjl:j < (L k).length:=by omega
    have hVk2:=hVk;have hlk:=(hrw k hlt)
    rw [hVk] at hlk;obtain⟨_,hln⟩:=hlk.links;obtain⟨lb,lof,hAx,hlb,hlr⟩:=hln.at_ (Below.refl _ _:Bel w7 w7) hjl;subst hAx;have hxr:=hLr k hlt hrk _ (List.getElem_mem hjl);obtain⟨t,ht⟩:∃ t:Nat,((L k)[j]'hjl).2=(t:Int):=⟨(((L k)[j]'hjl).2).toNat,by omega⟩
    have htl:t < n:=by omega
    refine zn7 ?_;refine wl (qW U95 rfl rfl hlr qX) ?_;refine qV (cs:=#[.int .i64 0,.int .i64 0]) gw rfl (fun b9 w8 hb9 t6 hr=>?_);have:=nLL hbp.lt hr;have or_hta_b9:=(fun(g:Nat) hg=>nLL (hta.lt g hg).2 hr)
    have or_hla_b9:=(fun(g:Nat) hg=>nLL (hla.lt g hg).2 hr)
    have or_hCS_b9:=(nLT hCS.2 hr)
    have or_hzb_b9:=(nLT hzb hr)
    have:=nLL hb4.lt hr;have:=nLL hb5.lt hr;have or_hoN_b9:=(fun(g:Nat) hg=>nLL (hoN.lt g hg).2 hr)
    have or_hbz_b9:=(nLT hbz hr)
    have:=nLL hb7.lt hr;have or_hpa_b9:=(fun(g:Nat) hg=>nLL (hpa.lt g hg).2 hr)
    have or_ho5_b9:=(fun(g:Nat) hg=>nLL (ho5.lt g hg).2 hr)
    replace hrw:=fun x hx=>(hrw x hx).tr t6 (by simp)
    replace hCS:=And.intro (hCS.1.st t6 hCS.2 (by simp)) (nLT hCS.2 (Same.size t6));replace hzb:=nLT hzb (Same.size t6);replace hvn:=fun x hx=>(hvn x hx).tr t6 (by simp)
    replace hbz:=nLT hbz (Same.size t6);refine zk hb9 rfl rfl qX rfl zJ (fun w9 hq t7=>?_);replace hta:=hta.tr0 t6;replace hta:=hta.tr1 t7 (fun g hg=>by have:=(hta.lt g hg).1;(try have:=or_hta_b9 g hg);omega);replace hla:=hla.tr0 t6;replace hla:=hla.tr1 t7 (fun g hg=>by have:=(hla.lt g hg).1;(try have:=or_hla_b9 g hg);omega);replace hrw:=fun x hx=>(hrw x hx).tr t7 (fun g hg=>by rw [List.mem_singleton.1 hg];first | exact .inr ⟨_,_,hb9,by decide⟩ | exact .inl om)
    replace hCS:=And.intro (hCS.1.st t7 hCS.2 (fun g hg=>by have h1:=List.mem_singleton.1 hg;first | (left;rw [h1];simp;done) | (right;omega))) (nLT hCS.2 (Same.size t7));replace hzb:=nLT hzb (Same.size t7);replace hoN:=hoN.tr0 t6;replace hoN:=hoN.tr1 t7 (fun g hg=>by have:=(hoN.lt g hg).1;(try have:=or_hoN_b9 g hg);omega);replace hvn:=fun x hx=>(hvn x hx).tr t7 (fun g hg=>by rw [List.mem_singleton.1 hg];first | exact .inr ⟨_,_,hb9,by decide⟩ | exact .inl om)
    replace hbz:=nLT hbz (Same.size t7);replace hpa:=hpa.tr0 t6;replace hpa:=hpa.tr1 t7 (fun g hg=>by have:=(hpa.lt g hg).1;(try have:=or_hpa_b9 g hg);omega);replace ho5:=ho5.tr0 t6;replace ho5:=ho5.tr1 t7 (fun g hg=>by have:=(ho5.lt g hg).1;(try have:=or_ho5_b9 g hg);omega);replace hb9:=hq;refine zQ (e_S ?_);rw [ht] at hb9;have zo:=fun g hg=>(hpa.lt g hg).2
    replace hbp:=(hbp.tr0 t6).tr1 t7 om;replace hb7:=(hb7.tr0 t6).tr1 t7 om;refine X1 10 [43,44,45,46,47,48,49,50,51,52] (aL (some (⟨qp,0,none⟩:Addr))) 7 (fun ix v wv=>match ix with | 0=>v= .pointer (some ⟨b7,1,none⟩) | 1=>v= .slice A5 j cap5 | 2=>v= .pointer (some ⟨b9,0,none⟩) | 3=>v= .int .i64 ((L k)[j]'hjl).1 | 4=>v= .pointer (some ⟨bp,0,none⟩) | 5=>v= .pointer (some ⟨b9,1,none⟩) | 6=>v= .int .i64 (t:Nat) | 7=>∃ Q:Nat→Nat,v= .int .i64 ((rep t:Nat):Int)∧Own wv ob 3 1 (some ⟨qp,0,none⟩) n cp (vV n (vN Q))∧UF n Q rep ρ | 8=>v= .agg #[.int .i64 ((L k)[j]'hjl).1,.int .i64 ((rep t:Nat):Int)] | 9=>∃ b,v= .slice (some ⟨b,0,none⟩) 1 1∧w9.heap.size≤b∧Blk wv b 95 #[.int .i64 ((L k)[j]'hjl).1,.int .i64 ((rep t:Nat):Int)] | _=>True) (fun _=>True) kR kR ?_ (fun _ _ _ _=>trivial) ?_ ?_ dE ?_
    ·intro ix v wv wv2 h t8
     match ix,h with
     | 0,h=>exact h
     | 1,h=>exact h
     | 2,h=>exact h
     | 3,h=>exact h
     | 4,h=>exact h
     | 5,h=>exact h
     | 6,h=>exact h
     | 7,h=>
      obtain⟨P3,e50,hpaQ,hu3⟩:=h;exact⟨P3,e50,hpaQ.tr0 t8,hu3⟩
     | 8,h=>exact h
     | 9,h=>
      obtain⟨b52,e52,lo52,hb52⟩:=h;exact⟨b52,e52,lo52,hb52.tr0 t8⟩
     | _ + 10,h=>exact trivial
    ·intro ix o hix hne hoq gg wx t9 hd
     match ix,hix,hne,hoq with
     | 0,_,_,hoq=>
      cases sI hoq;refine qk (uK U93 oj dE rfl rfl rfl) ⟨Same.refl _ _,?_⟩;exact rfl
     | 1,_,_,hoq=>
      cases sI hoq;replace hb7:=hb7.tr t9 (fun hx=>by have:=(hpa.lt _ hx).1;(try have:=or_hpa_b7 _ hx);omega);refine zz 43 _ (hd 0 (zj kR)) nu ?_;refine qk (qY (v:= .slice _ _ _) U91 rfl rfl (hb7.cell rfl)) ⟨Same.refl _ _,?_⟩;exact rfl
     | 2,_,_,hoq=>
      cases sI hoq;refine qk (uK U95 qy dE rfl rfl rfl) ⟨Same.refl _ _,?_⟩;exact rfl
     | 3,_,_,hoq=>
      cases sI hoq;replace hb9:=hb9.tr t9 (fun hx=>by have:=(hpa.lt _ hx).1;(try have:=or_hpa_b9 _ hx);omega);refine zz 45 _ (hd 2 (zj kR)) nu ?_;refine qk (qY (v:= .int _ _) U3 rfl rfl (hb9.cell rfl)) ⟨Same.refl _ _,?_⟩;exact rfl
     | 4,_,_,hoq=>
      cases sI hoq;refine qk (x8 (v:= .pointer (some _)) rfl) ⟨Same.refl _ _,?_⟩;exact rfl
     | 5,_,_,hoq=>
      cases sI hoq;refine qk (uK U95 qy dE rfl rfl rfl) ⟨Same.refl _ _,?_⟩;exact rfl
     | 6,_,_,hoq=>
      cases sI hoq;replace hb9:=hb9.tr t9 (fun hx=>by have:=(hpa.lt _ hx).1;(try have:=or_hpa_b9 _ hx);omega);refine zz 48 _ (hd 5 (zj kR)) nu ?_;refine qk (qY (v:= .int _ _) U3 rfl rfl (hb9.cell rfl)) ⟨Same.refl _ _,?_⟩;exact rfl
     | 7,_,hne,_=>exact absurd rfl hne
     | 8,_,_,hoq=>
      cases sI hoq;obtain⟨P3,e50,hpaQ,hu3⟩:=hd 7 (zj kR);refine zz 46 _ (hd 3 (zj kR)) nu (zz 50 _ e50 nu ?_);refine qk (oK (v0:= .int _ _) (v1:= .int _ _) (fun v0 v1=>#[v0,v1]) rfl rfl kR) ⟨Same.refl _ _,?_⟩;exact rfl
     | 9,_,_,hoq=>
      cases sI hoq;have hs0:=t9;refine zz 51 _ (hd 8 (zj kR)) nu ?_;refine j5 (fun ops Q K=>?_);refine qJ (cs:=#[_,_]) [(0,.agg _)] rfl U91 qX gw dE dE kR rfl (fun b52 w10 hb52 t10 hr=>?_);exact K _ _ ⟨t10,⟨_,rfl,nLT hs0.size hr,hb52⟩⟩
     | _ + 10,hix,_,_=>exact absurd hix om
    ·intro o hoq gg wx t11 hd;cases sI hoq;replace hrw:=fun x hx=>(hrw x hx).tr t11 (by simp)
     replace hCS:=And.intro (hCS.1.st t11 hCS.2 (by simp)) (nLT hCS.2 (Same.size t11));replace hzb:=nLT hzb (Same.size t11);replace hvn:=fun x hx=>(hvn x hx).tr t11 (by simp)
     replace hbz:=nLT hbz (Same.size t11);refine zz 47 _ (hd 4 (zj kR)) nu (zz 49 _ (hd 6 (zj kR)) nu ?_);replace hbp:=hbp.tr0 t11;replace hpa:=hpa.tr0 t11;refine yY fn68 (Y4 wx hbp hpa hbo hu1 htl) rfl (fun e' w2 hr=>?_);obtain⟨Q,rfl,hpaQ,huQ,hs2⟩:=hr;refine⟨_,rfl,hs2,⟨_,rfl,hpaQ,huQ⟩,trivial,fun kx v hne h=>?_⟩
     match kx,hne,h with
     | 0,_,h=>exact h
     | 1,_,h=>exact h
     | 2,_,h=>exact h
     | 3,_,h=>exact h
     | 4,_,h=>exact h
     | 5,_,h=>exact h
     | 6,_,h=>exact h
     | 7,hne,_=>exact absurd rfl hne
     | 8,_,h=>exact h
     | 9,_,h=>
      obtain⟨b52,e52,lo52,hb52⟩:=h;exact⟨b52,e52,lo52,hb52.tr hs2 (fun hx=>by have:=zo _ hx;omega)⟩
     | _ + 10,_,_=>exact trivial
    intro gg w11 t12 _ hR;replace hbp:=hbp.tr t12 (fun hx=>by have:=(hpa.lt _ hx).1;(try have:=or_hpa_bp _ hx);omega);replace hta:=hta.tr t12 (fun g hg hx=>by first | exact xv hta hpa dE g hg hx | exact hdis g hg hx | exact hdis g hx hg | (have h1:=(hpa.lt g hx).1;(try have:=hzz g hg);omega));replace hla:=hla.tr t12 (fun g hg hx=>by first | exact xv hla hpa dE g hg hx | exact hdis g hg hx | exact hdis g hx hg | (have h1:=(hpa.lt g hx).1;(try have:=hzz g hg);omega));replace hrw:=fun x hx=>(hrw x hx).tr t12 (fun g hg=>by first | exact .inl (by have:=((hpa).lt g hg).1;omega) | (obtain⟨cs,h⟩:=(hpa).typ g hg;exact .inr ⟨_,_,h,by decide⟩))
    replace hCS:=And.intro (hCS.1.st t12 hCS.2 (fun g hg=> .inr (by have:=((hpa).lt g hg).1;omega))) (nLT hCS.2 (Same.size t12));replace hzb:=nLT hzb (Same.size t12);replace hb4:=(hb4.tr0 t6).tr1 t7 om;replace hb4:=hb4.tr t12 (fun hx=>by have:=(hpa.lt _ hx).1;(try have:=or_hpa_b4 _ hx);omega);replace hb5:=(hb5.tr0 t6).tr1 t7 om;replace hb5:=hb5.tr t12 (fun hx=>by have:=(hpa.lt _ hx).1;(try have:=or_hpa_b5 _ hx);omega);replace hoN:=hoN.tr t12 (fun g hg hx=>xv hoN hpa dE g hg hx);replace hvn:=fun x hx=>(hvn x hx).tr t12 (fun g hg=>by first | exact .inl (by have:=((hpa).lt g hg).1;omega) | (obtain⟨cs,h⟩:=(hpa).typ g hg;exact .inr ⟨_,_,h,by decide⟩))
    replace hbz:=nLT hbz (Same.size t12);replace hb7:=hb7.tr t12 (fun hx=>by have:=(hpa.lt _ hx).1;(try have:=or_hpa_b7 _ hx);omega);replace ho5:=ho5.tr t12 (fun g hg hx=>xv ho5 hpa dE g hg hx);replace hb9:=hb9.tr t12 (fun hx=>by have:=(hpa.lt _ hx).1;(try have:=or_hpa_b9 _ hx);omega);obtain⟨P3,e50,hpaQ,hu3⟩:=hR 7 dE;obtain⟨b52,e52,lo52,hb52⟩:=hR 9 dE;have hpa:=hpaQ;refine x9 43 _ (hR 0 dE) nu (x9 44 _ (hR 1 dE) nu (x9 50 _ e50 nu (x9 52 _ e52 nu ?_)));refine kQ U91 Y7 rfl dE ho5 hb52 rfl rfl rfl zJ dE om om (nLT (Nat.succ_le_of_lt hb7.lt) (Nat.le_refl _)) (fun g53 cap53 w12 ho53 t13 hg=>?_);have ne_ho53_bp:g53≠bp:=fun e=>by
     have hl:=hbp.lt;rcases hg with hg | hg
     · have h1:=ho5.lt g53 (by rw [hg];exact List.mem_singleton.2 rfl)
       (try have:=or_ho5_bp g53 (by rw [hg];exact List.mem_singleton.2 rfl));omega
     · omega
    have ne_ho53_b4:g53≠b4:=fun e=>by
     have hl:=hb4.lt;rcases hg with hg | hg
     · have h1:=ho5.lt g53 (by rw [hg];exact List.mem_singleton.2 rfl)
       (try have:=or_ho5_b4 g53 (by rw [hg];exact List.mem_singleton.2 rfl));omega
     · omega
    have ne_ho53_b5:g53≠b5:=fun e=>by
     have hl:=hb5.lt;rcases hg with hg | hg
     · have h1:=ho5.lt g53 (by rw [hg];exact List.mem_singleton.2 rfl)
       (try have:=or_ho5_b5 g53 (by rw [hg];exact List.mem_singleton.2 rfl));omega
     · omega
    have ne_ho53_b7:g53≠b7:=fun e=>by
     have hl:=hb7.lt;rcases hg with hg | hg
     · have h1:=ho5.lt g53 (by rw [hg];exact List.mem_singleton.2 rfl)
       (try have:=or_ho5_b7 g53 (by rw [hg];exact List.mem_singleton.2 rfl));omega
     · omega
    have ne_ho53_b9:g53≠b9:=fun e=>by
     have hl:=hb9.lt;rcases hg with hg | hg
     · have h1:=ho5.lt g53 (by rw [hg];exact List.mem_singleton.2 rfl)
       (try have:=or_ho5_b9 g53 (by rw [hg];exact List.mem_singleton.2 rfl));omega
     · omega
    replace hbp:=hbp.tr t13 (fun hx=>by have:=(ho5.lt _ hx).1;(try have:=or_ho5_bp _ hx);omega);replace hta:=hta.tr t13 (fun g hg hx=>by first | exact xv hta ho5 dE g hg hx | exact hdis g hg hx | exact hdis g hx hg | (have h1:=(ho5.lt g hx).1;(try have:=hzz g hg);omega));replace hla:=hla.tr t13 (fun g hg hx=>by first | exact xv hla ho5 dE g hg hx | exact hdis g hg hx | exact hdis g hx hg | (have h1:=(ho5.lt g hx).1;(try have:=hzz g hg);omega));replace hrw:=fun x hx=>(hrw x hx).tr t13 (fun g hg=>by first | exact .inl (by have:=((ho5).lt g hg).1;omega) | (obtain⟨cs,h⟩:=(ho5).typ g hg;exact .inr ⟨_,_,h,by decide⟩))
    replace hCS:=And.intro (hCS.1.st t13 hCS.2 (fun g hg=> .inr (by have:=((ho5).lt g hg).1;omega))) (nLT hCS.2 (Same.size t13));replace hzb:=nLT hzb (Same.size t13);replace hb4:=hb4.tr t13 (fun hx=>by have:=(ho5.lt _ hx).1;(try have:=or_ho5_b4 _ hx);omega);replace hb5:=hb5.tr t13 (fun hx=>by have:=(ho5.lt _ hx).1;(try have:=or_ho5_b5 _ hx);omega);replace hoN:=hoN.tr t13 (fun g hg hx=>xv hoN ho5 dE g hg hx);replace hvn:=fun x hx=>(hvn x hx).tr t13 (fun g hg=>by first | exact .inl (by have:=((ho5).lt g hg).1;omega) | (obtain⟨cs,h⟩:=(ho5).typ g hg;exact .inr ⟨_,_,h,by decide⟩))
    replace hbz:=nLT hbz (Same.size t13);replace hb7:=hb7.tr t13 (fun hx=>by have:=(ho5.lt _ hx).1;(try have:=or_ho5_b7 _ hx);omega);replace hpa:=hpa.tr t13 (fun g hg hx=>by first | exact xv hpa ho5 dE g hg hx | exact hdis g hg hx | exact hdis g hx hg | (have h1:=(ho5.lt g hx).1;(try have:=hzz g hg);omega));replace ho53:Own w12 (b7 + 1) 95 2 (some ⟨g53,0,none⟩) (j + 1) cap53 (lnV (((L k).take (j + 1)).map (fun x=>(x.1,((rep x.2.toNat:Nat):Int))))):=by
      rw [List.take_succ_eq_append_getElem hjl,List.map_append,List.map_cons,List.map_nil,← Tx];simp only [ht,Int.toNat_natCast];exact ho53
    have ho5:=ho53;refine zn1 ?_;refine xQ (v:= .slice _ _ _) hb7 rfl rfl oj (by first | decide | simp) rfl rfl (fun w13 hq t14=>?_);replace hta:=hta.tr1 t14 (fun g hg=>by have:=(hta.lt g hg).1;(try have:=or_hta_b7 g hg);omega);replace hla:=hla.tr1 t14 (fun g hg=>by have:=(hla.lt g hg).1;(try have:=or_hla_b7 g hg);omega);replace hrw:=fun x hx=>(hrw x hx).tr t14 (fun g hg=>by rw [List.mem_singleton.1 hg];first | exact .inr ⟨_,_,hb7,by decide⟩ | exact .inl om)
    replace hCS:=And.intro (hCS.1.st t14 hCS.2 (fun g hg=>by have h1:=List.mem_singleton.1 hg;first | (left;rw [h1];simp;done) | (right;omega))) (nLT hCS.2 (Same.size t14));replace hzb:=nLT hzb (Same.size t14);replace hoN:=hoN.tr1 t14 (fun g hg=>by have:=(hoN.lt g hg).1;(try have:=or_hoN_b7 g hg);omega);replace hvn:=fun x hx=>(hvn x hx).tr t14 (fun g hg=>by rw [List.mem_singleton.1 hg];first | exact .inr ⟨_,_,hb7,by decide⟩ | exact .inl om)
    replace hbz:=nLT hbz (Same.size t14);replace hpa:=hpa.tr1 t14 (fun g hg=>by have:=(hpa.lt g hg).1;(try have:=or_hpa_b7 g hg);omega);replace ho5:=ho5.tr1 t14 (fun g hg=>by have:=(ho5.lt g hg).1;(try have:=or_ho5_b7 g hg);omega);replace hb7:=hq;refine zn7 ?_;refine y6 ((L k).length - (j + 1)) om agA ?_;replace hbp:=hbp.tr1 t14 om;replace hb4:=hb4.tr1 t14 om;replace hb5:=hb5.tr1 t14 om;exact⟨j + 1,_,_,P3,by omega,rfl,rfl,hb4,hb5,hbp,hpa,hta,hla,hrw,hu3,hCS,hzb,hoN,hvn,hbz,hb7,ho5⟩
   have hjx:j=(L k).length:=by omega
   subst hjx;obtain⟨sv,hsv⟩:∃ sv,sv=Value.slice A5 (L k).length cap5:=⟨_,rfl⟩
   obtain⟨P2,hP2⟩:∃ Q,Q=P1:=⟨_,rfl⟩
   subst hP2;have hu2:=hu1;have hrow5:RowO w7 zb w7.heap.size sv (nd (yx n rep T L) k).ln:=by
     rw [List.take_length] at ho5;have h:=RowO.of (lo:=zb) (xs:=((L k).map (fun x=>(x.1,((rep x.2.toNat:Nat):Int))))) hlo5 (A:=A5) (cap:=cap5) (by rw [List.length_map];exact ho5);rw [List.length_map] at h;rw [hGk,hsv];exact h
   obtain⟨s5,hs5⟩:∃ b,b=w7.heap.size:=⟨_,rfl⟩
   rw [← hs5] at hrow5;have hz5:s5≤w7.heap.size:=Nat.le_of_eq hs5;refine zn9 ?_;refine qJ (cs:=#[_,_]) [(0,.agg _)] rfl U28 oq JZ dE dE kR rfl (fun b59 w14 hb59 t15 hr=>?_);have:=nLL hbp.lt hr;have or_hta_b59:=(fun(g:Nat) hg=>nLL (hta.lt g hg).2 hr)
   have or_hla_b59:=(fun(g:Nat) hg=>nLL (hla.lt g hg).2 hr)
   have or_hCS_b59:=(nLT hCS.2 hr)
   have or_hzb_b59:=(nLT hzb hr)
   have:=nLL hb4.lt hr;have:=nLL hb5.lt hr;have or_hoN_b59:=(fun(g:Nat) hg=>nLL (hoN.lt g hg).2 hr)
   have or_hbz_b59:=(nLT hbz hr)
   have:=nLL hb7.lt hr;have or_hpa_b59:=(fun(g:Nat) hg=>nLL (hpa.lt g hg).2 hr)
   have or_hz5_b59:=(nLT hz5 hr)
   replace hrw:=fun x hx=>(hrw x hx).tr t15 (by simp)
   replace hCS:=And.intro (hCS.1.st t15 hCS.2 (by simp)) (nLT hCS.2 (Same.size t15));replace hzb:=nLT hzb (Same.size t15);replace hvn:=fun x hx=>(hvn x hx).tr t15 (by simp)
   replace hbz:=nLT hbz (Same.size t15);replace hrow5:=hrow5.tr t15 (by simp);replace hz5:=nLT hz5 (Same.size t15);replace hb5:=hb5.tr0 t15;replace hoN:=hoN.tr0 t15;refine kQ U28 NV rfl dE hoN hb59 rfl rfl rfl zJ dE om om hb5.lt (fun g60 cap60 w15 ho60 t16 hg=>?_);replace hbp:=hbp.tr0 t15;replace hb4:=hb4.tr0 t15;have ne_ho60_bp:g60≠bp:=fun e=>by
    have hl:=hbp.lt;rcases hg with hg | hg
    · have h1:=hoN.lt g60 (by rw [hg];exact List.mem_singleton.2 rfl)
      (try have:=or_hoN_bp g60 (by rw [hg];exact List.mem_singleton.2 rfl));omega
    · omega
   have ne_ho60_b4:g60≠b4:=fun e=>by
    have hl:=hb4.lt;rcases hg with hg | hg
    · have h1:=hoN.lt g60 (by rw [hg];exact List.mem_singleton.2 rfl)
      (try have:=or_hoN_b4 g60 (by rw [hg];exact List.mem_singleton.2 rfl));omega
    · omega
   have ne_ho60_b5:g60≠b5:=fun e=>by
    have hl:=hb5.lt;rcases hg with hg | hg
    · have h1:=hoN.lt g60 (by rw [hg];exact List.mem_singleton.2 rfl)
      (try have:=or_hoN_b5 g60 (by rw [hg];exact List.mem_singleton.2 rfl));omega
    · omega
   have ne_ho60_b7:g60≠b7:=fun e=>by
    replace hb7:=hb7.tr0 t15;have hl:=hb7.lt;rcases hg with hg | hg
    · have h1:=hoN.lt g60 (by rw [hg];exact List.mem_singleton.2 rfl)
      (try have:=or_hoN_b7 g60 (by rw [hg];exact List.mem_singleton.2 rfl));omega
    · omega
   replace hbp:=hbp.tr t16 (fun hx=>by have:=(hoN.lt _ hx).1;(try have:=or_hoN_bp _ hx);omega);replace hta:=hta.tr0 t15;replace hta:=hta.tr t16 (fun g hg hx=>by first | exact xv hta hoN dE g hg hx | exact hdis g hg hx | exact hdis g hx hg | (have h1:=(hoN.lt g hx).1;(try have:=hzz g hg);omega));replace hla:=hla.tr0 t15;replace hla:=hla.tr t16 (fun g hg hx=>by first | exact xv hla hoN dE g hg hx | exact hdis g hg hx | exact hdis g hx hg | (have h1:=(hoN.lt g hx).1;(try have:=hzz g hg);omega));replace hrw:=fun x hx=>(hrw x hx).tr t16 (fun g hg=>by first | exact .inl (by have:=((hoN).lt g hg).1;omega) | (obtain⟨cs,h⟩:=(hoN).typ g hg;exact .inr ⟨_,_,h,by decide⟩))
   replace hCS:=And.intro (hCS.1.st t16 hCS.2 (fun g hg=> .inr (by have:=((hoN).lt g hg).1;omega))) (nLT hCS.2 (Same.size t16));replace hzb:=nLT hzb (Same.size t16);replace hb4:=hb4.tr t16 (fun hx=>by have:=(hoN.lt _ hx).1;(try have:=or_hoN_b4 _ hx);omega);replace hb5:=hb5.tr t16 (fun hx=>by have:=(hoN.lt _ hx).1;(try have:=or_hoN_b5 _ hx);omega);replace hvn:=fun x hx=>(hvn x hx).tr t16 (fun g hg=>by first | exact .inl (by have:=((hoN).lt g hg).1;omega) | (obtain⟨cs,h⟩:=(hoN).typ g hg;exact .inr ⟨_,_,h,by decide⟩))
   replace hbz:=nLT hbz (Same.size t16);replace hpa:=hpa.tr0 t15;replace hpa:=hpa.tr t16 (fun g hg hx=>by first | exact xv hpa hoN dE g hg hx | exact hdis g hg hx | exact hdis g hx hg | (have h1:=(hoN.lt g hx).1;(try have:=hzz g hg);omega));replace hrow5:=hrow5.tr t16 (fun g hg=>by first | exact .inl (by have:=((hoN).lt g hg).1;omega) | (obtain⟨cs,h⟩:=(hoN).typ g hg;exact .inr ⟨_,_,h,by decide⟩));replace hz5:=nLT hz5 (Same.size t16);have hoN2:Own w15 (b5 + 1) 93 2 (some ⟨g60,0,none⟩) (k + 1) cap60 (ndV (vI T) (fun x=>if x=k then sv else Vn x) (k + 1)):=by
     rw [Y5,ZJ (f':=(vI T)) (h':=Vn) (fun x _=>rfl) (fun x hx=>by rw [if_neg (show ¬x=k from by omega)])];simp only [if_true];rw [hsv];exact ho60
   refine zn1 ?_;refine xQ (v:= .slice _ _ _) hb5 rfl rfl MQ (by first | decide | simp) rfl rfl (fun w16 hq t17=>?_);replace hta:=hta.tr1 t17 (fun g hg=>by have:=(hta.lt g hg).1;(try have:=or_hta_b5 g hg);omega);replace hla:=hla.tr1 t17 (fun g hg=>by have:=(hla.lt g hg).1;(try have:=or_hla_b5 g hg);omega);replace hrw:=fun x hx=>(hrw x hx).tr t17 (fun g hg=>by rw [List.mem_singleton.1 hg];first | exact .inr ⟨_,_,hb5,by decide⟩ | exact .inl om)
   replace hCS:=And.intro (hCS.1.st t17 hCS.2 (fun g hg=>by have h1:=List.mem_singleton.1 hg;first | (left;rw [h1];simp;done) | (right;omega))) (nLT hCS.2 (Same.size t17));replace hzb:=nLT hzb (Same.size t17);replace hvn:=fun x hx=>(hvn x hx).tr t17 (fun g hg=>by rw [List.mem_singleton.1 hg];first | exact .inr ⟨_,_,hb5,by decide⟩ | exact .inl om)
   replace hbz:=nLT hbz (Same.size t17);replace hpa:=hpa.tr1 t17 (fun g hg=>by have:=(hpa.lt g hg).1;(try have:=or_hpa_b5 g hg);omega);replace hrow5:=hrow5.tr t17 (fun g hg=>by rw [List.mem_singleton.1 hg];first | exact .inr ⟨_,_,hb5,by decide⟩ | exact .inl om);replace hz5:=nLT hz5 (Same.size t17);replace hoN2:=hoN2.tr1 t17 (fun g hg=>by have:=(hoN2.lt g hg).1;(try have:=or_hoN2_b5 g hg);omega);replace hb5:=hq;refine zn7 ?_;refine y6 (n - (k + 1)) om agA ?_;replace hbp:=hbp.tr1 t17 om;replace hb4:=hb4.tr1 t17 om
   exact⟨k + 1,_,_,fun x=>if x=k then sv else Vn x,P2,by omega,rfl,rfl,hb4,hb5,hbp,hpa,hta,hla,hrw,hu2,hCS,hzb,hoN2,fun x hx=>by
     by_cases e:x=k
     · subst e
       simp only [if_true];exact hrow5.up hz5
     · simp only [if_neg e]
       exact(hvn x om).up hbz⟩
  have hrk:¬rep k=k:=fun e=>c30 (by rw [e])
  have hGk:(nd (yx n rep T L) k).ln= []:=by rw [oW hlt,if_neg hrk]
  obtain⟨sv,hsv⟩:∃ sv,sv=Value.slice none 0 0:=⟨_,rfl⟩
  obtain⟨P2,hP2⟩:∃ Q,Q=P1:=⟨_,rfl⟩
  subst hP2;have hu2:=hu1;have hrow5:RowO w6 zb w6.heap.size sv (nd (yx n rep T L) k).ln:=by rw [hGk,hsv];exact⟨none,0,rfl,Own.nil _ _ _ _,fun g hg=>by cases hg⟩
  obtain⟨s5,hs5⟩:∃ b,b=w6.heap.size:=⟨_,rfl⟩
  rw [← hs5] at hrow5;have hz5:s5≤w6.heap.size:=Nat.le_of_eq hs5;refine zn6 ?_;refine qJ (cs:=#[_,_]) [(0,.agg _)] rfl U28 oq JZ dE dE kR rfl (fun b59 w17 hb59 t18 hr=>?_);have:=nLL hbp.lt hr;have or_hta_b59:=(fun(g:Nat) hg=>nLL (hta.lt g hg).2 hr)
  have or_hla_b59:=(fun(g:Nat) hg=>nLL (hla.lt g hg).2 hr)
  have or_hCS_b59:=(nLT hCS.2 hr)
  have or_hzb_b59:=(nLT hzb hr)
  have:=nLL hb4.lt hr;have:=nLL hb5.lt hr;have or_hoN_b59:=(fun(g:Nat) hg=>nLL (hoN.lt g hg).2 hr)
  have or_hbz_b59:=(nLT hbz hr)
  have:=nLL hb7.lt hr;have or_hpa_b59:=(fun(g:Nat) hg=>nLL (hpa.lt g hg).2 hr)
  have or_hz5_b59:=(nLT hz5 hr)
  replace hrw:=fun x hx=>(hrw x hx).tr t18 (by simp)
  replace hCS:=And.intro (hCS.1.st t18 hCS.2 (by simp)) (nLT hCS.2 (Same.size t18));replace hzb:=nLT hzb (Same.size t18);replace hvn:=fun x hx=>(hvn x hx).tr t18 (by simp)
  replace hbz:=nLT hbz (Same.size t18);replace hrow5:=hrow5.tr t18 (by simp);replace hz5:=nLT hz5 (Same.size t18);replace hb5:=hb5.tr0 t18;replace hoN:=hoN.tr0 t18;refine kQ U28 NV rfl dE hoN hb59 rfl rfl rfl zJ dE om om hb5.lt (fun g60 cap60 w18 ho60 t19 hg=>?_);replace hbp:=hbp.tr0 t18;replace hb4:=hb4.tr0 t18;have ne_ho60_bp:g60≠bp:=fun e=>by
   have hl:=hbp.lt;rcases hg with hg | hg
   · have h1:=hoN.lt g60 (by rw [hg];exact List.mem_singleton.2 rfl)
     (try have:=or_hoN_bp g60 (by rw [hg];exact List.mem_singleton.2 rfl));omega
   · omega
  have ne_ho60_b4:g60≠b4:=fun e=>by
   have hl:=hb4.lt;rcases hg with hg | hg
   · have h1:=hoN.lt g60 (by rw [hg];exact List.mem_singleton.2 rfl)
     (try have:=or_hoN_b4 g60 (by rw [hg];exact List.mem_singleton.2 rfl));omega
   · omega
  have ne_ho60_b5:g60≠b5:=fun e=>by
   have hl:=hb5.lt;rcases hg with hg | hg
   · have h1:=hoN.lt g60 (by rw [hg];exact List.mem_singleton.2 rfl)
     (try have:=or_hoN_b5 g60 (by rw [hg];exact List.mem_singleton.2 rfl));omega
   · omega
  have ne_ho60_b7:g60≠b7:=fun e=>by
   replace hb7:=hb7.tr0 t18;have hl:=hb7.lt;rcases hg with hg | hg
   · have h1:=hoN.lt g60 (by rw [hg];exact List.mem_singleton.2 rfl)
     (try have:=or_hoN_b7 g60 (by rw [hg];exact List.mem_singleton.2 rfl));omega
   · omega
  replace hbp:=hbp.tr t19 (fun hx=>by have:=(hoN.lt _ hx).1;(try have:=or_hoN_bp _ hx);omega);replace hta:=hta.tr0 t18;replace hta:=hta.tr t19 (fun g hg hx=>by first | exact xv hta hoN dE g hg hx | exact hdis g hg hx | exact hdis g hx hg | (have h1:=(hoN.lt g hx).1;(try have:=hzz g hg);omega));replace hla:=hla.tr0 t18;replace hla:=hla.tr t19 (fun g hg hx=>by first | exact xv hla hoN dE g hg hx | exact hdis g hg hx | exact hdis g hx hg | (have h1:=(hoN.lt g hx).1;(try have:=hzz g hg);omega));replace hrw:=fun x hx=>(hrw x hx).tr t19 (fun g hg=>by first | exact .inl (by have:=((hoN).lt g hg).1;omega) | (obtain⟨cs,h⟩:=(hoN).typ g hg;exact .inr ⟨_,_,h,by decide⟩))
  replace hCS:=And.intro (hCS.1.st t19 hCS.2 (fun g hg=> .inr (by have:=((hoN).lt g hg).1;omega))) (nLT hCS.2 (Same.size t19));replace hzb:=nLT hzb (Same.size t19);replace hb4:=hb4.tr t19 (fun hx=>by have:=(hoN.lt _ hx).1;(try have:=or_hoN_b4 _ hx);omega);replace hb5:=hb5.tr t19 (fun hx=>by have:=(hoN.lt _ hx).1;(try have:=or_hoN_b5 _ hx);omega);replace hvn:=fun x hx=>(hvn x hx).tr t19 (fun g hg=>by first | exact .inl (by have:=((hoN).lt g hg).1;omega) | (obtain⟨cs,h⟩:=(hoN).typ g hg;exact .inr ⟨_,_,h,by decide⟩))
  replace hbz:=nLT hbz (Same.size t19);replace hpa:=hpa.tr0 t18;replace hpa:=hpa.tr t19 (fun g hg hx=>by first | exact xv hpa hoN dE g hg hx | exact hdis g hg hx | exact hdis g hx hg | (have h1:=(hoN.lt g hx).1;(try have:=hzz g hg);omega));replace hrow5:=hrow5.tr t19 (fun g hg=>by first | exact .inl (by have:=((hoN).lt g hg).1;omega) | (obtain⟨cs,h⟩:=(hoN).typ g hg;exact .inr ⟨_,_,h,by decide⟩));replace hz5:=nLT hz5 (Same.size t19);have hoN2:Own w18 (b5 + 1) 93 2 (some ⟨g60,0,none⟩) (k + 1) cap60 (ndV (vI T) (fun x=>if x=k then sv else Vn x) (k + 1)):=by
    rw [Y5,ZJ (f':=(vI T)) (h':=Vn) (fun x _=>rfl) (fun x hx=>by rw [if_neg (show ¬x=k from by omega)])];simp only [if_true];rw [hsv];exact ho60
  refine zn1 ?_;refine xQ (v:= .slice _ _ _) hb5 rfl rfl MQ (by first | decide | simp) rfl rfl (fun w19 hq t20=>?_);replace hta:=hta.tr1 t20 (fun g hg=>by have:=(hta.lt g hg).1;(try have:=or_hta_b5 g hg);omega);replace hla:=hla.tr1 t20 (fun g hg=>by have:=(hla.lt g hg).1;(try have:=or_hla_b5 g hg);omega);replace hrw:=fun x hx=>(hrw x hx).tr t20 (fun g hg=>by rw [List.mem_singleton.1 hg];first | exact .inr ⟨_,_,hb5,by decide⟩ | exact .inl om)
  replace hCS:=And.intro (hCS.1.st t20 hCS.2 (fun g hg=>by have h1:=List.mem_singleton.1 hg;first | (left;rw [h1];simp;done) | (right;omega))) (nLT hCS.2 (Same.size t20));replace hzb:=nLT hzb (Same.size t20);replace hvn:=fun x hx=>(hvn x hx).tr t20 (fun g hg=>by rw [List.mem_singleton.1 hg];first | exact .inr ⟨_,_,hb5,by decide⟩ | exact .inl om)
  replace hbz:=nLT hbz (Same.size t20);replace hpa:=hpa.tr1 t20 (fun g hg=>by have:=(hpa.lt g hg).1;(try have:=or_hpa_b5 g hg);omega);replace hrow5:=hrow5.tr t20 (fun g hg=>by rw [List.mem_singleton.1 hg];first | exact .inr ⟨_,_,hb5,by decide⟩ | exact .inl om);replace hz5:=nLT hz5 (Same.size t20);replace hoN2:=hoN2.tr1 t20 (fun g hg=>by have:=(hoN2.lt g hg).1;(try have:=or_hoN2_b5 g hg);omega);replace hb5:=hq;refine zn7 ?_;refine y6 (n - (k + 1)) om agA ?_;replace hbp:=hbp.tr1 t20 om;replace hb4:=hb4.tr1 t20 om
  exact⟨k + 1,_,_,fun x=>if x=k then sv else Vn x,P2,by omega,rfl,rfl,hb4,hb5,hbp,hpa,hta,hla,hrw,hu2,hCS,hzb,hoN2,fun x hx=>by
    by_cases e:x=k
    · subst e
      simp only [if_true];exact hrow5.up hz5
    · simp only [if_neg e]
      exact(hvn x om).up hbz⟩
 have hke:k=n:=by omega
 rw [hke] at hoN hvn hb5;refine zn6 ?_;refine X1 4 [63,64,65,66] (aL (some (⟨qp,0,none⟩:Addr))) 3 (fun ix v wv=>match ix with | 0=>v= .agg #[.slice AN n capN] | 1=>v= .pointer (some ⟨bp,0,none⟩) | 2=>v= .int .i64 (r:Nat) | 3=>∃ Q:Nat→Nat,v= .int .i64 ((rep r:Nat):Int)∧Own wv ob 3 1 (some ⟨qp,0,none⟩) n cp (vV n (vN Q))∧UF n Q rep ρ | _=>True) (fun _=>True) kR kR ?_ (fun _ _ _ _=>trivial) ?_ ?_ dE ?_
 ·intro ix v wv wv2 h t21
  match ix,h with
  | 0,h=>exact h
  | 1,h=>exact h
  | 2,h=>exact h
  | 3,h=>
   obtain⟨P3,e66,hpaQ,hu3⟩:=h;exact⟨P3,e66,hpaQ.tr0 t21,hu3⟩
  | _ + 4,h=>exact trivial
 ·intro ix o hix hne hoq gg wx t22 hd
  match ix,hix,hne,hoq with
  | 0,_,_,hoq=>
   cases sI hoq;replace hb5:=hb5.tr t22 (fun hx=>by have:=(hpa.lt _ hx).1;(try have:=or_hpa_b5 _ hx);omega);refine qk (qW U30 rfl rfl hb5.range0 zV) ⟨Same.refl _ _,?_⟩;exact rfl
  | 1,_,_,hoq=>
   cases sI hoq;refine qk (x8 (v:= .pointer (some _)) rfl) ⟨Same.refl _ _,?_⟩;exact rfl
  | 2,_,_,hoq=>
   cases sI hoq;refine qk (x8 (v:= .int _ _) rfl) ⟨Same.refl _ _,?_⟩;exact rfl
  | 3,_,hne,_=>exact absurd rfl hne
  | _ + 4,hix,_,_=>exact absurd hix om
 ·intro o hoq gg wx t23 hd;cases sI hoq;replace hrw:=fun x hx=>(hrw x hx).tr t23 (by simp)
  replace hCS:=And.intro (hCS.1.st t23 hCS.2 (by simp)) (nLT hCS.2 (Same.size t23));replace hzb:=nLT hzb (Same.size t23);replace hvn:=fun x hx=>(hvn x hx).tr t23 (by simp)
  replace hbz:=nLT hbz (Same.size t23);refine zz 64 _ (hd 1 (zj kR)) nu (zz 65 _ (hd 2 (zj kR)) nu ?_);replace hbp:=hbp.tr0 t23;replace hpa:=hpa.tr0 t23;refine yY fn68 (Y4 wx hbp hpa hbo hu hrt) rfl (fun e' w2 hr=>?_);obtain⟨Q,rfl,hpaQ,huQ,hs2⟩:=hr;refine⟨_,rfl,hs2,⟨_,rfl,hpaQ,huQ⟩,trivial,fun kx v hne h=>?_⟩
  match kx,hne,h with
  | 0,_,h=>exact h
  | 1,_,h=>exact h
  | 2,_,h=>exact h
  | 3,hne,_=>exact absurd rfl hne
  | _ + 4,_,_=>exact trivial
 intro gg w20 t24 _ hR;replace hrw:=fun x hx=>(hrw x hx).tr t24 (fun g hg=>by first | exact .inl (by have:=((hpa).lt g hg).1;omega) | (obtain⟨cs,h⟩:=(hpa).typ g hg;exact .inr ⟨_,_,h,by decide⟩))
 replace hCS:=And.intro (hCS.1.st t24 hCS.2 (fun g hg=> .inr (by have:=((hpa).lt g hg).1;omega))) (nLT hCS.2 (Same.size t24));replace hzb:=nLT hzb (Same.size t24);replace hb4:=hb4.tr t24 (fun hx=>by have:=(hpa.lt _ hx).1;(try have:=or_hpa_b4 _ hx);omega);replace hoN:=hoN.tr t24 (fun g hg hx=>xv hoN hpa dE g hg hx);replace hvn:=fun x hx=>(hvn x hx).tr t24 (fun g hg=>by first | exact .inl (by have:=((hpa).lt g hg).1;omega) | (obtain⟨cs,h⟩:=(hpa).typ g hg;exact .inr ⟨_,_,h,by decide⟩))
 replace hbz:=nLT hbz (Same.size t24);obtain⟨P3,e66,hpaQ,hu3⟩:=hR 3 dE;have hpa:=hpaQ
 have hNG:NodesIn w20 AN (yx n rep T L):=Dw (lo:=zb) (bs:=bs) hoN (yw _ _ _ _) (fun x hx=>by
   have hx2:x < n:=by rw [← yw n rep T L];exact hx
   rw [← yy hx,oW hx2];rfl) (fun x hx=>by
   have hx2:x < n:=by rw [← yw n rep T L];exact hx
   have h:=hvn x hx2
   rw [← yy hx];exact h)
 have hrl:=hu.rl r hrt;have z4:=hb4.lt;refine x9 63 _ (hR 0 dE) nu (x9 66 _ e66 nu ?_);have hzq:=hzb;refine qz fn61 (fromn_any AN capN nf (yx n rep T L) (rep r) n _ hNG (yw _ _ _ _) hG2 hnf (by rw [yw];exact hrl)) rfl (fun e' w21 hr=>?_);obtain⟨⟨o,AF,hD,hok,rfl,hN⟩,t25⟩:=hr;replace t25:=sB t25;replace hrw:=fun x hx=>(hrw x hx).tr t25 (by simp)
 replace hCS:=And.intro (hCS.1.st t25 hCS.2 (by simp)) (nLT hCS.2 (Same.size t25));replace hzb:=nLT hzb (Same.size t25);replace hvn:=fun x hx=>(hvn x hx).tr t25 (by simp)
 replace hbz:=nLT hbz (Same.size t25);have hFr:FrSame (w20).heap.size w21 w21:=FrSame.refl _ _;have hzV:zb≤(w20).heap.size:=hzq;obtain⟨Z0,hZ0⟩:∃ z,z=(w20).heap.size:=⟨_,rfl⟩
 rw [← hZ0] at hN hFr z4 hzV;obtain⟨wZ,hwZ⟩:∃ z,z=w21:=⟨_,rfl⟩
 replace hFr:FrSame Z0 wZ w21:=by rw [hwZ];exact FrSame.refl _ _
 rw [← hwZ] at hN;refine⟨_,rfl,?_⟩;replace hb4:=hb4.tr0 t25;refine zk hb4 rfl rfl zV rfl zJ (fun w22 hq t26=>?_);replace hrw:=fun x hx=>(hrw x hx).tr t26 (fun g hg=>by rw [List.mem_singleton.1 hg];first | exact .inr ⟨_,_,hb4,by decide⟩ | exact .inl om)
 replace hCS:=And.intro (hCS.1.st t26 hCS.2 (fun g hg=>by have h1:=List.mem_singleton.1 hg;first | (left;rw [h1];simp;done) | (right;omega))) (nLT hCS.2 (Same.size t26));replace hzb:=nLT hzb (Same.size t26);replace hvn:=fun x hx=>(hvn x hx).tr t26 (fun g hg=>by rw [List.mem_singleton.1 hg];first | exact .inr ⟨_,_,hb4,by decide⟩ | exact .inl om)
 replace hbz:=nLT hbz (Same.size t26);replace hFr:=hFr.of t26 (fun g hg=>by rw [List.mem_singleton.1 hg];omega);replace hb4:=hq;refine zn3 ?_;refine y7 (.inl rfl) rfl (zw U30 rfl rfl hb4.range0 zV) ?_;exact⟨⟨o,AF,hD,rfl,fun w2 hf=>hN w2 (hFr.then hf hzV)⟩,hCS.1,hCS.2⟩
end Go.Proofs.YtdgnllfbooklcaaDoor
