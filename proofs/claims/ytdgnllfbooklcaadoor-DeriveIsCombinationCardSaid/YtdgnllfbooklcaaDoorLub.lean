/- What these functions of the program compute, at every world: (*glosswright/unify.pool).graph. What these functions of the program compute, at every world: glosswright/unify.Into, glosswright/unify.sized, glosswright/unify.Unify. Two graphs are unified: the result is the least graph to which both map. No program in sight. -/
import Derived.Test.YtdgnllfbooklcaaDoorU
import Derived.Test.YtdgnllfbooklcaaDoorSim
import Derived.Test.YtdgnllfbooklcaaDoorPJoin
namespace Go.Proofs.YtdgnllfbooklcaaDoor
open Go.RowKit
theorem pool_gok2 {l:List Ty} {U:List Nd} {J:List (Nat×Nat)} {P rep ρ:Nat→Nat} {T:Nat→Int} {L:Nat→List (Int×Int)} {nf:Nat} (h:US l U J P rep ρ T L []) (hp:0 < U.length) (hn:U.length≤1000000) (hUf:∀ i,i < U.length→∀ z ∈ (nd U i).ln,0≤z.1∧z.1 < nf):Py nf (xY U.length rep T L):=by
  have hL:∀ i,i < U.length→rep i=i→∀ z ∈ L i,0≤z.1∧z.1 < nf:=fun i hi hr z hz=>by
    obtain⟨u,hu,_,hm⟩:=h.val i hi hr z hz;exact hUf u hu z hm
  refine⟨by rw [yY];exact hp,by rw [yY];exact hn,fun i hi x hx=>?_,fun i hi=>?_⟩
  · rw [← yy hi] at hx
    rw [yY] at hi ⊢;rw [uK hi] at hx
    dsimp only at hx
    split at hx
    · rename_i hri
      obtain⟨y,hy,rfl⟩:=List.mem_map.1 hx;obtain⟨u,hu,_,hm⟩:=h.val i hi hri y hy;have h1:=hL i hi hri y hy;have h2:=h.ur u hu y hm;have h3:=h.uf.rl _ h2.2;simp only;omega
    · cases hx
  · rw [← yy hi]
    rw [yY] at hi;rw [uK hi]
    dsimp only
    split
    · rename_i hri
      rw [List.length_map];have:=K7 (nf:=nf) (lo:=0) (h.srt i hi) (hL i hi hri) (Int.le_refl _) om;omega
    · exact Nat.zero_le _
theorem fromn_any (G:Option Addr) (cg nf:Nat) (gr:List Nd) (r n:Nat) (w:World) (hG:NodesIn w G gr) (hn:gr.length=n) (hk:Py nf gr) (hnf:nf≤1000) (hr:r < gr.length):Calls Tryd.prog 61 #[.agg #[.slice G n cg],.int .i64 r] w fun e w'=>(∃ o A,DL gr [r] [] o∧OOk gr.length o∧e= .returned (.agg #[.slice A o.length o.length])∧(∀ w2,FrSame w.heap.size w' w2→NodesIn w2 A (y5 gr o)))∧Bel w w':=by
  subst hn;exact Mw G cg nf gr r w hG hk hnf hr
theorem fn61:zZ Tryd.prog 61=true:=by kernel_rfl
theorem N3:(Tryd.prog.info? 93).map (fun i=>(i.zero,i.size,i.bytes))=some (some (.agg #[.int .i64 0,.slice none 0 0]),2,32):=by kernel_rfl
set_option maxRecDepth 100000 in
set_option maxHeartbeats 4000000 in
theorem FZ {ob bp n nf r:Nat} {c0 c1:Value} {PA TA LA:Option Addr} {cp ct cl:Nat} {P rep ρ:Nat→Nat} {T:Nat→Int} {V:Nat→Value} {L:Nat→List (Int×Int)} (w:World) (hp:PoolAt w ob bp c0 c1 n PA TA LA cp ct cl P T V L) (hu:UF n P rep ρ) (hbo:bp < ob) (hob:ob≤w.heap.size) (hn:n≤1000000) (hnf:nf≤1000) (hG2:Py nf (xY n rep T L)) (hrt:r < n) (hLr:∀ i,i < n→rep i=i→∀ z ∈ L i,0≤z.2∧z.2.toNat < n) (hLl:∀ i,i < n→rep i=i→(L i).length≤nf):Calls Tryd.prog 58 #[.pointer (some ⟨bp,0,none⟩),.int .i64 (r:Nat)] w fun e w'=>(∃ o A,DL (xY n rep T L) [rep r] [] o∧e= .returned (.agg #[.slice A o.length o.length])∧∀ w2,FrSame w.heap.size w' w2→NodesIn w2 A (y5 (xY n rep T L) o))∧Chg ob [bp] w w'∧ob≤w'.heap.size:=by
 have hlob:w.heap.size≤w.heap.size:=Nat.le_refl _;obtain⟨hbp,hpa,hta,hla,hrw,hdis⟩:=hp;obtain⟨qp,rfl,hqp,hqpl,_⟩:=hpa.rowc hrt;obtain⟨qt,rfl,hqt,hqtl,_⟩:=hta.rowc hrt;obtain⟨ql,rfl,hql,hqll,_⟩:=hla.rowc hrt;obtain⟨zb,hzbe⟩:∃ b,b=w.heap.size:=⟨_,rfl⟩
 rw [← hzbe] at hrw;have hzb:zb≤w.heap.size:=Nat.le_of_eq hzbe;have hbpl:=hbp.lt;rw [← hzbe] at hqpl hqtl hqll hbpl;have hCS:Chg ob [bp] w w∧ob≤w.heap.size:=⟨Chg.refl _ _ _,hob⟩
 rw [← hzbe];refine enter Tryd.func58 Tryd.ntmps58 rfl (Nat.le_of_ble_eq_true rfl) (zn2 ?_);refine qw (cs:=#[.slice none 0 0]) vX rfl (fun b4 w1 hb4 t1 hr=>?_);have:=nLL hbp.lt hr;have or_hpa_b4:=(fun(g:Nat) hg=>nLL (hpa.lt g hg).2 hr)
 have or_hta_b4:=(fun(g:Nat) hg=>nLL (hta.lt g hg).2 hr)
 have or_hla_b4:=(fun(g:Nat) hg=>nLL (hla.lt g hg).2 hr)
 have or_hCS_b4:=(nLT hCS.2 hr)
 have or_hzb_b4:=(nLT hzb hr)
 replace hrw:=fun x hx=>(hrw x hx).tr t1 (by simp)
 replace hCS:=And.intro (hCS.1.st t1 hCS.2 (by simp)) (nLT hCS.2 (Same.size t1));replace hzb:=nLT hzb (Same.size t1);refine zn4 ?_;refine qw (cs:=#[.slice none 0 0]) vX rfl (fun b5 w2 hb5 t2 hr=>?_);replace hbp:=hbp.tr0 t1;have:=nLL hbp.lt hr;replace hpa:=hpa.tr0 t1;have or_hpa_b5:=(fun(g:Nat) hg=>nLL (hpa.lt g hg).2 hr)
 replace hta:=hta.tr0 t1;have or_hta_b5:=(fun(g:Nat) hg=>nLL (hta.lt g hg).2 hr)
 replace hla:=hla.tr0 t1;have or_hla_b5:=(fun(g:Nat) hg=>nLL (hla.lt g hg).2 hr)
 have or_hCS_b5:=(nLT hCS.2 hr)
 have or_hzb_b5:=(nLT hzb hr)
 have:=nLL hb4.lt hr;replace hrw:=fun x hx=>(hrw x hx).tr t2 (by simp)
 replace hCS:=And.intro (hCS.1.st t2 hCS.2 (by simp)) (nLT hCS.2 (Same.size t2));replace hzb:=nLT hzb (Same.size t2);refine zn4 ?_;have hlo45:=or_hzb_b4;have hlo5b:=or_hzb_b5;have hloN:zb≤b5 + 1:=Nat.le_succ_of_le or_hzb_b5;refine Zq (wl (x5 (v:= .pointer (some _)) rfl) (wl (ZQ rfl) (zn7 ?_)));replace hbp:=hbp.tr0 t2;replace hpa:=hpa.tr0 t2;replace hta:=hta.tr0 t2;replace hla:=hla.tr0 t2;replace hb4:=hb4.tr0 t2;refine qJ [6,7,9,15,16,17,18,19,20,21,22,23,24,25,26,27,28,29,30,31,32,33,34,35,36,37,38,39,40,41,42,43,44,45,46,47,48,49,50,51,52,53,54,55,56,57,58,59,60,61,62] (fun m g w'=>∃ (k:Nat) (AN:Option Addr) (capN:Nat) (Vn:Nat→Value) (P:Nat→Nat),k≤n∧m=n - k∧g 15= .int .i64 k∧Blk w' b4 30 #[.slice none 0 0]∧Blk w' b5 30 #[.slice AN k capN]∧Blk w' bp 125 #[c0,c1,.slice (some ⟨qp,0,none⟩) n cp,.slice (some ⟨qt,0,none⟩) n ct,.slice (some ⟨ql,0,none⟩) n cl]∧Own w' ob 3 1 (some ⟨qp,0,none⟩) n cp (vj n (vN P))∧Own w' ob 3 1 (some ⟨qt,0,none⟩) n ct (vj n (vI T))∧Own w' ob 91 1 (some ⟨ql,0,none⟩) n cl (vj n V)∧(∀ x,x < n→RowO w' ob zb (V x) (L x))∧UF n P rep ρ∧(Chg ob [bp] w w'∧ob≤w'.heap.size)∧zb≤w'.heap.size∧Own w' (b5 + 1) 93 2 AN k capN (ndV (vI T) Vn k)∧(∀ x,x < k→RowO w' zb w'.heap.size (Vn x) (nd (xY n rep T L) x).ln)) (n) ?_ (fun m g3 w3 hI=>?_)
 ·exact⟨0,none,0,fun _=> .slice none 0 0,P,Nat.zero_le _,rfl,rfl,hb4,hb5,hbp,hpa,hta,hla,hrw,hu,hCS,hzb,Own.nil _ _ _ _,fun x hx=>by omega⟩
 obtain⟨k,AN,capN,Vn,P,hkk,hm,h15,hb4,hb5,hbp,hpa,hta,hla,hrw,hu,hCS,hzb,hoN,hvn⟩:=hI;obtain⟨bs,hbse⟩:∃ b,b=w3.heap.size:=⟨_,rfl⟩
 rw [← hbse] at hvn;have hbz:bs≤w3.heap.size:=Nat.le_of_eq hbse;have lu5:=hb5.lt;have lu4:=hb4.lt;have luN:=fun g hg=>(hoN.lt g hg).2
 have hzbs:=hzb;rw [← hbse] at lu5 lu4 luN hzbs;refine zQ 15 _ h15 nu (zn6 ?_);refine zJ rfl (fun c16=>?_) (fun c16=>?_)
 ·have hlt:k < n:=by omega
  refine vQ ?_;refine wl (x5 (v:= .pointer (some _)) rfl) (wl (ZQ rfl) (zn3 ?_));refine wl (yJ (i:=k) U70 xq rfl rfl hlt rfl) (wl (qK (v:= .int _ _) U3 rfl rfl (hta.rowq hlt)) (wl (KV (v0:= .int _ _) (fun v0=>#[v0,.slice none 0 0]) rfl kR) ?_));refine qw (cs:=#[.int .i64 0,.slice none 0 0]) VK rfl (fun b7 w4 hb7 t3 hr=>?_);have:=nLL hbp.lt hr;have or_hpa_b7:=(fun(g:Nat) hg=>nLL (hpa.lt g hg).2 hr)
  have or_hta_b7:=(fun(g:Nat) hg=>nLL (hta.lt g hg).2 hr)
  have or_hla_b7:=(fun(g:Nat) hg=>nLL (hla.lt g hg).2 hr)
  have or_hCS_b7:=(nLT hCS.2 hr)
  have or_hzb_b7:=(nLT hzb hr)
  have:=nLL hb4.lt hr;have:=nLL hb5.lt hr;have or_hoN_b7:=(fun(g:Nat) hg=>nLL (hoN.lt g hg).2 hr)
  have or_hbz_b7:=(nLT hbz hr)
  replace hrw:=fun x hx=>(hrw x hx).tr t3 (by simp)
  replace hCS:=And.intro (hCS.1.st t3 hCS.2 (by simp)) (nLT hCS.2 (Same.size t3));replace hzb:=nLT hzb (Same.size t3);replace hvn:=fun x hx=>(hvn x hx).tr t3 (by simp)
  replace hbz:=nLT hbz (Same.size t3);refine zk hb7 rfl rfl oQ rfl zK (fun w5 hq t4=>?_);replace hpa:=hpa.tr0 t3;replace hpa:=hpa.tr1 t4 (fun g hg=>by have:=(hpa.lt g hg).1;(try have:=or_hpa_b7 g hg);omega);replace hta:=hta.tr0 t3;replace hta:=hta.tr1 t4 (fun g hg=>by have:=(hta.lt g hg).1;(try have:=or_hta_b7 g hg);omega);replace hla:=hla.tr0 t3;replace hla:=hla.tr1 t4 (fun g hg=>by have:=(hla.lt g hg).1;(try have:=or_hla_b7 g hg);omega);replace hrw:=fun x hx=>(hrw x hx).tr t4 (fun g hg=>by rw [List.mem_singleton.1 hg];first | exact .inr ⟨_,_,hb7,by decide⟩ | exact .inl om)
  replace hCS:=And.intro (hCS.1.st t4 hCS.2 (fun g hg=>by have h1:=List.mem_singleton.1 hg;first | (left;rw [h1];simp;done) | (right;omega))) (nLT hCS.2 (Same.size t4));replace hzb:=nLT hzb (Same.size t4);replace hoN:=hoN.tr0 t3;replace hoN:=hoN.tr1 t4 (fun g hg=>by have:=(hoN.lt g hg).1;(try have:=or_hoN_b7 g hg);omega);replace hvn:=fun x hx=>(hvn x hx).tr t4 (fun g hg=>by rw [List.mem_singleton.1 hg];first | exact .inr ⟨_,_,hb7,by decide⟩ | exact .inl om)
  replace hbz:=nLT hbz (Same.size t4);replace hb7:=hq;refine zn4 ?_;have hlo5:zb≤b7 + 1:=Nat.le_succ_of_le or_hzb_b7;have hbsb7:bs≤b7:=or_hbz_b7;refine Zq (wl (x5 (v:= .pointer (some _)) rfl) (wmI rfl ?_));replace hbp:=(hbp.tr0 t3).tr1 t4 om;refine zX fn68 (Xq _ hbp hpa hbo hu hlt) rfl (fun e' w6 hr=>?_);obtain⟨P1,rfl,hpa1,hu1,t5⟩:=hr;replace hbp:=hbp.tr t5 (fun hx=>by have:=(hpa.lt _ hx).1;(try have:=or_hpa_bp _ hx);omega);replace hta:=hta.tr t5 (fun g hg hx=>by first | exact x9 hta hpa dE g hg hx | exact hdis g hg hx | exact hdis g hx hg | (have h1:=(hpa.lt g hx).1;(try have:=hzz g hg);omega));replace hla:=hla.tr t5 (fun g hg hx=>by first | exact x9 hla hpa dE g hg hx | exact hdis g hg hx | exact hdis g hx hg | (have h1:=(hpa.lt g hx).1;(try have:=hzz g hg);omega));replace hrw:=fun x hx=>(hrw x hx).tr t5 (fun g hg=>by first | exact .inl (by have:=((hpa).lt g hg).1;omega) | (obtain⟨cs,h⟩:=(hpa).typ g hg;exact .inr ⟨_,_,h,by decide⟩))
  replace hCS:=And.intro (hCS.1.st t5 hCS.2 (fun g hg=> .inr (by have:=((hpa).lt g hg).1;omega))) (nLT hCS.2 (Same.size t5));replace hzb:=nLT hzb (Same.size t5);replace hb4:=(hb4.tr0 t3).tr1 t4 om;replace hb4:=hb4.tr t5 (fun hx=>by have:=(hpa.lt _ hx).1;(try have:=or_hpa_b4 _ hx);omega);replace hb5:=(hb5.tr0 t3).tr1 t4 om;replace hb5:=hb5.tr t5 (fun hx=>by have:=(hpa.lt _ hx).1;(try have:=or_hpa_b5 _ hx);omega);replace hoN:=hoN.tr t5 (fun g hg hx=>x9 hoN hpa dE g hg hx);replace hvn:=fun x hx=>(hvn x hx).tr t5 (fun g hg=>by first | exact .inl (by have:=((hpa).lt g hg).1;omega) | (obtain⟨cs,h⟩:=(hpa).typ g hg;exact .inr ⟨_,_,h,by decide⟩))
  replace hbz:=nLT hbz (Same.size t5);replace hb7:=hb7.tr t5 (fun hx=>by have:=(hpa.lt _ hx).1;(try have:=or_hpa_b7 _ hx);omega);have hpa:=hpa1;refine⟨_,rfl,?_⟩;refine zn4 ?_;refine zJ rfl (fun c30=>?_) (fun c30=>?_)
  ·have hrk:rep k=k:=by omega
   have hGk:(nd (xY n rep T L) k).ln=((L k).map (fun x=>(x.1,((rep x.2.toNat:Nat):Int)))):=by rw [uK hlt,if_pos hrk]
   obtain⟨Ax,cx,hVk,hAo,hAb⟩:=hrw k hlt;have hLm:=hAo.max;have hLk:=hLl k hlt hrk;refine zn2 ?_;refine wl (x5 (v:= .pointer (some _)) rfl) (wl (ZQ rfl) (zn3 ?_));refine wl (yJ (i:=k) Pw uv rfl rfl hlt rfl) (wl (qK (v:= .slice Ax (L k).length cx) U91 rfl rfl (by have h:=hla.rowq hlt;rw [hVk] at h;exact h)) (zn5 ?_));refine qJ [9,39,40,41,42,43,44,45,46,47,48,49,50,51,52,53,54,55] (fun m g w'=>∃ (j:Nat) (A5:Option Addr) (cap5:Nat) (P1:Nat→Nat),j≤(L k).length∧m=(L k).length - j∧g 39= .int .i64 j∧Blk w' b4 30 #[.slice none 0 0]∧Blk w' b5 30 #[.slice AN k capN]∧Blk w' bp 125 #[c0,c1,.slice (some ⟨qp,0,none⟩) n cp,.slice (some ⟨qt,0,none⟩) n ct,.slice (some ⟨ql,0,none⟩) n cl]∧Own w' ob 3 1 (some ⟨qp,0,none⟩) n cp (vj n (vN P1))∧Own w' ob 3 1 (some ⟨qt,0,none⟩) n ct (vj n (vI T))∧Own w' ob 91 1 (some ⟨ql,0,none⟩) n cl (vj n V)∧(∀ x,x < n→RowO w' ob zb (V x) (L x))∧UF n P1 rep ρ∧(Chg ob [bp] w w'∧ob≤w'.heap.size)∧zb≤w'.heap.size∧Own w' (b5 + 1) 93 2 AN k capN (ndV (vI T) Vn k)∧(∀ x,x < k→RowO w' zb bs (Vn x) (nd (xY n rep T L) x).ln)∧bs≤w'.heap.size∧Blk w' b7 93 #[.int .i64 (T k),.slice A5 j cap5]∧Own w' (b7 + 1) 95 2 A5 j cap5 (lnV (((L k).take j).map (fun x=>(x.1,((rep x.2.toNat:Nat):Int)))))) ((L k).length) ?_ (fun m g8 w7 hI=>?_)
   ·exact⟨0,none,0,P1,Nat.zero_le _,rfl,rfl,hb4,hb5,hbp,hpa,hta,hla,hrw,hu1,hCS,hzb,hoN,hvn,hbz,hb7,Own.nil _ _ _ _⟩
   obtain⟨j,A5,cap5,P1,hj,hmj,h39,hb4,hb5,hbp,hpa,hta,hla,hrw,hu1,hCS,hzb,hoN,hvn,hbz,hb7,ho5⟩:=hI;refine zQ 39 _ h39 nu (zn6 ?_);refine zJ rfl (fun c40=>?_) (fun c40=>?_)
   ·have hjl:j < (L k).length:=by omega
    have hVk2:=hVk;have hlk:=(hrw k hlt)
    rw [hVk] at hlk;obtain⟨_,hln⟩:=hlk.links;obtain⟨lb,lof,hAx,hlb,hlr⟩:=hln.at_ (Below.refl _ _:Bel w7 w7) hjl;subst hAx;have hxr:=hLr k hlt hrk _ (List.getElem_mem hjl);obtain⟨t,ht⟩:∃ t:Nat,((L k)[j]'hjl).2=(t:Int):=⟨(((L k)[j]'hjl).2).toNat,by omega⟩
    have htl:t < n:=by omega
    refine zn7 ?_;refine wl (qW U95 rfl rfl hlr qX) ?_;refine qw (cs:=#[.int .i64 0,.int .i64 0]) Z2 rfl (fun b9 w8 hb9 t6 hr=>?_);have:=nLL hbp.lt hr;have or_hta_b9:=(fun(g:Nat) hg=>nLL (hta.lt g hg).2 hr)
    have or_hla_b9:=(fun(g:Nat) hg=>nLL (hla.lt g hg).2 hr)
    have or_hCS_b9:=(nLT hCS.2 hr)
    have or_hzb_b9:=(nLT hzb hr)
    have:=nLL hb4.lt hr;have:=nLL hb5.lt hr;have or_hoN_b9:=(fun(g:Nat) hg=>nLL (hoN.lt g hg).2 hr)
    have or_hbz_b9:=(nLT hbz hr)
    have:=nLL hb7.lt hr;have or_hpa_b9:=(fun(g:Nat) hg=>nLL (hpa.lt g hg).2 hr)
    have or_ho5_b9:=(fun(g:Nat) hg=>nLL (ho5.lt g hg).2 hr)
    replace hrw:=fun x hx=>(hrw x hx).tr t6 (by simp)
    replace hCS:=And.intro (hCS.1.st t6 hCS.2 (by simp)) (nLT hCS.2 (Same.size t6));replace hzb:=nLT hzb (Same.size t6);replace hvn:=fun x hx=>(hvn x hx).tr t6 (by simp)
    replace hbz:=nLT hbz (Same.size t6);refine zk hb9 rfl rfl qX rfl zK (fun w9 hq t7=>?_);replace hta:=hta.tr0 t6;replace hta:=hta.tr1 t7 (fun g hg=>by have:=(hta.lt g hg).1;(try have:=or_hta_b9 g hg);omega);replace hla:=hla.tr0 t6;replace hla:=hla.tr1 t7 (fun g hg=>by have:=(hla.lt g hg).1;(try have:=or_hla_b9 g hg);omega);replace hrw:=fun x hx=>(hrw x hx).tr t7 (fun g hg=>by rw [List.mem_singleton.1 hg];first | exact .inr ⟨_,_,hb9,by decide⟩ | exact .inl om)
    replace hCS:=And.intro (hCS.1.st t7 hCS.2 (fun g hg=>by have h1:=List.mem_singleton.1 hg;first | (left;rw [h1];simp;done) | (right;omega))) (nLT hCS.2 (Same.size t7));replace hzb:=nLT hzb (Same.size t7);replace hoN:=hoN.tr0 t6;replace hoN:=hoN.tr1 t7 (fun g hg=>by have:=(hoN.lt g hg).1;(try have:=or_hoN_b9 g hg);omega);replace hvn:=fun x hx=>(hvn x hx).tr t7 (fun g hg=>by rw [List.mem_singleton.1 hg];first | exact .inr ⟨_,_,hb9,by decide⟩ | exact .inl om)
    replace hbz:=nLT hbz (Same.size t7);replace hpa:=hpa.tr0 t6;replace hpa:=hpa.tr1 t7 (fun g hg=>by have:=(hpa.lt g hg).1;(try have:=or_hpa_b9 g hg);omega);replace ho5:=ho5.tr0 t6;replace ho5:=ho5.tr1 t7 (fun g hg=>by have:=(ho5.lt g hg).1;(try have:=or_ho5_b9 g hg);omega);replace hb9:=hq;refine zW (e_S ?_);rw [ht] at hb9;have zo:=fun g hg=>(hpa.lt g hg).2
    replace hbp:=(hbp.tr0 t6).tr1 t7 om;replace hb7:=(hb7.tr0 t6).tr1 t7 om;refine Qq 10 [43,44,45,46,47,48,49,50,51,52] (aL (some (⟨qp,0,none⟩:Addr))) 7 (fun ix v wv=>match ix with | 0=>v= .pointer (some ⟨b7,1,none⟩) | 1=>v= .slice A5 j cap5 | 2=>v= .pointer (some ⟨b9,0,none⟩) | 3=>v= .int .i64 ((L k)[j]'hjl).1 | 4=>v= .pointer (some ⟨bp,0,none⟩) | 5=>v= .pointer (some ⟨b9,1,none⟩) | 6=>v= .int .i64 (t:Nat) | 7=>∃ Q:Nat→Nat,v= .int .i64 ((rep t:Nat):Int)∧Own wv ob 3 1 (some ⟨qp,0,none⟩) n cp (vj n (vN Q))∧UF n Q rep ρ | 8=>v= .agg #[.int .i64 ((L k)[j]'hjl).1,.int .i64 ((rep t:Nat):Int)] | 9=>∃ b,v= .slice (some ⟨b,0,none⟩) 1 1∧w9.heap.size≤b∧Blk wv b 95 #[.int .i64 ((L k)[j]'hjl).1,.int .i64 ((rep t:Nat):Int)] | _=>True) (fun _=>True) kR kR ?_ (fun _ _ _ _=>trivial) ?_ ?_ dE ?_
    ·intro ix v wv wv2 h t8
     match ix,h with
     | 0,h=>exact h
     | 1,h=>exact h
     | 2,h=>exact h
     | 3,h=>exact h
     | 4,h=>exact h
     | 5,h=>exact h
     | 6,h=>exact h
     | 7,h=>
      obtain⟨P3,e50,hpaQ,hu3⟩:=h;exact⟨P3,e50,hpaQ.tr0 t8,hu3⟩
     | 8,h=>exact h
     | 9,h=>
      obtain⟨b52,e52,lo52,hb52⟩:=h;exact⟨b52,e52,lo52,hb52.tr0 t8⟩
     | _ + 10,h=>exact trivial
    ·intro ix o hix hne hoq gg wx t9 hd
     match ix,hix,hne,hoq with
     | 0,_,_,hoq=>
      cases sI hoq;refine qQ (o7 U93 uv dE rfl rfl rfl) ⟨Same.refl _ _,?_⟩;exact rfl
     | 1,_,_,hoq=>
      cases sI hoq;replace hb7:=hb7.tr t9 (fun hx=>by have:=(hpa.lt _ hx).1;(try have:=or_hpa_b7 _ hx);omega);refine zq 43 _ (hd 0 (zj kR)) nu ?_;refine qQ (qK (v:= .slice _ _ _) U91 rfl rfl (hb7.cell rfl)) ⟨Same.refl _ _,?_⟩;exact rfl
     | 2,_,_,hoq=>
      cases sI hoq;refine qQ (o7 U95 xq dE rfl rfl rfl) ⟨Same.refl _ _,?_⟩;exact rfl
     | 3,_,_,hoq=>
      cases sI hoq;replace hb9:=hb9.tr t9 (fun hx=>by have:=(hpa.lt _ hx).1;(try have:=or_hpa_b9 _ hx);omega);refine zq 45 _ (hd 2 (zj kR)) nu ?_;refine qQ (qK (v:= .int _ _) U3 rfl rfl (hb9.cell rfl)) ⟨Same.refl _ _,?_⟩;exact rfl
     | 4,_,_,hoq=>
      cases sI hoq;refine qQ (x5 (v:= .pointer (some _)) rfl) ⟨Same.refl _ _,?_⟩;exact rfl
     | 5,_,_,hoq=>
      cases sI hoq;refine qQ (o7 U95 xq dE rfl rfl rfl) ⟨Same.refl _ _,?_⟩;exact rfl
     | 6,_,_,hoq=>
      cases sI hoq;replace hb9:=hb9.tr t9 (fun hx=>by have:=(hpa.lt _ hx).1;(try have:=or_hpa_b9 _ hx);omega);refine zq 48 _ (hd 5 (zj kR)) nu ?_;refine qQ (qK (v:= .int _ _) U3 rfl rfl (hb9.cell rfl)) ⟨Same.refl _ _,?_⟩;exact rfl
     | 7,_,hne,_=>exact absurd rfl hne
     | 8,_,_,hoq=>
      cases sI hoq;obtain⟨P3,e50,hpaQ,hu3⟩:=hd 7 (zj kR);refine zq 46 _ (hd 3 (zj kR)) nu (zq 50 _ e50 nu ?_);refine qQ (Z9 (v0:= .int _ _) (v1:= .int _ _) (fun v0 v1=>#[v0,v1]) rfl rfl kR) ⟨Same.refl _ _,?_⟩;exact rfl
     | 9,_,_,hoq=>
      cases sI hoq;have hs0:=t9;refine zq 51 _ (hd 8 (zj kR)) nu ?_;refine vK (fun ops Q K=>?_);refine qZ (cs:=#[_,_]) [(0,.agg _)] rfl U91 qX Z2 dE dE kR rfl (fun b52 w10 hb52 t10 hr=>?_);exact K _ _ ⟨t10,⟨_,rfl,nLT hs0.size hr,hb52⟩⟩
     | _ + 10,hix,_,_=>exact absurd hix om
    ·intro o hoq gg wx t11 hd;cases sI hoq;replace hrw:=fun x hx=>(hrw x hx).tr t11 (by simp)
     replace hCS:=And.intro (hCS.1.st t11 hCS.2 (by simp)) (nLT hCS.2 (Same.size t11));replace hzb:=nLT hzb (Same.size t11);replace hvn:=fun x hx=>(hvn x hx).tr t11 (by simp)
     replace hbz:=nLT hbz (Same.size t11);refine zq 47 _ (hd 4 (zj kR)) nu (zq 49 _ (hd 6 (zj kR)) nu ?_);replace hbp:=hbp.tr0 t11;replace hpa:=hpa.tr0 t11;refine yw fn68 (Xq wx hbp hpa hbo hu1 htl) rfl (fun e' w2 hr=>?_);obtain⟨Q,rfl,hpaQ,huQ,hs2⟩:=hr;refine⟨_,rfl,hs2,⟨_,rfl,hpaQ,huQ⟩,trivial,fun kx v hne h=>?_⟩
     match kx,hne,h with
     | 0,_,h=>exact h
     | 1,_,h=>exact h
     | 2,_,h=>exact h
     | 3,_,h=>exact h
     | 4,_,h=>exact h
     | 5,_,h=>exact h
     | 6,_,h=>exact h
     | 7,hne,_=>exact absurd rfl hne
     | 8,_,h=>exact h
     | 9,_,h=>
      obtain⟨b52,e52,lo52,hb52⟩:=h;exact⟨b52,e52,lo52,hb52.tr hs2 (fun hx=>by have:=zo _ hx;omega)⟩
     | _ + 10,_,_=>exact trivial
    intro gg w11 t12 _ hR;replace hbp:=hbp.tr t12 (fun hx=>by have:=(hpa.lt _ hx).1;(try have:=or_hpa_bp _ hx);omega);replace hta:=hta.tr t12 (fun g hg hx=>by first | exact x9 hta hpa dE g hg hx | exact hdis g hg hx | exact hdis g hx hg | (have h1:=(hpa.lt g hx).1;(try have:=hzz g hg);omega));replace hla:=hla.tr t12 (fun g hg hx=>by first | exact x9 hla hpa dE g hg hx | exact hdis g hg hx | exact hdis g hx hg | (have h1:=(hpa.lt g hx).1;(try have:=hzz g hg);omega));replace hrw:=fun x hx=>(hrw x hx).tr t12 (fun g hg=>by first | exact .inl (by have:=((hpa).lt g hg).1;omega) | (obtain⟨cs,h⟩:=(hpa).typ g hg;exact .inr ⟨_,_,h,by decide⟩))
    replace hCS:=And.intro (hCS.1.st t12 hCS.2 (fun g hg=> .inr (by have:=((hpa).lt g hg).1;omega))) (nLT hCS.2 (Same.size t12));replace hzb:=nLT hzb (Same.size t12);replace hb4:=(hb4.tr0 t6).tr1 t7 om;replace hb4:=hb4.tr t12 (fun hx=>by have:=(hpa.lt _ hx).1;(try have:=or_hpa_b4 _ hx);omega);replace hb5:=(hb5.tr0 t6).tr1 t7 om;replace hb5:=hb5.tr t12 (fun hx=>by have:=(hpa.lt _ hx).1;(try have:=or_hpa_b5 _ hx);omega);replace hoN:=hoN.tr t12 (fun g hg hx=>x9 hoN hpa dE g hg hx);replace hvn:=fun x hx=>(hvn x hx).tr t12 (fun g hg=>by first | exact .inl (by have:=((hpa).lt g hg).1;omega) | (obtain⟨cs,h⟩:=(hpa).typ g hg;exact .inr ⟨_,_,h,by decide⟩))
    replace hbz:=nLT hbz (Same.size t12);replace hb7:=hb7.tr t12 (fun hx=>by have:=(hpa.lt _ hx).1;(try have:=or_hpa_b7 _ hx);omega);replace ho5:=ho5.tr t12 (fun g hg hx=>x9 ho5 hpa dE g hg hx);replace hb9:=hb9.tr t12 (fun hx=>by have:=(hpa.lt _ hx).1;(try have:=or_hpa_b9 _ hx);omega);obtain⟨P3,e50,hpaQ,hu3⟩:=hR 7 dE;obtain⟨b52,e52,lo52,hb52⟩:=hR 9 dE;have hpa:=hpaQ;refine qY 43 _ (hR 0 dE) nu (qY 44 _ (hR 1 dE) nu (qY 50 _ e50 nu (qY 52 _ e52 nu ?_)));refine j9 U91 Xk rfl dE ho5 hb52 rfl rfl rfl zK dE om om (nLT (Nat.succ_le_of_lt hb7.lt) (Nat.le_refl _)) (fun g53 cap53 w12 ho53 t13 hg=>?_);have ne_ho53_bp:g53≠bp:=fun e=>by
     have hl:=hbp.lt;rcases hg with hg | hg
     · have h1:=ho5.lt g53 (by rw [hg];exact List.mem_singleton.2 rfl)
       (try have:=or_ho5_bp g53 (by rw [hg];exact List.mem_singleton.2 rfl));omega
     · omega
    have ne_ho53_b4:g53≠b4:=fun e=>by
     have hl:=hb4.lt;rcases hg with hg | hg
     · have h1:=ho5.lt g53 (by rw [hg];exact List.mem_singleton.2 rfl)
       (try have:=or_ho5_b4 g53 (by rw [hg];exact List.mem_singleton.2 rfl));omega
     · omega
    have ne_ho53_b5:g53≠b5:=fun e=>by
     have hl:=hb5.lt;rcases hg with hg | hg
     · have h1:=ho5.lt g53 (by rw [hg];exact List.mem_singleton.2 rfl)
       (try have:=or_ho5_b5 g53 (by rw [hg];exact List.mem_singleton.2 rfl));omega
     · omega
    have ne_ho53_b7:g53≠b7:=fun e=>by
     have hl:=hb7.lt;rcases hg with hg | hg
     · have h1:=ho5.lt g53 (by rw [hg];exact List.mem_singleton.2 rfl)
       (try have:=or_ho5_b7 g53 (by rw [hg];exact List.mem_singleton.2 rfl));omega
     · omega
    have ne_ho53_b9:g53≠b9:=fun e=>by
     have hl:=hb9.lt;rcases hg with hg | hg
     · have h1:=ho5.lt g53 (by rw [hg];exact List.mem_singleton.2 rfl)
       (try have:=or_ho5_b9 g53 (by rw [hg];exact List.mem_singleton.2 rfl));omega
     · omega
    replace hbp:=hbp.tr t13 (fun hx=>by have:=(ho5.lt _ hx).1;(try have:=or_ho5_bp _ hx);omega);replace hta:=hta.tr t13 (fun g hg hx=>by first | exact x9 hta ho5 dE g hg hx | exact hdis g hg hx | exact hdis g hx hg | (have h1:=(ho5.lt g hx).1;(try have:=hzz g hg);omega));replace hla:=hla.tr t13 (fun g hg hx=>by first | exact x9 hla ho5 dE g hg hx | exact hdis g hg hx | exact hdis g hx hg | (have h1:=(ho5.lt g hx).1;(try have:=hzz g hg);omega));replace hrw:=fun x hx=>(hrw x hx).tr t13 (fun g hg=>by first | exact .inl (by have:=((ho5).lt g hg).1;omega) | (obtain⟨cs,h⟩:=(ho5).typ g hg;exact .inr ⟨_,_,h,by decide⟩))
    replace hCS:=And.intro (hCS.1.st t13 hCS.2 (fun g hg=> .inr (by have:=((ho5).lt g hg).1;omega))) (nLT hCS.2 (Same.size t13));replace hzb:=nLT hzb (Same.size t13);replace hb4:=hb4.tr t13 (fun hx=>by have:=(ho5.lt _ hx).1;(try have:=or_ho5_b4 _ hx);omega);replace hb5:=hb5.tr t13 (fun hx=>by have:=(ho5.lt _ hx).1;(try have:=or_ho5_b5 _ hx);omega);replace hoN:=hoN.tr t13 (fun g hg hx=>x9 hoN ho5 dE g hg hx);replace hvn:=fun x hx=>(hvn x hx).tr t13 (fun g hg=>by first | exact .inl (by have:=((ho5).lt g hg).1;omega) | (obtain⟨cs,h⟩:=(ho5).typ g hg;exact .inr ⟨_,_,h,by decide⟩))
    replace hbz:=nLT hbz (Same.size t13);replace hb7:=hb7.tr t13 (fun hx=>by have:=(ho5.lt _ hx).1;(try have:=or_ho5_b7 _ hx);omega);replace hpa:=hpa.tr t13 (fun g hg hx=>by first | exact x9 hpa ho5 dE g hg hx | exact hdis g hg hx | exact hdis g hx hg | (have h1:=(ho5.lt g hx).1;(try have:=hzz g hg);omega));replace ho53:Own w12 (b7 + 1) 95 2 (some ⟨g53,0,none⟩) (j + 1) cap53 (lnV (((L k).take (j + 1)).map (fun x=>(x.1,((rep x.2.toNat:Nat):Int))))):=by
      rw [List.take_succ_eq_append_getElem hjl,List.map_append,List.map_cons,List.map_nil,← Tq];simp only [ht,Int.toNat_natCast];exact ho53
    have ho5:=ho53;refine zn1 ?_;refine xZ (v:= .slice _ _ _) hb7 rfl rfl uv (by first | decide | simp) rfl rfl (fun w13 hq t14=>?_);replace hta:=hta.tr1 t14 (fun g hg=>by have:=(hta.lt g hg).1;(try have:=or_hta_b7 g hg);omega);replace hla:=hla.tr1 t14 (fun g hg=>by have:=(hla.lt g hg).1;(try have:=or_hla_b7 g hg);omega);replace hrw:=fun x hx=>(hrw x hx).tr t14 (fun g hg=>by rw [List.mem_singleton.1 hg];first | exact .inr ⟨_,_,hb7,by decide⟩ | exact .inl om)
    replace hCS:=And.intro (hCS.1.st t14 hCS.2 (fun g hg=>by have h1:=List.mem_singleton.1 hg;first | (left;rw [h1];simp;done) | (right;omega))) (nLT hCS.2 (Same.size t14));replace hzb:=nLT hzb (Same.size t14);replace hoN:=hoN.tr1 t14 (fun g hg=>by have:=(hoN.lt g hg).1;(try have:=or_hoN_b7 g hg);omega);replace hvn:=fun x hx=>(hvn x hx).tr t14 (fun g hg=>by rw [List.mem_singleton.1 hg];first | exact .inr ⟨_,_,hb7,by decide⟩ | exact .inl om)
    replace hbz:=nLT hbz (Same.size t14);replace hpa:=hpa.tr1 t14 (fun g hg=>by have:=(hpa.lt g hg).1;(try have:=or_hpa_b7 g hg);omega);replace ho5:=ho5.tr1 t14 (fun g hg=>by have:=(ho5.lt g hg).1;(try have:=or_ho5_b7 g hg);omega);replace hb7:=hq;refine zn7 ?_;refine yq ((L k).length - (j + 1)) om agA ?_;replace hbp:=hbp.tr1 t14 om;replace hb4:=hb4.tr1 t14 om;replace hb5:=hb5.tr1 t14 om;exact⟨j + 1,_,_,P3,by omega,rfl,rfl,hb4,hb5,hbp,hpa,hta,hla,hrw,hu3,hCS,hzb,hoN,hvn,hbz,hb7,ho5⟩
   have hjx:j=(L k).length:=by omega
   subst hjx;obtain⟨sv,hsv⟩:∃ sv,sv=Value.slice A5 (L k).length cap5:=⟨_,rfl⟩
   obtain⟨P2,hP2⟩:∃ Q,Q=P1:=⟨_,rfl⟩
   subst hP2;have hu2:=hu1;have hrow5:RowO w7 zb w7.heap.size sv (nd (xY n rep T L) k).ln:=by
     rw [List.take_length] at ho5;have h:=RowO.of (lo:=zb) (xs:=((L k).map (fun x=>(x.1,((rep x.2.toNat:Nat):Int))))) hlo5 (A:=A5) (cap:=cap5) (by rw [List.length_map];exact ho5);rw [List.length_map] at h;rw [hGk,hsv];exact h
   obtain⟨s5,hs5⟩:∃ b,b=w7.heap.size:=⟨_,rfl⟩
   rw [← hs5] at hrow5;have hz5:s5≤w7.heap.size:=Nat.le_of_eq hs5;refine zn9 ?_;refine qZ (cs:=#[_,_]) [(0,.agg _)] rfl U28 oQ VK dE dE kR rfl (fun b59 w14 hb59 t15 hr=>?_);have:=nLL hbp.lt hr;have or_hta_b59:=(fun(g:Nat) hg=>nLL (hta.lt g hg).2 hr)
   have or_hla_b59:=(fun(g:Nat) hg=>nLL (hla.lt g hg).2 hr)
   have or_hCS_b59:=(nLT hCS.2 hr)
   have or_hzb_b59:=(nLT hzb hr)
   have:=nLL hb4.lt hr;have:=nLL hb5.lt hr;have or_hoN_b59:=(fun(g:Nat) hg=>nLL (hoN.lt g hg).2 hr)
   have or_hbz_b59:=(nLT hbz hr)
   have:=nLL hb7.lt hr;have or_hpa_b59:=(fun(g:Nat) hg=>nLL (hpa.lt g hg).2 hr)
   have or_hz5_b59:=(nLT hz5 hr)
   replace hrw:=fun x hx=>(hrw x hx).tr t15 (by simp)
   replace hCS:=And.intro (hCS.1.st t15 hCS.2 (by simp)) (nLT hCS.2 (Same.size t15));replace hzb:=nLT hzb (Same.size t15);replace hvn:=fun x hx=>(hvn x hx).tr t15 (by simp)
   replace hbz:=nLT hbz (Same.size t15);replace hrow5:=hrow5.tr t15 (by simp);replace hz5:=nLT hz5 (Same.size t15);replace hb5:=hb5.tr0 t15;replace hoN:=hoN.tr0 t15;refine j9 U28 N3 rfl dE hoN hb59 rfl rfl rfl zK dE om om hb5.lt (fun g60 cap60 w15 ho60 t16 hg=>?_);replace hbp:=hbp.tr0 t15;replace hb4:=hb4.tr0 t15;have ne_ho60_bp:g60≠bp:=fun e=>by
    have hl:=hbp.lt;rcases hg with hg | hg
    · have h1:=hoN.lt g60 (by rw [hg];exact List.mem_singleton.2 rfl)
      (try have:=or_hoN_bp g60 (by rw [hg];exact List.mem_singleton.2 rfl));omega
    · omega
   have ne_ho60_b4:g60≠b4:=fun e=>by
    have hl:=hb4.lt;rcases hg with hg | hg
    · have h1:=hoN.lt g60 (by rw [hg];exact List.mem_singleton.2 rfl)
      (try have:=or_hoN_b4 g60 (by rw [hg];exact List.mem_singleton.2 rfl));omega
    · omega
   have ne_ho60_b5:g60≠b5:=fun e=>by
    have hl:=hb5.lt;rcases hg with hg | hg
    · have h1:=hoN.lt g60 (by rw [hg];exact List.mem_singleton.2 rfl)
      (try have:=or_hoN_b5 g60 (by rw [hg];exact List.mem_singleton.2 rfl));omega
    · omega
   have ne_ho60_b7:g60≠b7:=fun e=>by
    replace hb7:=hb7.tr0 t15;have hl:=hb7.lt;rcases hg with hg | hg
    · have h1:=hoN.lt g60 (by rw [hg];exact List.mem_singleton.2 rfl)
      (try have:=or_hoN_b7 g60 (by rw [hg];exact List.mem_singleton.2 rfl));omega
    · omega
   replace hbp:=hbp.tr t16 (fun hx=>by have:=(hoN.lt _ hx).1;(try have:=or_hoN_bp _ hx);omega);replace hta:=hta.tr0 t15;replace hta:=hta.tr t16 (fun g hg hx=>by first | exact x9 hta hoN dE g hg hx | exact hdis g hg hx | exact hdis g hx hg | (have h1:=(hoN.lt g hx).1;(try have:=hzz g hg);omega));replace hla:=hla.tr0 t15;replace hla:=hla.tr t16 (fun g hg hx=>by first | exact x9 hla hoN dE g hg hx | exact hdis g hg hx | exact hdis g hx hg | (have h1:=(hoN.lt g hx).1;(try have:=hzz g hg);omega));replace hrw:=fun x hx=>(hrw x hx).tr t16 (fun g hg=>by first | exact .inl (by have:=((hoN).lt g hg).1;omega) | (obtain⟨cs,h⟩:=(hoN).typ g hg;exact .inr ⟨_,_,h,by decide⟩))
   replace hCS:=And.intro (hCS.1.st t16 hCS.2 (fun g hg=> .inr (by have:=((hoN).lt g hg).1;omega))) (nLT hCS.2 (Same.size t16));replace hzb:=nLT hzb (Same.size t16);replace hb4:=hb4.tr t16 (fun hx=>by have:=(hoN.lt _ hx).1;(try have:=or_hoN_b4 _ hx);omega);replace hb5:=hb5.tr t16 (fun hx=>by have:=(hoN.lt _ hx).1;(try have:=or_hoN_b5 _ hx);omega);replace hvn:=fun x hx=>(hvn x hx).tr t16 (fun g hg=>by first | exact .inl (by have:=((hoN).lt g hg).1;omega) | (obtain⟨cs,h⟩:=(hoN).typ g hg;exact .inr ⟨_,_,h,by decide⟩))
   replace hbz:=nLT hbz (Same.size t16);replace hpa:=hpa.tr0 t15;replace hpa:=hpa.tr t16 (fun g hg hx=>by first | exact x9 hpa hoN dE g hg hx | exact hdis g hg hx | exact hdis g hx hg | (have h1:=(hoN.lt g hx).1;(try have:=hzz g hg);omega));replace hrow5:=hrow5.tr t16 (fun g hg=>by first | exact .inl (by have:=((hoN).lt g hg).1;omega) | (obtain⟨cs,h⟩:=(hoN).typ g hg;exact .inr ⟨_,_,h,by decide⟩));replace hz5:=nLT hz5 (Same.size t16);have hoN2:Own w15 (b5 + 1) 93 2 (some ⟨g60,0,none⟩) (k + 1) cap60 (ndV (vI T) (fun x=>if x=k then sv else Vn x) (k + 1)):=by
     rw [Xx,Z4 (f':=(vI T)) (h':=Vn) (fun x _=>rfl) (fun x hx=>by rw [if_neg (show ¬x=k from by omega)])];simp only [if_true];rw [hsv];exact ho60
   refine zn1 ?_;refine xZ (v:= .slice _ _ _) hb5 rfl rfl IK (by first | decide | simp) rfl rfl (fun w16 hq t17=>?_);replace hta:=hta.tr1 t17 (fun g hg=>by have:=(hta.lt g hg).1;(try have:=or_hta_b5 g hg);omega);replace hla:=hla.tr1 t17 (fun g hg=>by have:=(hla.lt g hg).1;(try have:=or_hla_b5 g hg);omega);replace hrw:=fun x hx=>(hrw x hx).tr t17 (fun g hg=>by rw [List.mem_singleton.1 hg];first | exact .inr ⟨_,_,hb5,by decide⟩ | exact .inl om)
   replace hCS:=And.intro (hCS.1.st t17 hCS.2 (fun g hg=>by have h1:=List.mem_singleton.1 hg;first | (left;rw [h1];simp;done) | (right;omega))) (nLT hCS.2 (Same.size t17));replace hzb:=nLT hzb (Same.size t17);replace hvn:=fun x hx=>(hvn x hx).tr t17 (fun g hg=>by rw [List.mem_singleton.1 hg];first | exact .inr ⟨_,_,hb5,by decide⟩ | exact .inl om)
   replace hbz:=nLT hbz (Same.size t17);replace hpa:=hpa.tr1 t17 (fun g hg=>by have:=(hpa.lt g hg).1;(try have:=or_hpa_b5 g hg);omega);replace hrow5:=hrow5.tr t17 (fun g hg=>by rw [List.mem_singleton.1 hg];first | exact .inr ⟨_,_,hb5,by decide⟩ | exact .inl om);replace hz5:=nLT hz5 (Same.size t17);replace hoN2:=hoN2.tr1 t17 (fun g hg=>by have:=(hoN2.lt g hg).1;(try have:=or_hoN2_b5 g hg);omega);replace hb5:=hq;refine zn7 ?_;refine yq (n - (k + 1)) om agA ?_;replace hbp:=hbp.tr1 t17 om;replace hb4:=hb4.tr1 t17 om
   exact⟨k + 1,_,_,fun x=>if x=k then sv else Vn x,P2,by omega,rfl,rfl,hb4,hb5,hbp,hpa,hta,hla,hrw,hu2,hCS,hzb,hoN2,fun x hx=>by
     by_cases e:x=k
     · subst e
       simp only [if_true];exact hrow5.up hz5
     · simp only [if_neg e]
       exact(hvn x om).up hbz⟩
  have hrk:¬rep k=k:=fun e=>c30 (by rw [e])
  have hGk:(nd (xY n rep T L) k).ln= []:=by rw [uK hlt,if_neg hrk]
  obtain⟨sv,hsv⟩:∃ sv,sv=Value.slice none 0 0:=⟨_,rfl⟩
  obtain⟨P2,hP2⟩:∃ Q,Q=P1:=⟨_,rfl⟩
  subst hP2;have hu2:=hu1;have hrow5:RowO w6 zb w6.heap.size sv (nd (xY n rep T L) k).ln:=by rw [hGk,hsv];exact⟨none,0,rfl,Own.nil _ _ _ _,fun g hg=>by cases hg⟩
  obtain⟨s5,hs5⟩:∃ b,b=w6.heap.size:=⟨_,rfl⟩
  rw [← hs5] at hrow5;have hz5:s5≤w6.heap.size:=Nat.le_of_eq hs5;refine zn6 ?_;refine qZ (cs:=#[_,_]) [(0,.agg _)] rfl U28 oQ VK dE dE kR rfl (fun b59 w17 hb59 t18 hr=>?_);have:=nLL hbp.lt hr;have or_hta_b59:=(fun(g:Nat) hg=>nLL (hta.lt g hg).2 hr)
  have or_hla_b59:=(fun(g:Nat) hg=>nLL (hla.lt g hg).2 hr)
  have or_hCS_b59:=(nLT hCS.2 hr)
  have or_hzb_b59:=(nLT hzb hr)
  have:=nLL hb4.lt hr;have:=nLL hb5.lt hr;have or_hoN_b59:=(fun(g:Nat) hg=>nLL (hoN.lt g hg).2 hr)
  have or_hbz_b59:=(nLT hbz hr)
  have:=nLL hb7.lt hr;have or_hpa_b59:=(fun(g:Nat) hg=>nLL (hpa.lt g hg).2 hr)
  have or_hz5_b59:=(nLT hz5 hr)
  replace hrw:=fun x hx=>(hrw x hx).tr t18 (by simp)
  replace hCS:=And.intro (hCS.1.st t18 hCS.2 (by simp)) (nLT hCS.2 (Same.size t18));replace hzb:=nLT hzb (Same.size t18);replace hvn:=fun x hx=>(hvn x hx).tr t18 (by simp)
  replace hbz:=nLT hbz (Same.size t18);replace hrow5:=hrow5.tr t18 (by simp);replace hz5:=nLT hz5 (Same.size t18);replace hb5:=hb5.tr0 t18;replace hoN:=hoN.tr0 t18;refine j9 U28 N3 rfl dE hoN hb59 rfl rfl rfl zK dE om om hb5.lt (fun g60 cap60 w18 ho60 t19 hg=>?_);replace hbp:=hbp.tr0 t18;replace hb4:=hb4.tr0 t18;have ne_ho60_bp:g60≠bp:=fun e=>by
   have hl:=hbp.lt;rcases hg with hg | hg
   · have h1:=hoN.lt g60 (by rw [hg];exact List.mem_singleton.2 rfl)
     (try have:=or_hoN_bp g60 (by rw [hg];exact List.mem_singleton.2 rfl));omega
   · omega
  have ne_ho60_b4:g60≠b4:=fun e=>by
   have hl:=hb4.lt;rcases hg with hg | hg
   · have h1:=hoN.lt g60 (by rw [hg];exact List.mem_singleton.2 rfl)
     (try have:=or_hoN_b4 g60 (by rw [hg];exact List.mem_singleton.2 rfl));omega
   · omega
  have ne_ho60_b5:g60≠b5:=fun e=>by
   have hl:=hb5.lt;rcases hg with hg | hg
   · have h1:=hoN.lt g60 (by rw [hg];exact List.mem_singleton.2 rfl)
     (try have:=or_hoN_b5 g60 (by rw [hg];exact List.mem_singleton.2 rfl));omega
   · omega
  have ne_ho60_b7:g60≠b7:=fun e=>by
   replace hb7:=hb7.tr0 t18;have hl:=hb7.lt;rcases hg with hg | hg
   · have h1:=hoN.lt g60 (by rw [hg];exact List.mem_singleton.2 rfl)
     (try have:=or_hoN_b7 g60 (by rw [hg];exact List.mem_singleton.2 rfl));omega
   · omega
  replace hbp:=hbp.tr t19 (fun hx=>by have:=(hoN.lt _ hx).1;(try have:=or_hoN_bp _ hx);omega);replace hta:=hta.tr0 t18;replace hta:=hta.tr t19 (fun g hg hx=>by first | exact x9 hta hoN dE g hg hx | exact hdis g hg hx | exact hdis g hx hg | (have h1:=(hoN.lt g hx).1;(try have:=hzz g hg);omega));replace hla:=hla.tr0 t18;replace hla:=hla.tr t19 (fun g hg hx=>by first | exact x9 hla hoN dE g hg hx | exact hdis g hg hx | exact hdis g hx hg | (have h1:=(hoN.lt g hx).1;(try have:=hzz g hg);omega));replace hrw:=fun x hx=>(hrw x hx).tr t19 (fun g hg=>by first | exact .inl (by have:=((hoN).lt g hg).1;omega) | (obtain⟨cs,h⟩:=(hoN).typ g hg;exact .inr ⟨_,_,h,by decide⟩))
  replace hCS:=And.intro (hCS.1.st t19 hCS.2 (fun g hg=> .inr (by have:=((hoN).lt g hg).1;omega))) (nLT hCS.2 (Same.size t19));replace hzb:=nLT hzb (Same.size t19);replace hb4:=hb4.tr t19 (fun hx=>by have:=(hoN.lt _ hx).1;(try have:=or_hoN_b4 _ hx);omega);replace hb5:=hb5.tr t19 (fun hx=>by have:=(hoN.lt _ hx).1;(try have:=or_hoN_b5 _ hx);omega);replace hvn:=fun x hx=>(hvn x hx).tr t19 (fun g hg=>by first | exact .inl (by have:=((hoN).lt g hg).1;omega) | (obtain⟨cs,h⟩:=(hoN).typ g hg;exact .inr ⟨_,_,h,by decide⟩))
  replace hbz:=nLT hbz (Same.size t19);replace hpa:=hpa.tr0 t18;replace hpa:=hpa.tr t19 (fun g hg hx=>by first | exact x9 hpa hoN dE g hg hx | exact hdis g hg hx | exact hdis g hx hg | (have h1:=(hoN.lt g hx).1;(try have:=hzz g hg);omega));replace hrow5:=hrow5.tr t19 (fun g hg=>by first | exact .inl (by have:=((hoN).lt g hg).1;omega) | (obtain⟨cs,h⟩:=(hoN).typ g hg;exact .inr ⟨_,_,h,by decide⟩));replace hz5:=nLT hz5 (Same.size t19);have hoN2:Own w18 (b5 + 1) 93 2 (some ⟨g60,0,none⟩) (k + 1) cap60 (ndV (vI T) (fun x=>if x=k then sv else Vn x) (k + 1)):=by
    rw [Xx,Z4 (f':=(vI T)) (h':=Vn) (fun x _=>rfl) (fun x hx=>by rw [if_neg (show ¬x=k from by omega)])];simp only [if_true];rw [hsv];exact ho60
  refine zn1 ?_;refine xZ (v:= .slice _ _ _) hb5 rfl rfl IK (by first | decide | simp) rfl rfl (fun w19 hq t20=>?_);replace hta:=hta.tr1 t20 (fun g hg=>by have:=(hta.lt g hg).1;(try have:=or_hta_b5 g hg);omega);replace hla:=hla.tr1 t20 (fun g hg=>by have:=(hla.lt g hg).1;(try have:=or_hla_b5 g hg);omega);replace hrw:=fun x hx=>(hrw x hx).tr t20 (fun g hg=>by rw [List.mem_singleton.1 hg];first | exact .inr ⟨_,_,hb5,by decide⟩ | exact .inl om)
  replace hCS:=And.intro (hCS.1.st t20 hCS.2 (fun g hg=>by have h1:=List.mem_singleton.1 hg;first | (left;rw [h1];simp;done) | (right;omega))) (nLT hCS.2 (Same.size t20));replace hzb:=nLT hzb (Same.size t20);replace hvn:=fun x hx=>(hvn x hx).tr t20 (fun g hg=>by rw [List.mem_singleton.1 hg];first | exact .inr ⟨_,_,hb5,by decide⟩ | exact .inl om)
  replace hbz:=nLT hbz (Same.size t20);replace hpa:=hpa.tr1 t20 (fun g hg=>by have:=(hpa.lt g hg).1;(try have:=or_hpa_b5 g hg);omega);replace hrow5:=hrow5.tr t20 (fun g hg=>by rw [List.mem_singleton.1 hg];first | exact .inr ⟨_,_,hb5,by decide⟩ | exact .inl om);replace hz5:=nLT hz5 (Same.size t20);replace hoN2:=hoN2.tr1 t20 (fun g hg=>by have:=(hoN2.lt g hg).1;(try have:=or_hoN2_b5 g hg);omega);replace hb5:=hq;refine zn7 ?_;refine yq (n - (k + 1)) om agA ?_;replace hbp:=hbp.tr1 t20 om;replace hb4:=hb4.tr1 t20 om
  exact⟨k + 1,_,_,fun x=>if x=k then sv else Vn x,P2,by omega,rfl,rfl,hb4,hb5,hbp,hpa,hta,hla,hrw,hu2,hCS,hzb,hoN2,fun x hx=>by
    by_cases e:x=k
    · subst e
      simp only [if_true];exact hrow5.up hz5
    · simp only [if_neg e]
      exact(hvn x om).up hbz⟩
 have hke:k=n:=by omega
 rw [hke] at hoN hvn hb5;refine zn6 ?_;refine Qq 4 [63,64,65,66] (aL (some (⟨qp,0,none⟩:Addr))) 3 (fun ix v wv=>match ix with | 0=>v= .agg #[.slice AN n capN] | 1=>v= .pointer (some ⟨bp,0,none⟩) | 2=>v= .int .i64 (r:Nat) | 3=>∃ Q:Nat→Nat,v= .int .i64 ((rep r:Nat):Int)∧Own wv ob 3 1 (some ⟨qp,0,none⟩) n cp (vj n (vN Q))∧UF n Q rep ρ | _=>True) (fun _=>True) kR kR ?_ (fun _ _ _ _=>trivial) ?_ ?_ dE ?_
 ·intro ix v wv wv2 h t21
  match ix,h with
  | 0,h=>exact h
  | 1,h=>exact h
  | 2,h=>exact h
  | 3,h=>
   obtain⟨P3,e66,hpaQ,hu3⟩:=h;exact⟨P3,e66,hpaQ.tr0 t21,hu3⟩
  | _ + 4,h=>exact trivial
 ·intro ix o hix hne hoq gg wx t22 hd
  match ix,hix,hne,hoq with
  | 0,_,_,hoq=>
   cases sI hoq;replace hb5:=hb5.tr t22 (fun hx=>by have:=(hpa.lt _ hx).1;(try have:=or_hpa_b5 _ hx);omega);refine qQ (qW U30 rfl rfl hb5.range0 qx) ⟨Same.refl _ _,?_⟩;exact rfl
  | 1,_,_,hoq=>
   cases sI hoq;refine qQ (x5 (v:= .pointer (some _)) rfl) ⟨Same.refl _ _,?_⟩;exact rfl
  | 2,_,_,hoq=>
   cases sI hoq;refine qQ (x5 (v:= .int _ _) rfl) ⟨Same.refl _ _,?_⟩;exact rfl
  | 3,_,hne,_=>exact absurd rfl hne
  | _ + 4,hix,_,_=>exact absurd hix om
 ·intro o hoq gg wx t23 hd;cases sI hoq;replace hrw:=fun x hx=>(hrw x hx).tr t23 (by simp)
  replace hCS:=And.intro (hCS.1.st t23 hCS.2 (by simp)) (nLT hCS.2 (Same.size t23));replace hzb:=nLT hzb (Same.size t23);replace hvn:=fun x hx=>(hvn x hx).tr t23 (by simp)
  replace hbz:=nLT hbz (Same.size t23);refine zq 64 _ (hd 1 (zj kR)) nu (zq 65 _ (hd 2 (zj kR)) nu ?_);replace hbp:=hbp.tr0 t23;replace hpa:=hpa.tr0 t23;refine yw fn68 (Xq wx hbp hpa hbo hu hrt) rfl (fun e' w2 hr=>?_);obtain⟨Q,rfl,hpaQ,huQ,hs2⟩:=hr;refine⟨_,rfl,hs2,⟨_,rfl,hpaQ,huQ⟩,trivial,fun kx v hne h=>?_⟩
  match kx,hne,h with
  | 0,_,h=>exact h
  | 1,_,h=>exact h
  | 2,_,h=>exact h
  | 3,hne,_=>exact absurd rfl hne
  | _ + 4,_,_=>exact trivial
 intro gg w20 t24 _ hR;replace hrw:=fun x hx=>(hrw x hx).tr t24 (fun g hg=>by first | exact .inl (by have:=((hpa).lt g hg).1;omega) | (obtain⟨cs,h⟩:=(hpa).typ g hg;exact .inr ⟨_,_,h,by decide⟩))
 replace hCS:=And.intro (hCS.1.st t24 hCS.2 (fun g hg=> .inr (by have:=((hpa).lt g hg).1;omega))) (nLT hCS.2 (Same.size t24));replace hzb:=nLT hzb (Same.size t24);replace hb4:=hb4.tr t24 (fun hx=>by have:=(hpa.lt _ hx).1;(try have:=or_hpa_b4 _ hx);omega);replace hoN:=hoN.tr t24 (fun g hg hx=>x9 hoN hpa dE g hg hx);replace hvn:=fun x hx=>(hvn x hx).tr t24 (fun g hg=>by first | exact .inl (by have:=((hpa).lt g hg).1;omega) | (obtain⟨cs,h⟩:=(hpa).typ g hg;exact .inr ⟨_,_,h,by decide⟩))
 replace hbz:=nLT hbz (Same.size t24);obtain⟨P3,e66,hpaQ,hu3⟩:=hR 3 dE;have hpa:=hpaQ
 have hNG:NodesIn w20 AN (xY n rep T L):=D9 (lo:=zb) (bs:=bs) hoN (yY _ _ _ _) (fun x hx=>by
   have hx2:x < n:=by rw [← yY n rep T L];exact hx
   rw [← yy hx,uK hx2];rfl) (fun x hx=>by
   have hx2:x < n:=by rw [← yY n rep T L];exact hx
   have h:=hvn x hx2
   rw [← yy hx];exact h)
 have hrl:=hu.rl r hrt;have z4:=hb4.lt;refine qY 63 _ (hR 0 dE) nu (qY 66 _ e66 nu ?_);have hzq:=hzb;refine zX fn61 (fromn_any AN capN nf (xY n rep T L) (rep r) n _ hNG (yY _ _ _ _) hG2 hnf (by rw [yY];exact hrl)) rfl (fun e' w21 hr=>?_);obtain⟨⟨o,AF,hD,hok,rfl,hN⟩,t25⟩:=hr;replace t25:=sB t25;replace hrw:=fun x hx=>(hrw x hx).tr t25 (by simp)
 replace hCS:=And.intro (hCS.1.st t25 hCS.2 (by simp)) (nLT hCS.2 (Same.size t25));replace hzb:=nLT hzb (Same.size t25);replace hvn:=fun x hx=>(hvn x hx).tr t25 (by simp)
 replace hbz:=nLT hbz (Same.size t25);have hFr:FrSame (w20).heap.size w21 w21:=FrSame.refl _ _;have hzV:zb≤(w20).heap.size:=hzq;obtain⟨Z0,hZ0⟩:∃ z,z=(w20).heap.size:=⟨_,rfl⟩
 rw [← hZ0] at hN hFr z4 hzV;obtain⟨wZ,hwZ⟩:∃ z,z=w21:=⟨_,rfl⟩
 replace hFr:FrSame Z0 wZ w21:=by rw [hwZ];exact FrSame.refl _ _
 rw [← hwZ] at hN;refine⟨_,rfl,?_⟩;replace hb4:=hb4.tr0 t25;refine zk hb4 rfl rfl qx rfl zK (fun w22 hq t26=>?_);replace hrw:=fun x hx=>(hrw x hx).tr t26 (fun g hg=>by rw [List.mem_singleton.1 hg];first | exact .inr ⟨_,_,hb4,by decide⟩ | exact .inl om)
 replace hCS:=And.intro (hCS.1.st t26 hCS.2 (fun g hg=>by have h1:=List.mem_singleton.1 hg;first | (left;rw [h1];simp;done) | (right;omega))) (nLT hCS.2 (Same.size t26));replace hzb:=nLT hzb (Same.size t26);replace hvn:=fun x hx=>(hvn x hx).tr t26 (fun g hg=>by rw [List.mem_singleton.1 hg];first | exact .inr ⟨_,_,hb4,by decide⟩ | exact .inl om)
 replace hbz:=nLT hbz (Same.size t26);replace hFr:=hFr.of t26 (fun g hg=>by rw [List.mem_singleton.1 hg];omega);replace hb4:=hq;refine zn3 ?_;refine xX (.inl rfl) rfl (zw U30 rfl rfl hb4.range0 qx) ?_;exact⟨⟨o,AF,hD,rfl,fun w2 hf=>hN w2 (hFr.then hf hzV)⟩,hCS.1,hCS.2⟩
end Go.Proofs.YtdgnllfbooklcaaDoor
namespace Go.Proofs.YtdgnllfbooklcaaDoor
open Go.RowKit
def VX (l:List Ty) (U:List Nd) (J:List (Nat×Nat)) (X:List Nd):Prop:=∃ P rep ρ T L o,US l U J P rep ρ T L []∧DL (xY U.length rep T L) [rep 0] [] o∧X=y5 (xY U.length rep T L) o
theorem shN_zero (g:List Nd):g.map (shN 0)=g:=by
  have h:∀ x:Nd,shN 0 x=x:=fun x=>by
    refine Y0 rfl ?_;simp [shN]
  rw [List.map_congr_left (g:=id) (fun x _=>h x),List.map_id]
theorem two_feat {nf:Nat} {U g:List Nd} (hU:∀ i,i < U.length→∀ z ∈ (nd U i).ln,0≤z.1∧z.1 < nf) (hg:∀ i,i < g.length→∀ z ∈ (nd g i).ln,0≤z.1∧z.1 < nf):∀ i,i < (U ++ g.map (shN U.length)).length→∀ z ∈ (nd (U ++ g.map (shN U.length)) i).ln,0≤z.1∧z.1 < nf:=fun i hi z hz=>by
  by_cases e:i < U.length
  · rw [ZJ e] at hz;exact hU i e z hz
  · have hl:i - U.length < g.length:=by simp at hi;omega
    have h:=Vj (U:=U) hl
    rw [show U.length + (i - U.length)=i by omega] at h
    rw [h] at hz
    obtain⟨y,hy,rfl⟩:=List.mem_map.1 hz
    exact hg _ hl y hy
theorem TV {nt nf:Nat} {g:List Nd} (h:GOk nt nf g):∀ i,i < g.length→∀ z ∈ (nd g i).ln,0≤z.1∧z.1 < nf:=fun i hi z hz=>by
  rw [yy hi] at hz
  have:=h.ln i hi z hz
  omega
theorem pool_nil {w:World} {ob bp cp ct cl:Nat} {c0 c1:Value} (h:Blk w bp 125 #[c0,c1,.slice none 0 cp,.slice none 0 ct,.slice none 0 cl]) (hp:cp=0) (ht:ct=0) (hl:cl=0):PoolAt w ob bp c0 c1 0 none none none cp ct cl (fun x=>x) (fun _=>0) (fun _=> .slice none 0 0) (fun _=>[]):=by
  subst hp ht hl;exact⟨h,Own.nil _ _ _ _,Own.nil _ _ _ _,Own.nil _ _ _ _,fun x hx=>absurd hx (Nat.not_lt_zero _),fun g hg=>by cases hg⟩
theorem US.first {l:List Ty} {g:List Nd} (hg:GY l g):US l g [] (B9 0 (fun x=>x)) (fun x=>if x < 0 then x else x) (fun _=>0) (Pk 0 (fun _=>0) g) (R8 0 (fun _=>[]) g) []:=by
  have h:=(US.nil (l:=l) (P:=fun x=>x) (rep:=fun x=>x) (ρ:=fun _=>0) (T:=fun _=>0) (L:=fun _=>[])).add hg (fun p hp=>by cases hp);rw [List.nil_append,show ([]:List Nd).length=0 from rfl,shN_zero] at h;exact h
theorem NodesIn.chgB {w0 w w2:World} {ob b:Nat} {G:Option Addr} {g:List Nd} (h:NodesIn w0 G g) (hB:Bel w0 w) (hc:Chg ob [b] w w2) (h1:w0.heap.size≤ob) (h2:w0.heap.size≤b):NodesIn w2 G g:=h.mono (hB.chg hc h1 (fun g hg=>by rw [List.mem_singleton.1 hg];exact h2))
theorem ret_into {A:Option Addr} {n:Nat} {X:List Nd} (h:X.length=n):Ending.returned (.tuple #[.agg #[.slice A n n],.bool true])= .returned (.tuple #[.agg #[.slice A X.length X.length],.bool true]):=by rw [h]
theorem fn37:zZ Tryd.prog 37=true:=by kernel_rfl
theorem fn56:zZ Tryd.prog 56=true:=by kernel_rfl
theorem fn57:zZ Tryd.prog 57=true:=by kernel_rfl
theorem fn58:zZ Tryd.prog 58=true:=by kernel_rfl
set_option maxRecDepth 100000 in
set_option maxHeartbeats 2000000 in
theorem into_any {nt nf bu bd j c1 c2:Nat} {G1 G2:Option Addr} {l:List Ty} {ga gb:List Nd} (w:World) (hTab:TabIn w) (hTI:TableIn w l bu bd) (hSd:Ok l) (hG1:NodesIn w G1 ga) (hG2:NodesIn w G2 gb) (hka:GOk nt nf ga) (hkb:GOk nt nf gb) (hya:GY l ga) (hyb:GY l gb) (hnf:nf≤1000) (hj:j < ga.length):Calls Tryd.prog 37 #[.agg #[.slice (some ⟨bu,0,none⟩) l.length l.length,.slice (some ⟨bd,0,none⟩) l.length l.length],.agg #[.slice G1 ga.length c1],.int .i64 (j:Nat),.agg #[.slice G2 gb.length c2]] w fun e w'=>(∃ A X ok,e= .returned (.tuple #[.agg #[.slice A (List.length X) X.length],.bool ok])∧(∀ w2,FrSame w.heap.size w' w2→NodesIn w2 A X)∧((ok=true∧VX l (ga ++ gb.map (shN ga.length)) [(j,ga.length)] X)∨(ok=false∧X= []∧¬DQ l (ga ++ gb.map (shN ga.length)) [(j,ga.length)])))∧Bel w w':=by
 have hna:=hka.le;have hnb:=hkb.le;have hpb:=hkb.pos;refine enter Tryd.func37 Tryd.ntmps37 rfl (Nat.le_of_ble_eq_true rfl) ?_;have hB:Bel w w:=Below.refl _ _;refine zn2 ?_;refine xz (v:= .agg #[_,_]) (cs:=#[_,_]) rfl rfl (fun b4 w1 hb4 s1 hr=>?_);have lo4:=nLT (Bel.size hB) hr;refine xz (v:= .agg #[_]) (cs:=#[_]) rfl rfl (fun b5 w2 hb5 s2 hr=>?_);have:=nLL hb4.lt hr;replace hB:=hB.tr0 s1;have lo5:=nLT (Bel.size hB) hr;refine xz (v:= .agg #[_]) (cs:=#[_]) rfl rfl (fun b7 w3 hb7 s3 hr=>?_);replace hb4:=hb4.tr0 s2;have:=nLL hb4.lt hr;have:=nLL hb5.lt hr;replace hB:=hB.tr0 s2;have lo7:=nLT (Bel.size hB) hr;refine qw (cs:=#[.slice none 0 0]) vX rfl (fun b8 w4 hb8 s4 hr=>?_);replace hb4:=hb4.tr0 s3;have:=nLL hb4.lt hr;replace hb5:=hb5.tr0 s3;have:=nLL hb5.lt hr;have:=nLL hb7.lt hr;replace hB:=hB.tr0 s3;have lo8:=nLT (Bel.size hB) hr;refine zn6 ?_;refine wl (KV (v0:= .agg _) (fun v0=>#[(x6 v0 0),(x6 v0 1),.slice none 0 0,.slice none 0 0,.slice none 0 0]) rfl kR) ?_;refine xz (v:= .agg #[_,_,_,_,_]) (cs:=#[_,_,_,_,_]) rfl rfl (fun b13 w5 hb13 s5 hr=>?_);replace hb4:=hb4.tr0 s4;have:=nLL hb4.lt hr;replace hb5:=hb5.tr0 s4;have:=nLL hb5.lt hr;replace hb7:=hb7.tr0 s4;have:=nLL hb7.lt hr;have:=nLL hb8.lt hr;replace hB:=hB.tr0 s4;have lo13:=nLT (Bel.size hB) hr;refine wl (kQ (v:= .pointer (some _)) rfl) (zn3 ?_);replace hb13:Blk w5 b13 125 #[.slice (some ⟨bu,0,none⟩) l.length l.length,.slice (some ⟨bd,0,none⟩) l.length l.length,.slice none 0 0,.slice none 0 0,.slice none 0 0]:=hb13;have hz13:=hb13.lt;refine Zq (wl (x5 (v:= .pointer (some _)) rfl) (zn1 ?_));replace hB:=hB.tr0 s5;refine zX fn56 (T1 (n:=0) nt _ (pool_nil hb13 rfl rfl rfl) (Nat.lt_succ_self _) hz13 om (fun w2 hc=>hG1.chgB hB hc om lo13) hka hnf) rfl (fun e' w6 hr=>?_);obtain⟨⟨PA1,TA1,LA1,cp1,ct1,cl1,V1,rfl,hp1⟩,hC,hs1⟩:=hr;replace hB:=hB.chg hC om (by simp;omega);replace hb4:=hb4.tr0 s5;replace hb4:=hb4.chg hC om (by simp;omega);replace hb5:=hb5.tr0 s5;replace hb5:=hb5.chg hC om (by simp;omega);replace hb7:=hb7.tr0 s5;replace hb7:=hb7.chg hC om (by simp;omega);replace hb8:=hb8.tr0 s5;replace hb8:=hb8.chg hC om (by simp;omega);rw [Nat.zero_add] at hp1;have hus1:=US.first hya;refine⟨_,rfl,?_⟩;refine zn5 ?_;refine wl (x5 (v:= .pointer (some _)) rfl) (wmI rfl (wl (x5 (v:= .pointer (some _)) rfl) (zn1 ?_)));have hl13:w.heap.size≤b13:=lo13;refine zX fn56 (T1 (n:=ga.length) nt _ hp1 (Nat.lt_succ_self _) hs1 om (fun w2 hc=>hG2.chgB hB hc om lo13) hkb hnf) rfl (fun e' w7 hr=>?_)
 obtain⟨⟨PA2,TA2,LA2,cp2,ct2,cl2,V2,rfl,hp2⟩,hC,hs2⟩:=hr;replace hB:=hB.chg hC om (by simp;omega);replace hb4:=hb4.chg hC om (by simp;omega);replace hb5:=hb5.chg hC om (by simp;omega);replace hb7:=hb7.chg hC om (by simp;omega);replace hb8:=hb8.chg hC om (by simp;omega);have hUl:(ga ++ gb.map (shN ga.length)).length=ga.length + gb.length:=by simp
 have hus2:=(hus1.add hyb (fun p hp=>by cases hp)).push (a:=j) (b:=ga.length) om om;rw [← hUl] at hp2;have hUf:=two_feat (TV hka) (TV hkb);refine⟨_,rfl,?_⟩;refine zX fn57 (pjoin_any (U:=(ga ++ gb.map (shN ga.length))) (J:=[(j,ga.length)]) (nf:=nf) w _ hTab hTI hSd hB om hp2 (Nat.lt_succ_self _) hs2 om hnf hUf om hus2) rfl (fun e' w8 hr=>?_);obtain⟨⟨b,rfl,hyes,hno⟩,hC,hs3⟩:=hr;replace hB:=hB.chg hC om (by simp;omega);replace hb4:=hb4.chg hC om (by simp;omega);replace hb5:=hb5.chg hC om (by simp;omega);replace hb7:=hb7.chg hC om (by simp;omega);replace hb8:=hb8.chg hC om (by simp;omega);refine⟨_,rfl,?_⟩;refine zn3 ?_;refine kv rfl (fun c23=>?_) (fun c23=>?_)
 ·have hbf:b=false:=by simpa using c23
  have hnb2:=hno hbf;refine zn2 ?_;refine wl (uJ (vs:=#[]) (cs:=#[.slice none 0 0]) (by simp) kR) ?_;refine zk hb8 rfl rfl qx rfl zK (fun w9 hq s6=>?_);replace hb8:=hq;refine zn5 ?_;refine ZK (.inl rfl) rfl (zw U30 rfl rfl hb8.range0 qx) rfl ?_;replace hB:=hB.tr1 s6 lo8;exact⟨⟨none,[],false,rfl,fun w2 _=>oX w2 none,.inr ⟨rfl,rfl,hnb2⟩⟩,hB⟩
 have hbt:b=true:=by simpa using c23
 obtain⟨P3,rep3,ρ3,T3,V3,L3,hp3,hus3⟩:=hyes hbt;have hz8:=hb8.lt;have hszv:=Bel.size hB;refine zn4 ?_;refine wl (x5 (v:= .pointer (some _)) rfl) ?_
 refine zX fn58 (FZ (r:=0) (nf:=nf) _ hp3 hus3.uf (Nat.lt_succ_self _) hs3 om hnf (pool_gok2 hus3 om om hUf) om (fun i hi hr z hz=>by
    obtain⟨u,hu,_,hm⟩:=hus3.val i hi hr z hz;exact hus3.ur u hu z hm) (fun i hi hr=>by
    have:=K7 (nf:=nf) (lo:=0) (hus3.srt i hi) (fun z hz=>by
      obtain⟨u,hu,_,hm⟩:=hus3.val i hi hr z hz
      exact hUf u hu z hm) (Int.le_refl _) om
    omega)) rfl (fun e' w10 hr=>?_)
 obtain⟨⟨o,AF,hD,rfl,hN⟩,hC,hs4⟩:=hr;replace hB:=hB.chg hC om (by simp;omega);replace hb4:=hb4.chg hC om (by simp;omega);replace hb5:=hb5.chg hC om (by simp;omega);replace hb7:=hb7.chg hC om (by simp;omega);replace hb8:=hb8.chg hC om (by simp;omega);have hFr:FrSame (w8).heap.size w10 w10:=FrSame.refl _ _;obtain⟨Z0,hZ0⟩:∃ z,z=(w8).heap.size:=⟨_,rfl⟩
 rw [← hZ0] at hN hFr hz8 hszv;obtain⟨wZ,hwZ⟩:∃ z,z=w10:=⟨_,rfl⟩
 replace hFr:FrSame Z0 wZ w10:=by rw [hwZ];exact FrSame.refl _ _
 rw [← hwZ] at hN;refine⟨_,rfl,?_⟩;refine zk hb8 rfl rfl qx rfl zK (fun w11 hq s7=>?_);replace hFr:=hFr.of s7 (fun g hg=>by rw [List.mem_singleton.1 hg];omega);replace hb8:=hq;refine zn4 ?_;refine ZK (.inl rfl) rfl (zw U30 rfl rfl hb8.range0 qx) rfl ?_;have hcl:(y5 (xY (ga ++ gb.map (shN ga.length)).length rep3 T3 L3) o).length=o.length:=ux _ _;replace hB:=hB.tr1 s7 lo8;exact⟨⟨AF,_,true,ret_into hcl,fun w2 hf=>hN w2 (hFr.then hf hszv),.inl ⟨rfl,P3,rep3,ρ3,T3,L3,o,hus3,hD,rfl⟩⟩,hB⟩
end Go.Proofs.YtdgnllfbooklcaaDoor
namespace Go.Proofs.YtdgnllfbooklcaaDoor
open Go.RowKit
section lub
variable {l:List Ty} {fs:List Ft} {ga gb:List Nd}
structure Lub (l:List Ty) (ga gb X:List Nd):Prop where
  gx:GX l X
  left:Maps l ga X
  right:Maps l gb X
  least:∀ c,GY l c→Maps l ga c→Maps l gb c→Maps l X c
  can:∃ o,DL X [0] [] o∧y5 X o=X
theorem Lub.uniq {X Y:List Nd} (h:Lub l ga gb X) (k:Lub l ga gb Y):X=Y:=by
  obtain⟨o,ho,e⟩:=h.can;obtain⟨p,hp,e2⟩:=k.can;have:=Wy h.gx k.gx (h.least Y k.gx.toGY k.left k.right) (k.least X h.gx.toGY h.left h.right) ho hp;rw [e,e2] at this;exact this.symm
end lub
end Go.Proofs.YtdgnllfbooklcaaDoor
