/- What these functions of the program compute, at every world: (*glosswright/unify.pool).add. -/
import Derived.Test.YtdgnllfbooklcaaDoorU
import Derived.Test.YtdgnllfbooklcaaDoorSim
import Derived.Test.YtdgnllfbooklcaaDoorPFind
namespace Go.Proofs.YtdgnllfbooklcaaDoor
open Go.RowKit
structure PoolAt (w:World) (ob bp:Nat) (c0 c1:Value) (n:Nat) (PA TA LA:Option Addr) (cp ct cl:Nat) (P:Nat→Nat) (T:Nat→Int) (V:Nat→Value) (L:Nat→List (Int×Int)):Prop where
  bp:Blk w bp 125 #[c0,c1,.slice PA n cp,.slice TA n ct,.slice LA n cl]
  pa:Own w ob 3 1 PA n cp (vj n (vN P))
  ta:Own w ob 3 1 TA n ct (vj n (vI T))
  la:Own w ob 91 1 LA n cl (vj n V)
  rows:∀ x,x < n→RowO w ob w.heap.size (V x) (L x)
  dis:∀ g ∈ aL PA,¬g ∈ aL TA
theorem row2_lnV {m:Nat} {f h:Nat→Value} {xs:List (Int×Int)} (hl:xs.length=m) (hf:∀ k (hk:k < xs.length),f k= .int .i64 (xs[k]).1) (hh:∀ k (hk:k < xs.length),h k= .int .i64 (xs[k]).2):(jJ m f h).toList=lnV xs:=by
  refine List.ext_getElem? (fun j=>?_);by_cases hj:j < m * 2
  · have hk:j / 2 < xs.length:=by omega
    have h1:=Y3 xs (j / 2) hk;rcases Nat.mod_two_eq_zero_or_one j with e | e
    · have e2:j=0 + j / 2 * 2 + 0:=by omega
      rw [Array.getElem?_toList];rw [show (jJ m f h)[j]? =(jJ m f h)[0 + j / 2 * 2 + 0]? from congrArg (fun z=>(jJ m f h)[z]?) e2,D5 om,hf _ hk];rw [show (lnV xs)[j]? =(lnV xs)[j / 2 * 2]? from congrArg (fun z=>(lnV xs)[z]?) om,h1.1]
    · have e2:j=0 + j / 2 * 2 + 1:=by omega
      rw [Array.getElem?_toList];rw [show (jJ m f h)[j]? =(jJ m f h)[0 + j / 2 * 2 + 1]? from congrArg (fun z=>(jJ m f h)[z]?) e2,M6 om,hh _ hk];rw [show (lnV xs)[j]? =(lnV xs)[j / 2 * 2 + 1]? from congrArg (fun z=>(lnV xs)[z]?) om,h1.2]
  · rw [List.getElem?_eq_none (by simp [jJ];omega),List.getElem?_eq_none (by rw [Qy];omega)]
def B9 (n:Nat) (P:Nat→Nat) (x:Nat):Nat:=if x < n then P x else x
def Pk (n:Nat) (T:Nat→Int) (g:List Nd) (x:Nat):Int:=if x < n then T x else (nd g (x - n)).ty
def shL (n:Nat) (xs:List (Int×Int)):List (Int×Int):=xs.map (fun y=>(y.1,y.2 + (n:Int)))
def R8 (n:Nat) (L:Nat→List (Int×Int)) (g:List Nd) (x:Nat):List (Int×Int):=if x < n then L x else shL n (nd g (x - n)).ln
def Nx (V:Nat→Value) (m:Nat) (v:Value) (x:Nat):Value:=if x=m then v else V x
theorem rowL_put {V:Nat→Value} {m:Nat} {v:Value}:vj m V ++ [v]=vj (m + 1) (Nx V m v):=by
  rw [D1]
  exact u5 (fun x hx=>by
    by_cases e:x=m
    · subst e;simp [Nx]
    · have:x < m:=by omega
      simp [Nx,e,this])
theorem addP_new {n k:Nat} {P:Nat→Nat}:Value.int .i64 ((n + k:Nat):Int)=vN (B9 n P) (n + k):=by
  unfold vN B9;rw [if_neg om]
theorem addT_new {n k:Nat} {T:Nat→Int} {g:List Nd} (hk:k < g.length):Value.int .i64 (g[k]).ty=vI (Pk n T g) (n + k):=by
  unfold vI Pk;rw [if_neg om,show n + k - n=k by omega,yy hk]
theorem o8 {w:World} {base b sz k c:Nat} {e t:TypeId} {A:Option Addr} {xs:List Value} {cs:Array Value} (h:Own w base e sz A k c xs) (hb:Blk w b t cs) (hne:e≠t):∀ g ∈ aL A,g≠b:=fun g hg e1=>by
  obtain⟨c2,h2⟩:=h.typ g hg
  subst e1
  exact hne (Zx h2 hb)
theorem SX {n:Nat} {g:Nat→Value} {v:Value} (h:v=g n):vj n g ++ [v]=vj (n + 1) g:=by
  rw [D1]
  exact u5 (fun x hx=>by
    by_cases e:x < n
    · rw [if_pos e]
    · rw [if_neg e,h,show x=n by omega])
theorem in91:(Tryd.prog.info? 91).map (fun i=>(i.zero,i.size,i.bytes))=some (some (.slice none 0 0),1,24):=by kernel_rfl
theorem Xk:(Tryd.prog.info? 95).map (fun i=>(i.zero,i.size,i.bytes))=some (some (.agg #[.int .i64 0,.int .i64 0]),2,16):=by kernel_rfl
theorem sz123:(Tryd.prog.info? 123).map (·.size)=some 1:=by kernel_rfl
theorem ze91:(Tryd.prog.info? 91).map (·.zero)=some (some (.slice none 0 0)):=by kernel_rfl
theorem VK:(Tryd.prog.info? 93).map (·.zero)=some (some (.agg #[.int .i64 0,.slice none 0 0])):=by kernel_rfl
set_option maxHeartbeats 4000000 in
theorem T1 {ob bp n cg nf:Nat} {c0 c1:Value} {PA TA LA G:Option Addr} {cp ct cl:Nat} {P:Nat→Nat} {T:Nat→Int} {V:Nat→Value} {L:Nat→List (Int×Int)} {gr:List Nd} (nt:Nat) (w:World) (hp:PoolAt w ob bp c0 c1 n PA TA LA cp ct cl P T V L) (hbo:bp < ob) (hob:ob≤w.heap.size) (hn:n≤1000000) (hG:∀ w2,Chg ob [bp] w w2→NodesIn w2 G gr) (hk:GOk nt nf gr) (hnf:nf≤1000):Calls Tryd.prog 56 #[.pointer (some ⟨bp,0,none⟩),.agg #[.slice G gr.length cg]] w fun e w'=>(∃ PA' TA' LA' cp' ct' cl' V',e= .returned (.int .i64 (n:Nat))∧PoolAt w' ob bp c0 c1 (n + gr.length) PA' TA' LA' cp' ct' cl' (B9 n P) (Pk n T gr) V' (R8 n L gr))∧Chg ob [bp] w w'∧ob≤w'.heap.size:=by
 have hn6:=hk.le;have hlob:w.heap.size≤w.heap.size:=Nat.le_refl _;obtain⟨hbp,hpa,hta,hla,hrw,hdis⟩:=hp;obtain⟨bs,hbse⟩:∃ b,b=w.heap.size:=⟨_,rfl⟩
 rw [← hbse] at hrw;have hbz:bs≤w.heap.size:=Nat.le_of_eq hbse;have hCS:Chg ob [bp] w w∧ob≤w.heap.size:=⟨Chg.refl _ _ _,hob⟩
 replace hpa:Own w ob 3 1 PA n cp (vj n (vN (B9 n P))):=by rw [u5 (g':=vN P) (fun x hx=>by simp [vN,B9,hx])];exact hpa
 replace hta:Own w ob 3 1 TA n ct (vj n (vI (Pk n T gr))):=by rw [u5 (g':=vI T) (fun x hx=>by simp [vI,Pk,hx])];exact hta
 replace hrw:∀ x,x < n→RowO w ob bs (V x) (R8 n L gr x):=fun x hx=>by have h:=hrw x hx;simp only [R8,if_pos hx];exact h
 refine enter Tryd.func56 Tryd.ntmps56 rfl (Nat.le_of_ble_eq_true rfl) (zn2 ?_);refine xz (v:= .agg #[_]) (cs:=#[_]) rfl rfl (fun b3 w1 hb3 t1 hr=>?_);have:=nLL hbp.lt hr;have or_hpa_b3:=(fun(g:Nat) hg=>nLL (hpa.lt g hg).2 hr)
 have or_hta_b3:=(fun(g:Nat) hg=>nLL (hta.lt g hg).2 hr)
 have or_hla_b3:=(fun(g:Nat) hg=>nLL (hla.lt g hg).2 hr)
 have or_hCS_b3:=(nLT hCS.2 hr)
 have or_hbz_b3:=(nLT hbz hr)
 replace hrw:=fun x hx=>(hrw x hx).tr t1 (by simp)
 replace hCS:=And.intro (hCS.1.st t1 hCS.2 (by simp)) (nLT hCS.2 (Same.size t1));replace hbz:=nLT hbz (Same.size t1);refine zn5 ?_;refine wl (x5 (v:= .pointer (some _)) rfl) (wl (ZQ rfl) (NY ?_));replace hbp:=hbp.tr0 t1;replace hpa:=hpa.tr0 t1;replace hta:=hta.tr0 t1;replace hla:=hla.tr0 t1;refine qJ [6,7,8,9,10,19,20,21,22,23,24,25,26,27,28,29,30,31,32,33,34,35,36,37,38,39,40,41,42,43,44,45,46,47,48,49,50,51,52,53,54,55,56,57,58,59,60,61,62,63,64,65,66,67,68,69,70,71,72,73,74,75,76,77,78,79,80] (fun m g w'=>∃ (k:Nat) (PA TA LA:Option Addr) (cp ct cl:Nat) (V:Nat→Value),k≤gr.length∧m=gr.length - k∧g 19= .int .i64 k∧Blk w' b3 30 #[.slice G gr.length cg]∧Blk w' bp 125 #[c0,c1,.slice PA (n + k) cp,.slice TA (n + k) ct,.slice LA (n + k) cl]∧Own w' ob 3 1 PA (n + k) cp (vj (n + k) (vN (B9 n P)))∧Own w' ob 3 1 TA (n + k) ct (vj (n + k) (vI (Pk n T gr)))∧Own w' ob 91 1 LA (n + k) cl (vj (n + k) V)∧(∀ x,x < (n + k)→RowO w' ob w'.heap.size (V x) (R8 n L gr x))∧(∀ g ∈ aL PA,¬g ∈ aL TA)∧(Chg ob [bp] w w'∧ob≤w'.heap.size)) (gr.length) ?_ (fun m g3 w2 hI=>?_)
 ·exact⟨0,PA,TA,LA,cp,ct,cl,V,Nat.zero_le _,rfl,rfl,hb3,hbp,hpa,hta,hla,fun x hx=>(hrw x hx).up hbz,hdis,hCS⟩
 obtain⟨k,PA,TA,LA,cp,ct,cl,V,hkk,hm,h19,hb3,hbp,hpa,hta,hla,hrw,hdis,hCS⟩:=hI;obtain⟨bs,hbse⟩:∃ b,b=w2.heap.size:=⟨_,rfl⟩
 rw [← hbse] at hrw;have hbz:bs≤w2.heap.size:=Nat.le_of_eq hbse;have hup:=fun g hg=>(hpa.lt g hg).2
 have hut:=fun g hg=>(hta.lt g hg).2
 have hul:=fun g hg=>(hla.lt g hg).2
 have hu3:=hb3.lt;have hubp:=hbp.lt;rw [← hbse] at hup hut hul hu3 hubp;have or_hpa_b3:=o8 hpa hb3 dE;have or_hta_b3:=o8 hta hb3 dE;have or_hla_b3:=o8 hla hb3 dE;refine zQ 19 _ h19 nu (zn6 ?_);refine zJ rfl (fun c20=>?_) (fun c20=>?_)
 ·have hlt:k < gr.length:=by omega
  obtain⟨nb,no,LA0,lc,rfl,hnb,hnr,hln⟩:=(hG _ hCS.1).at_ (Below.refl _ _:Bel w2 w2) hlt;have hmx:=hln.1;unfold vz at hmx;have hfw:=hk.few k hlt;obtain⟨wN,hwN⟩:∃ x,x=w2:=⟨_,rfl⟩
  have hBn:Bel wN w2:=by rw [hwN];exact Below.refl _ _
  rw [← hwN] at hnb hnr hln;refine zn7 ?_;refine wl (yJ (i:=k) U28 oQ rfl rfl hlt rfl) (wl (qW U93 rfl rfl (hBn.range hnb hnr) oQ) ?_);refine qw (cs:=#[.int .i64 0,.slice none 0 0]) VK rfl (fun b7 w3 hb7 t2 hr=>?_);have:=nLL hbp.lt hr;have or_hpa_b7:=(fun(g:Nat) hg=>nLL (hpa.lt g hg).2 hr)
  have or_hta_b7:=(fun(g:Nat) hg=>nLL (hta.lt g hg).2 hr)
  have or_hla_b7:=(fun(g:Nat) hg=>nLL (hla.lt g hg).2 hr)
  have or_hCS_b7:=(nLT hCS.2 hr)
  have:=nLL hb3.lt hr;have or_hbz_b7:=(nLT hbz hr)
  have lo7:=nLT (Bel.size hBn) hr;have lo_hBn_b7:=nLT (Bel.size hBn) hr;replace hrw:=fun x hx=>(hrw x hx).tr t2 (by simp)
  replace hCS:=And.intro (hCS.1.st t2 hCS.2 (by simp)) (nLT hCS.2 (Same.size t2));replace hbz:=nLT hbz (Same.size t2);refine waI rfl ?_;refine zk hb7 rfl rfl oQ rfl zK (fun w4 hq t3=>?_);replace hpa:=hpa.tr0 t2;replace hpa:=hpa.tr1 t3 (fun g hg=>by have:=(hpa.lt g hg).1;(try have:=or_hpa_b7 g hg);omega);replace hta:=hta.tr0 t2;replace hta:=hta.tr1 t3 (fun g hg=>by have:=(hta.lt g hg).1;(try have:=or_hta_b7 g hg);omega);replace hla:=hla.tr0 t2;replace hla:=hla.tr1 t3 (fun g hg=>by have:=(hla.lt g hg).1;(try have:=or_hla_b7 g hg);omega);replace hrw:=fun x hx=>(hrw x hx).tr t3 (fun g hg=>by rw [List.mem_singleton.1 hg];first | exact .inr ⟨_,_,hb7,by decide⟩ | exact .inl om)
  replace hCS:=And.intro (hCS.1.st t3 hCS.2 (fun g hg=>by have h1:=List.mem_singleton.1 hg;first | (left;rw [h1];simp;done) | (right;omega))) (nLT hCS.2 (Same.size t3));replace hbz:=nLT hbz (Same.size t3);replace hb7:=hq;refine zn7 ?_;refine wl_mk (m:=(gr[k]'hlt).ln.length) U91 Xk rfl rfl om om (fun b27 w5 hb27 t4 hr=>?_);replace hbp:=(hbp.tr0 t2).tr1 t3 om;have:=nLL hbp.lt hr;have or_hpa_b27:=(fun(g:Nat) hg=>nLL (hpa.lt g hg).2 hr)
  have or_hta_b27:=(fun(g:Nat) hg=>nLL (hta.lt g hg).2 hr)
  have or_hla_b27:=(fun(g:Nat) hg=>nLL (hla.lt g hg).2 hr)
  have or_hCS_b27:=(nLT hCS.2 hr)
  replace hb3:=(hb3.tr0 t2).tr1 t3 om;have:=nLL hb3.lt hr;have or_hbz_b27:=(nLT hbz hr)
  have:=nLL hb7.lt hr;replace hBn:=(hBn.tr0 t2).tr1 t3 lo_hBn_b7;have lo27:=nLT (Bel.size hBn) hr;have lo_hBn_b27:=nLT (Bel.size hBn) hr;replace hrw:=fun x hx=>(hrw x hx).tr t4 (by simp)
  replace hCS:=And.intro (hCS.1.st t4 hCS.2 (by simp)) (nLT hCS.2 (Same.size t4));replace hbz:=nLT hbz (Same.size t4);refine zn5 ?_;replace hbp:=hbp.tr0 t4;replace hpa:=hpa.tr0 t4;replace hta:=hta.tr0 t4;replace hla:=hla.tr0 t4;replace hb3:=hb3.tr0 t4;replace hBn:=hBn.tr0 t4;replace hb7:=hb7.tr0 t4;replace hb27:Blk w5 b27 95 (jJ (gr[k]'hlt).ln.length (fun _=> .int .i64 0) (fun _=> .int .i64 0)):=by
    have h:=hb27;rw [show (Value.agg #[.int .i64 0,.int .i64 0]).cells= #[.int .i64 0,.int .i64 0] from rfl,D4] at h;exact h
  refine zn8 ?_;refine qJ [9,10,31,32,33,34,35,36,37,38,39,40,41,42,43,44,45,46] (fun m g w'=>∃ j:Nat,j≤(gr[k]'hlt).ln.length∧m=(gr[k]'hlt).ln.length - j∧g 31= .int .i64 j∧Blk w' b3 30 #[.slice (some ⟨nb,no,none⟩) gr.length cg]∧Blk w' bp 125 #[c0,c1,.slice PA (n + k) cp,.slice TA (n + k) ct,.slice LA (n + k) cl]∧Own w' ob 3 1 PA (n + k) cp (vj (n + k) (vN (B9 n P)))∧Own w' ob 3 1 TA (n + k) ct (vj (n + k) (vI (Pk n T gr)))∧Own w' ob 91 1 LA (n + k) cl (vj (n + k) V)∧(∀ x,x < (n + k)→RowO w' ob bs (V x) (R8 n L gr x))∧bs≤w'.heap.size∧Bel wN w'∧Blk w' b7 93 #[.int .i64 (gr[k]'hlt).ty,.slice LA0 (gr[k]'hlt).ln.length lc]∧Blk w' b27 95 (jJ (gr[k]'hlt).ln.length (fun x=>if x < j then .int .i64 (((gr[k]'hlt)).ln.getD x (0,0)).1 else .int .i64 0) (fun x=>if x < j then .int .i64 ((((gr[k]'hlt)).ln.getD x (0,0)).2 + (n:Int)) else .int .i64 0))∧(Chg ob [bp] w w'∧ob≤w'.heap.size)) ((gr[k]'hlt).ln.length) ?_ (fun m g7 w6 hI=>?_)
  ·refine⟨0,Nat.zero_le _,rfl,rfl,hb3,hbp,hpa,hta,hla,hrw,hbz,hBn,hb7,?_,hCS⟩;rw [Z3 (f':=fun _=> .int .i64 0) (h':=fun _=> .int .i64 0) (fun x _=>by simp) (fun x _=>by simp)];exact hb27
  obtain⟨j,hj,hmj,h31,hb3,hbp,hpa,hta,hla,hrw,hbz,hBn,hb7,hb27,hCS⟩:=hI;refine zQ 31 _ h31 nu (zn6 ?_);refine zJ rfl (fun c32=>?_) (fun c32=>?_)
  ·have hjl:j < (gr[k]'hlt).ln.length:=by omega
   obtain⟨lb,lof,rfl,hlb,hlr⟩:=hln.at_ hBn hjl;have hxr:=hk.ln k hlt _ (List.getElem_mem hjl);refine zn8 ?_;refine wl (qW U95 rfl rfl hlr qX) ?_;refine qw (cs:=#[.int .i64 0,.int .i64 0]) Z2 rfl (fun b10 w7 hb10 t5 hr=>?_);have:=nLL hbp.lt hr;have or_hpa_b10:=(fun(g:Nat) hg=>nLL (hpa.lt g hg).2 hr)
   have or_hta_b10:=(fun(g:Nat) hg=>nLL (hta.lt g hg).2 hr)
   have or_hla_b10:=(fun(g:Nat) hg=>nLL (hla.lt g hg).2 hr)
   have or_hCS_b10:=(nLT hCS.2 hr)
   have:=nLL hb3.lt hr;have or_hbz_b10:=(nLT hbz hr)
   have:=nLL hb7.lt hr;have:=nLL hb27.lt hr;have lo10:=nLT (Bel.size hBn) hr;have lo_hBn_b10:=nLT (Bel.size hBn) hr;replace hrw:=fun x hx=>(hrw x hx).tr t5 (by simp)
   replace hCS:=And.intro (hCS.1.st t5 hCS.2 (by simp)) (nLT hCS.2 (Same.size t5));replace hbz:=nLT hbz (Same.size t5);refine waI rfl ?_;refine zk hb10 rfl rfl qX rfl zK (fun w8 hq t6=>?_);replace hpa:=hpa.tr0 t5;replace hpa:=hpa.tr1 t6 (fun g hg=>by have:=(hpa.lt g hg).1;(try have:=or_hpa_b10 g hg);omega);replace hta:=hta.tr0 t5;replace hta:=hta.tr1 t6 (fun g hg=>by have:=(hta.lt g hg).1;(try have:=or_hta_b10 g hg);omega);replace hla:=hla.tr0 t5;replace hla:=hla.tr1 t6 (fun g hg=>by have:=(hla.lt g hg).1;(try have:=or_hla_b10 g hg);omega);replace hrw:=fun x hx=>(hrw x hx).tr t6 (fun g hg=>by rw [List.mem_singleton.1 hg];first | exact .inr ⟨_,_,hb10,by decide⟩ | exact .inl om)
   replace hCS:=And.intro (hCS.1.st t6 hCS.2 (fun g hg=>by have h1:=List.mem_singleton.1 hg;first | (left;rw [h1];simp;done) | (right;omega))) (nLT hCS.2 (Same.size t6));replace hbz:=nLT hbz (Same.size t6);replace hb10:=hq;refine jy ?_;refine wl (Q5 (c:=(((gr[k]'hlt).ln[j]'hjl).2 + (n:Int))) rfl rfl om om) (wl (Z9 (v0:= .int _ _) (v1:= .int _ _) (fun v0 v1=>#[v0,v1]) rfl rfl kR) (wl (yJ (i:=j) U91 qX rfl rfl hjl rfl) ?_));replace hb27:=(hb27.tr0 t5).tr1 t6 om;refine Rj hb27 rfl rfl qX (by rw [X7];show 0 + j * 2 + 2≤_;omega) zK SJ (fun w9 hq t7=>?_);replace hpa:=hpa.tr1 t7 (fun g hg=>by have:=(hpa.lt g hg).1;(try have:=or_hpa_b27 g hg);omega);replace hta:=hta.tr1 t7 (fun g hg=>by have:=(hta.lt g hg).1;(try have:=or_hta_b27 g hg);omega);replace hla:=hla.tr1 t7 (fun g hg=>by have:=(hla.lt g hg).1;(try have:=or_hla_b27 g hg);omega);replace hrw:=fun x hx=>(hrw x hx).tr t7 (fun g hg=>by rw [List.mem_singleton.1 hg];first | exact .inr ⟨_,_,hb27,by decide⟩ | exact .inl om)
   replace hCS:=And.intro (hCS.1.st t7 hCS.2 (fun g hg=>by have h1:=List.mem_singleton.1 hg;first | (left;rw [h1];simp;done) | (right;omega))) (nLT hCS.2 (Same.size t7));replace hbz:=nLT hbz (Same.size t7);replace hb27:=hq
   rw [Z3 (f':=fun x=>if x < j + 1 then .int .i64 (((gr[k]'hlt)).ln.getD x (0,0)).1 else .int .i64 0) (h':=fun x=>if x < j + 1 then .int .i64 ((((gr[k]'hlt)).ln.getD x (0,0)).2 + (n:Int)) else .int .i64 0) (fun x _=>by
     by_cases e:x=j
     · subst e;simp [List.getD,hjl]
     · have e1:(x < j + 1) ↔ (x < j):=by omega
       simp [e,e1]) (fun x _=>by
     by_cases e:x=j
     · subst e;simp [List.getD,hjl]
     · have e1:(x < j + 1) ↔ (x < j):=by omega
       simp [e,e1])] at hb27
   refine zn7 ?_;refine yq ((gr[k]'hlt).ln.length - (j + 1)) om agA ?_;replace hbp:=((hbp.tr0 t5).tr1 t6 om).tr1 t7 om;replace hb3:=((hb3.tr0 t5).tr1 t6 om).tr1 t7 om;replace hBn:=((hBn.tr0 t5).tr1 t6 lo_hBn_b10).tr1 t7 lo_hBn_b27;replace hb7:=((hb7.tr0 t5).tr1 t6 om).tr1 t7 om;exact⟨j + 1,by omega,rfl,rfl,hb3,hbp,hpa,hta,hla,hrw,hbz,hBn,hb7,hb27,hCS⟩
  have hjx:j=(gr[k]'hlt).ln.length:=by omega
  subst hjx;refine zn6 ?_
  have hrow:=RowO.of (lo:=ob) (xs:=shL n (gr[k]'hlt).ln) (cap:=(gr[k]'hlt).ln.length) (base:=ob) (Nat.le_refl _) (A:=some ⟨b27,0,none⟩) (w:=w6) (by
    have hl:(shL n (gr[k]'hlt).ln).length=(gr[k]'hlt).ln.length:=by simp [shL]
    rw [hl];have h:=CZ (base:=ob) (sz:=2) (m:=(gr[k]'hlt).ln.length) hb27 om (by rw [X7]) om
    rw [row2_lnV hl (fun x hx=>by
      have hx2:x < (gr[k]'hlt).ln.length:=by omega
      simp [shL,List.getD,hx2]) (fun x hx=>by
      have hx2:x < (gr[k]'hlt).ln.length:=by omega
      simp [shL,List.getD,hx2])] at h
    exact h)
  rw [show (shL n (gr[k]'hlt).ln).length=(gr[k]'hlt).ln.length by simp [shL]] at hrow;obtain⟨s9,hs9⟩:∃ b,b=w6.heap.size:=⟨_,rfl⟩
  rw [← hs9] at hrow;have hz9:s9≤w6.heap.size:=Nat.le_of_eq hs9;refine Zq (wl (x5 (v:= .pointer (some _)) rfl) (wl (x5 (v:= .pointer (some _)) rfl) (wl (ZQ rfl) (zn4 ?_))));refine wl (Q5 (c:=((n + k:Nat):Int)) rfl rfl om om) ?_;refine qZ (cs:=#[_]) [(0,.int _ _)] rfl U70 xq PX dE dE kR rfl (fun b55 w10 hb55 t8 hr=>?_);have:=nLL hbp.lt hr;have or_hpa_b55:=(fun(g:Nat) hg=>nLL (hpa.lt g hg).2 hr)
  have or_hta_b55:=(fun(g:Nat) hg=>nLL (hta.lt g hg).2 hr)
  have or_hla_b55:=(fun(g:Nat) hg=>nLL (hla.lt g hg).2 hr)
  have or_hCS_b55:=(nLT hCS.2 hr)
  have:=nLL hb3.lt hr;have or_hbz_b55:=(nLT hbz hr)
  have:=nLL hb7.lt hr;have or_hz9_b55:=(nLT hz9 hr)
  replace hrw:=fun x hx=>(hrw x hx).tr t8 (by simp)
  replace hCS:=And.intro (hCS.1.st t8 hCS.2 (by simp)) (nLT hCS.2 (Same.size t8));replace hbz:=nLT hbz (Same.size t8);replace hrow:=hrow.tr t8 (by simp);replace hz9:=nLT hz9 (Same.size t8);replace hta:=hta.tr0 t8;have hzz:=fun g hg=>(hta.lt g hg).2
  replace hpa:=hpa.tr0 t8;refine j9 U70 Dq rfl dE hpa hb55 rfl rfl rfl zK dE om om hCS.2 (fun g56 cap56 w11 ho56 t9 hg=>?_);replace hbp:=hbp.tr0 t8;replace hb3:=hb3.tr0 t8;replace hb7:=hb7.tr0 t8;have ne_ho56_bp:g56≠bp:=fun e=>by
   have hl:=hbp.lt;rcases hg with hg | hg
   · have h1:=hpa.lt g56 (by rw [hg];exact List.mem_singleton.2 rfl)
     (try have:=or_hpa_bp g56 (by rw [hg];exact List.mem_singleton.2 rfl));omega
   · omega
  have ne_ho56_b3:g56≠b3:=fun e=>by
   have hl:=hb3.lt;rcases hg with hg | hg
   · have h1:=hpa.lt g56 (by rw [hg];exact List.mem_singleton.2 rfl)
     (try have:=or_hpa_b3 g56 (by rw [hg];exact List.mem_singleton.2 rfl));omega
   · omega
  have ne_ho56_b7:g56≠b7:=fun e=>by
   have hl:=hb7.lt;rcases hg with hg | hg
   · have h1:=hpa.lt g56 (by rw [hg];exact List.mem_singleton.2 rfl)
     (try have:=or_hpa_b7 g56 (by rw [hg];exact List.mem_singleton.2 rfl));omega
   · omega
  replace hbp:=hbp.tr t9 (fun hx=>by have:=(hpa.lt _ hx).1;(try have:=or_hpa_bp _ hx);omega);replace hta:=hta.tr t9 (fun g hg hx=>by first | exact x9 hta hpa dE g hg hx | exact hdis g hg hx | exact hdis g hx hg | (have h1:=(hpa.lt g hx).1;(try have:=hzz g hg);omega));replace hla:=hla.tr0 t8;replace hla:=hla.tr t9 (fun g hg hx=>by first | exact x9 hla hpa dE g hg hx | exact hdis g hg hx | exact hdis g hx hg | (have h1:=(hpa.lt g hx).1;(try have:=hzz g hg);omega));replace hrw:=fun x hx=>(hrw x hx).tr t9 (fun g hg=>by first | exact .inl (by have:=((hpa).lt g hg).1;omega) | (obtain⟨cs,h⟩:=(hpa).typ g hg;exact .inr ⟨_,_,h,by decide⟩))
  replace hCS:=And.intro (hCS.1.st t9 hCS.2 (fun g hg=> .inr (by have:=((hpa).lt g hg).1;omega))) (nLT hCS.2 (Same.size t9));replace hb3:=hb3.tr t9 (fun hx=>by have:=(hpa.lt _ hx).1;(try have:=or_hpa_b3 _ hx);omega);replace hbz:=nLT hbz (Same.size t9);replace hb7:=hb7.tr t9 (fun hx=>by have:=(hpa.lt _ hx).1;(try have:=or_hpa_b7 _ hx);omega);replace hrow:=hrow.tr t9 (fun g hg=>by first | exact .inl (by have:=((hpa).lt g hg).1;omega) | (obtain⟨cs,h⟩:=(hpa).typ g hg;exact .inr ⟨_,_,h,by decide⟩));replace hz9:=nLT hz9 (Same.size t9);have hdis:∀ g ∈ aL (some ⟨g56,0,none⟩),¬g ∈ aL TA:=fun g hg' h=>by
    simp only [aL,List.mem_singleton] at hg';subst hg';rcases hg with hg | hg
    · exact hdis _ (by rw [hg];exact List.mem_singleton.2 rfl) h
    · have:=hzz _ h;omega
  replace ho56:Own w11 ob 3 1 (some ⟨g56,0,none⟩) (n + k + 1) cap56 (vj (n + k + 1) (vN (B9 n P))):=by rw [SX addP_new] at ho56;exact ho56
  have hpa:=ho56;refine wl (ZQ rfl) (zn1 ?_);refine xZ (v:= .slice _ _ _) hbp rfl rfl XQ (by first | decide | simp) rfl rfl (fun w12 hq t10=>?_);replace hta:=hta.tr1 t10 (fun g hg=>by have:=(hta.lt g hg).1;(try have:=or_hta_bp g hg);omega);replace hla:=hla.tr1 t10 (fun g hg=>by have:=(hla.lt g hg).1;(try have:=or_hla_bp g hg);omega);replace hrw:=fun x hx=>(hrw x hx).tr t10 (fun g hg=>by rw [List.mem_singleton.1 hg];first | exact .inr ⟨_,_,hbp,by decide⟩ | exact .inl om)
  replace hCS:=And.intro (hCS.1.st t10 hCS.2 (fun g hg=>by have h1:=List.mem_singleton.1 hg;first | (left;rw [h1];simp;done) | (right;omega))) (nLT hCS.2 (Same.size t10));replace hbz:=nLT hbz (Same.size t10);replace hrow:=hrow.tr t10 (fun g hg=>by rw [List.mem_singleton.1 hg];first | exact .inr ⟨_,_,hbp,by decide⟩ | exact .inl om);replace hz9:=nLT hz9 (Same.size t10);replace hpa:=hpa.tr1 t10 (fun g hg=>by have:=(hpa.lt g hg).1;(try have:=or_hpa_bp g hg);omega);replace hbp:=hq;refine zn3 ?_;have zo:=fun g hg=>(hta.lt g hg).2
  replace hb7:=hb7.tr1 t10 om;refine Qq 11 [59,60,61,62,63,64,65,66,67,68,69] (aL TA) 8 (fun ix v wv=>match ix with | 0=>v= .pointer (some ⟨bp,0,none⟩) | 1=>v= .pointer (some ⟨bp,0,none⟩) | 2=>v= .pointer (some ⟨bp,0,none⟩) | 3=>v= .pointer (some ⟨bp,3,none⟩) | 4=>v= .slice TA (n + k) ct | 5=>v= .pointer (some ⟨b7,0,none⟩) | 6=>v= .int .i64 (gr[k]'hlt).ty | 7=>∃ b,v= .slice (some ⟨b,0,none⟩) 1 1∧w12.heap.size≤b∧Blk wv b 3 #[.int .i64 (gr[k]'hlt).ty] | 8=>∃ g cap,v= .slice (some ⟨g,0,none⟩) (n + k + 1) cap∧Own wv ob 3 1 (some ⟨g,0,none⟩) (n + k + 1) cap (vj (n + k) (vI (Pk n T gr)) ++ [.int .i64 (gr[k]'hlt).ty])∧(∀ g2 ∈ aL (some (⟨g56,0,none⟩:Addr)),¬g2 ∈ aL (some (⟨g,0,none⟩:Addr))) | 9=>v= .pointer (some ⟨bp,0,none⟩) | 10=>v= .pointer (some ⟨bp,3,none⟩) | _=>True) (fun _=>True) kR kR ?_ (fun _ _ _ _=>trivial) ?_ ?_ dE ?_
  ·intro ix v wv wv2 h t11
   match ix,h with
   | 0,h=>exact h
   | 1,h=>exact h
   | 2,h=>exact h
   | 3,h=>exact h
   | 4,h=>exact h
   | 5,h=>exact h
   | 6,h=>exact h
   | 7,h=>
    obtain⟨b66,e66,lo66,hb66⟩:=h;exact⟨b66,e66,lo66,hb66.tr0 t11⟩
   | 8,h=>
    obtain⟨g67,cap67,e67,ho67,hd67⟩:=h;exact⟨g67,cap67,e67,ho67.tr0 t11,hd67⟩
   | 9,h=>exact h
   | 10,h=>exact h
   | _ + 11,h=>exact trivial
  ·intro ix o hix hne hoq gg wx t12 hd
   match ix,hix,hne,hoq with
   | 0,_,_,hoq=>
    cases sI hoq;refine qQ (x5 (v:= .pointer (some _)) rfl) ⟨Same.refl _ _,?_⟩;exact rfl
   | 1,_,_,hoq=>
    cases sI hoq;refine qQ (x5 (v:= .pointer (some _)) rfl) ⟨Same.refl _ _,?_⟩;exact rfl
   | 2,_,_,hoq=>
    cases sI hoq;refine zq 60 _ (hd 1 (zj kR)) nu ?_;refine qQ (ZQ rfl) ⟨Same.refl _ _,?_⟩;exact rfl
   | 3,_,_,hoq=>
    cases sI hoq;refine zq 61 _ (hd 2 (zj kR)) nu ?_;refine qQ (o7 Bq XQ dE rfl rfl rfl) ⟨Same.refl _ _,?_⟩;exact rfl
   | 4,_,_,hoq=>
    cases sI hoq;replace hbp:=hbp.tr t12 (fun hx=>by have:=(hta.lt _ hx).1;(try have:=or_hta_bp _ hx);omega);refine zq 62 _ (hd 3 (zj kR)) nu ?_;refine qQ (qK (v:= .slice _ _ _) U70 rfl rfl (hbp.cell rfl)) ⟨Same.refl _ _,?_⟩;exact rfl
   | 5,_,_,hoq=>
    cases sI hoq;refine qQ (o7 U93 xq dE rfl rfl rfl) ⟨Same.refl _ _,?_⟩;exact rfl
   | 6,_,_,hoq=>
    cases sI hoq;replace hb7:=hb7.tr t12 (fun hx=>by have:=(hta.lt _ hx).1;(try have:=or_hta_b7 _ hx);omega);refine zq 64 _ (hd 5 (zj kR)) nu ?_;refine qQ (qK (v:= .int _ _) U3 rfl rfl (hb7.cell rfl)) ⟨Same.refl _ _,?_⟩;exact rfl
   | 7,_,_,hoq=>
    cases sI hoq;have hs0:=t12;refine zq 65 _ (hd 6 (zj kR)) nu ?_;refine vK (fun ops Q K=>?_);refine qZ (cs:=#[_]) [(0,.int _ _)] rfl U70 xq PX dE dE kR rfl (fun b66 w13 hb66 t13 hr=>?_);exact K _ _ ⟨t13,⟨_,rfl,nLT hs0.size hr,hb66⟩⟩
   | 8,_,hne,_=>exact absurd rfl hne
   | 9,_,_,hoq=>
    cases sI hoq;refine zq 59 _ (hd 0 (zj kR)) nu ?_;refine qQ (ZQ rfl) ⟨Same.refl _ _,?_⟩;exact rfl
   | 10,_,_,hoq=>
    cases sI hoq;refine zq 68 _ (hd 9 (zj kR)) nu ?_;refine qQ (o7 Bq XQ dE rfl rfl rfl) ⟨Same.refl _ _,?_⟩;exact rfl
   | _ + 11,hix,_,_=>exact absurd hix om
  ·intro o hoq gg wx t14 hd;cases sI hoq;replace hrw:=fun x hx=>(hrw x hx).tr t14 (by simp)
   replace hCS:=And.intro (hCS.1.st t14 hCS.2 (by simp)) (nLT hCS.2 (Same.size t14));replace hbz:=nLT hbz (Same.size t14);replace hz9:=nLT hz9 (Same.size t14);obtain⟨b66,e66,lo66,hb66⟩:=hd 7 (zj kR);refine zq 63 _ (hd 4 (zj kR)) nu (zq 66 _ e66 nu ?_);refine vK (fun ops Q K=>?_);replace hta:=hta.tr0 t14;refine j9 U70 Dq rfl dE hta hb66 rfl rfl rfl zK dE om om hCS.2 (fun g67 cap67 w2 ho67 hs2 hg67=>?_);replace hpa:=hpa.tr0 t14
   refine K _ _ ⟨hs2,⟨_,_,rfl,ho67,fun g2 h2 h3=>by
       simp only [aL,List.mem_singleton] at h3;subst h3;rcases hg67 with hg | hg
       · exact hdis _ h2 (by rw [hg];exact List.mem_singleton.2 rfl)
       · have:=(hpa.lt _ h2).2;omega⟩,trivial,fun kx v hne h=>?_⟩
   match kx,hne,h with
   | 0,_,h=>exact h
   | 1,_,h=>exact h
   | 2,_,h=>exact h
   | 3,_,h=>exact h
   | 4,_,h=>exact h
   | 5,_,h=>exact h
   | 6,_,h=>exact h
   | 7,_,h=>
    obtain⟨b66,e66,lo66,hb66⟩:=h;exact⟨b66,e66,lo66,hb66.tr hs2 (fun hx=>by have:=zo _ hx;omega)⟩
   | 8,hne,_=>exact absurd rfl hne
   | 9,_,h=>exact h
   | 10,_,h=>exact h
   | _ + 11,_,_=>exact trivial
  intro gg w14 t15 _ hR;replace hbp:=hbp.tr t15 (fun hx=>by have:=(hta.lt _ hx).1;(try have:=or_hta_bp _ hx);omega);replace hla:=hla.tr t15 (fun g hg hx=>by first | exact x9 hla hta dE g hg hx | exact hdis g hg hx | exact hdis g hx hg | (have h1:=(hta.lt g hx).1;(try have:=hzz g hg);omega));replace hrw:=fun x hx=>(hrw x hx).tr t15 (fun g hg=>by first | exact .inl (by have:=((hta).lt g hg).1;omega) | (obtain⟨cs,h⟩:=(hta).typ g hg;exact .inr ⟨_,_,h,by decide⟩))
  replace hCS:=And.intro (hCS.1.st t15 hCS.2 (fun g hg=> .inr (by have:=((hta).lt g hg).1;omega))) (nLT hCS.2 (Same.size t15));replace hb3:=hb3.tr1 t10 om;replace hb3:=hb3.tr t15 (fun hx=>by have:=(hta.lt _ hx).1;(try have:=or_hta_b3 _ hx);omega);replace hbz:=nLT hbz (Same.size t15);replace hb7:=hb7.tr t15 (fun hx=>by have:=(hta.lt _ hx).1;(try have:=or_hta_b7 _ hx);omega);replace hrow:=hrow.tr t15 (fun g hg=>by first | exact .inl (by have:=((hta).lt g hg).1;omega) | (obtain⟨cs,h⟩:=(hta).typ g hg;exact .inr ⟨_,_,h,by decide⟩));replace hz9:=nLT hz9 (Same.size t15);replace hpa:=hpa.tr t15 (fun g hg hx=>by first | exact x9 hpa hta dE g hg hx | exact hdis g hg hx | exact hdis g hx hg | (have h1:=(hta.lt g hx).1;(try have:=hzz g hg);omega));obtain⟨g67,cap67,e67,ho67,hd67⟩:=hR 8 dE;replace ho67:Own w14 ob 3 1 (some ⟨g67,0,none⟩) (n + k + 1) cap67 (vj (n + k + 1) (vI (Pk n T gr))):=by rw [SX (addT_new hlt)] at ho67;exact ho67
  have hta:=ho67;replace hdis:=hd67;refine qY 67 _ e67 nu (qY 69 _ (hR 10 dE) nu ?_);refine xZ (v:= .slice _ _ _) hbp rfl rfl XQ (by first | decide | simp) rfl rfl (fun w15 hq t16=>?_);replace hla:=hla.tr1 t16 (fun g hg=>by have:=(hla.lt g hg).1;(try have:=or_hla_bp g hg);omega);replace hrw:=fun x hx=>(hrw x hx).tr t16 (fun g hg=>by rw [List.mem_singleton.1 hg];first | exact .inr ⟨_,_,hbp,by decide⟩ | exact .inl om)
  replace hCS:=And.intro (hCS.1.st t16 hCS.2 (fun g hg=>by have h1:=List.mem_singleton.1 hg;first | (left;rw [h1];simp;done) | (right;omega))) (nLT hCS.2 (Same.size t16));replace hbz:=nLT hbz (Same.size t16);replace hrow:=hrow.tr t16 (fun g hg=>by rw [List.mem_singleton.1 hg];first | exact .inr ⟨_,_,hbp,by decide⟩ | exact .inl om);replace hz9:=nLT hz9 (Same.size t16);replace hpa:=hpa.tr1 t16 (fun g hg=>by have:=(hpa.lt g hg).1;(try have:=or_hpa_bp g hg);omega);replace hta:=hta.tr1 t16 (fun g hg=>by have:=(hta.lt g hg).1;(try have:=or_hta_bp g hg);omega);replace hbp:=hq;refine zn3 ?_;refine wl (x5 (v:= .pointer (some _)) rfl) (wl (x5 (v:= .pointer (some _)) rfl) (wl (ZQ rfl) (zn3 ?_)));refine qZ (cs:=#[_]) [(0,.slice _ _ _)] rfl Pw uv ze91 dE dE kR rfl (fun b76 w16 hb76 t17 hr=>?_);have:=nLL hbp.lt hr;have or_hla_b76:=(fun(g:Nat) hg=>nLL (hla.lt g hg).2 hr)
  have or_hCS_b76:=(nLT hCS.2 hr)
  replace hb3:=hb3.tr1 t16 om;have:=nLL hb3.lt hr;have or_hbz_b76:=(nLT hbz hr)
  replace hb7:=hb7.tr1 t16 om;have:=nLL hb7.lt hr;have or_hz9_b76:=(nLT hz9 hr)
  have or_hpa_b76:=(fun(g:Nat) hg=>nLL (hpa.lt g hg).2 hr)
  have or_hta_b76:=(fun(g:Nat) hg=>nLL (hta.lt g hg).2 hr)
  replace hrw:=fun x hx=>(hrw x hx).tr t17 (by simp)
  replace hCS:=And.intro (hCS.1.st t17 hCS.2 (by simp)) (nLT hCS.2 (Same.size t17));replace hbz:=nLT hbz (Same.size t17);replace hrow:=hrow.tr t17 (by simp);replace hz9:=nLT hz9 (Same.size t17);replace hla:=hla.tr0 t17;refine j9 Pw in91 rfl dE hla hb76 rfl rfl rfl zK dE om om hCS.2 (fun g77 cap77 w17 ho77 t18 hg=>?_);replace hbp:=hbp.tr0 t17;replace hb3:=hb3.tr0 t17;have ne_ho77_bp:g77≠bp:=fun e=>by
   have hl:=hbp.lt;rcases hg with hg | hg
   · have h1:=hla.lt g77 (by rw [hg];exact List.mem_singleton.2 rfl)
     (try have:=or_hla_bp g77 (by rw [hg];exact List.mem_singleton.2 rfl));omega
   · omega
  have ne_ho77_b3:g77≠b3:=fun e=>by
   have hl:=hb3.lt;rcases hg with hg | hg
   · have h1:=hla.lt g77 (by rw [hg];exact List.mem_singleton.2 rfl)
     (try have:=or_hla_b3 g77 (by rw [hg];exact List.mem_singleton.2 rfl));omega
   · omega
  have ne_ho77_b7:g77≠b7:=fun e=>by
   replace hb7:=hb7.tr0 t17;have hl:=hb7.lt;rcases hg with hg | hg
   · have h1:=hla.lt g77 (by rw [hg];exact List.mem_singleton.2 rfl)
     (try have:=or_hla_b7 g77 (by rw [hg];exact List.mem_singleton.2 rfl));omega
   · omega
  replace hbp:=hbp.tr t18 (fun hx=>by have:=(hla.lt _ hx).1;(try have:=or_hla_bp _ hx);omega);replace hrw:=fun x hx=>(hrw x hx).tr t18 (fun g hg=>by first | exact .inl (by have:=((hla).lt g hg).1;omega) | (obtain⟨cs,h⟩:=(hla).typ g hg;exact .inr ⟨_,_,h,by decide⟩))
  replace hCS:=And.intro (hCS.1.st t18 hCS.2 (fun g hg=> .inr (by have:=((hla).lt g hg).1;omega))) (nLT hCS.2 (Same.size t18));replace hb3:=hb3.tr t18 (fun hx=>by have:=(hla.lt _ hx).1;(try have:=or_hla_b3 _ hx);omega);replace hbz:=nLT hbz (Same.size t18);replace hrow:=hrow.tr t18 (fun g hg=>by first | exact .inl (by have:=((hla).lt g hg).1;omega) | (obtain⟨cs,h⟩:=(hla).typ g hg;exact .inr ⟨_,_,h,by decide⟩));replace hz9:=nLT hz9 (Same.size t18);replace hpa:=hpa.tr0 t17;replace hpa:=hpa.tr t18 (fun g hg hx=>by first | exact x9 hpa hla dE g hg hx | exact hdis g hg hx | exact hdis g hx hg | (have h1:=(hla.lt g hx).1;(try have:=hzz g hg);omega));replace hta:=hta.tr0 t17;replace hta:=hta.tr t18 (fun g hg hx=>by first | exact x9 hta hla dE g hg hx | exact hdis g hg hx | exact hdis g hx hg | (have h1:=(hla.lt g hx).1;(try have:=hzz g hg);omega));refine wl (ZQ rfl) (zn1 ?_);refine xZ (v:= .slice _ _ _) hbp rfl rfl sz123 (by first | decide | simp) rfl rfl (fun w18 hq t19=>?_);replace hrw:=fun x hx=>(hrw x hx).tr t19 (fun g hg=>by rw [List.mem_singleton.1 hg];first | exact .inr ⟨_,_,hbp,by decide⟩ | exact .inl om)
  replace hCS:=And.intro (hCS.1.st t19 hCS.2 (fun g hg=>by have h1:=List.mem_singleton.1 hg;first | (left;rw [h1];simp;done) | (right;omega))) (nLT hCS.2 (Same.size t19));replace hbz:=nLT hbz (Same.size t19);replace hrow:=hrow.tr t19 (fun g hg=>by rw [List.mem_singleton.1 hg];first | exact .inr ⟨_,_,hbp,by decide⟩ | exact .inl om);replace hz9:=nLT hz9 (Same.size t19);replace hpa:=hpa.tr1 t19 (fun g hg=>by have:=(hpa.lt g hg).1;(try have:=or_hpa_bp g hg);omega);replace hta:=hta.tr1 t19 (fun g hg=>by have:=(hta.lt g hg).1;(try have:=or_hta_bp g hg);omega);replace ho77:=ho77.tr1 t19 (fun g hg=>by have:=(ho77.lt g hg).1;(try have:=or_ho77_bp g hg);(try simp only [aL] at hg);(try simp only [List.mem_singleton] at hg);omega);replace hbp:=hq;refine zn7 ?_;refine yq (gr.length - (k + 1)) om agA ?_;replace hb3:=hb3.tr1 t19 om;refine⟨k + 1,some ⟨g56,0,none⟩,some ⟨g67,0,none⟩,some ⟨g77,0,none⟩,cap56,cap67,cap77,Nx V (n + k) (.slice (some ⟨b27,0,none⟩) (gr[k]'hlt).ln.length (gr[k]'hlt).ln.length),by omega,rfl,rfl,hb3,hbp,hpa,hta,?_,fun x hx=>?_,hdis,hCS⟩
  · rw [rowL_put] at ho77;exact ho77
  · by_cases e:x=n + k
    · subst e
      simp only [Nx,if_true];have e2:R8 n L gr (n + k)=shL n (gr[k]'hlt).ln:=by simp only [R8,if_neg (show ¬n + k < n by omega),show n + k - n=k by omega,yy hlt]
      rw [e2];exact hrow.up hz9
    · simp only [Nx,if_neg e]
      exact(hrw x om).up hbz
 have hke:k=gr.length:=by omega
 refine Zk ?_;refine⟨⟨PA,TA,LA,cp,ct,cl,V,rfl,?_⟩,hCS.1,hCS.2⟩;rw [hke] at hbp hpa hta hla hrw;exact⟨hbp,hpa,hta,hla,fun x hx=>(hrw x hx).up hbz,hdis⟩
end Go.Proofs.YtdgnllfbooklcaaDoor
