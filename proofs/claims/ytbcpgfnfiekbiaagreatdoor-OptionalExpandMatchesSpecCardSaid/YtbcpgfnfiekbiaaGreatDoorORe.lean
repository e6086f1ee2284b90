/- What these functions of the program compute, at every world: glosswright/glosswrightref4.Reduced. -/
import Derived.Test.YtbcpgfnfiekbiaaGreatDoorU
import Derived.Test.YtbcpgfnfiekbiaaGreatDoorTrm
import Derived.Test.YtbcpgfnfiekbiaaGreatDoorERx
namespace Go.Proofs.YtbcpgfnfiekbiaaGreatDoor
open Go.RowKit
structure OrK (l:List Ty) (fs:List Ft) (r:Orl):Prop where
  nm:xj r.rule.name=true
  rf:vy l fs r.rule=0
  few:(r.om.length:Int) < r.rule.kids
  ok:∀ i (h:i < r.om.length),¬YJ r r.om[i]∧¬(r.om[i]).kid≤Q2 r i∧(tmF (r.om[i]).mean).1=0∧KJ r r.om[i]
theorem F8 {l:List Ty} {fs:List Ft} {r:Orl} (h:(Q0 l fs r).1=0):OrK l fs r:=by
  cases hn:xj r.rule.name with
  | false=>rw [BX hn] at h;cases h
  | true=>
    by_cases h1:vy l fs r.rule=0
    · by_cases h2:r.rule.kids≤(r.om.length:Int)
      · rw [BJ hn h1 h2] at h;cases h
      · rw [Z4 hn h1 h2 rfl] at h
        refine⟨hn,h1,by omega,fun i hi=>?_⟩;have h3:=jv h i (Nat.zero_le _) oM;by_cases a:YJ r r.om[i]
        · rw [om3 hi a] at h3;cases h3
        by_cases b:(r.om[i]).kid≤Q2 r i
        · rw [om13 hi a b] at h3;cases h3
        by_cases c:(tmF (r.om[i]).mean).1=0
        · by_cases d:KJ r r.om[i]
          · exact⟨a,b,c,d⟩
          · rw [L8 hi a b c d] at h3;cases h3
        · rw [omT hi a b c] at h3;exact absurd h3 c
    · rw [BQ hn h1] at h;exact absurd h h1
theorem OrK.kid {l:List Ty} {fs:List Ft} {r:Orl} (h:OrK l fs r) {i:Nat} (hi:i < r.om.length):1≤(r.om[i]).kid∧(r.om[i]).kid≤r.rule.kids∧0≤(r.om[i]).wt∧(r.om[i]).wt≤1000000:=by
  have:=(h.ok i hi).1;unfold YJ at this;omega
theorem OrK.kids {l:List Ty} {fs:List Ft} {r:Orl} (h:OrK l fs r):(1≤r.rule.kids∧r.rule.kids≤3)∧0≤r.rule.wt∧r.rule.wt≤1000000:=by
  have h1:=Zw h.rf;refine⟨h1.1,?_⟩;by_cases a:Q9 r.rule
  · have:=h.rf
    rw [IJ a] at this;cases this
  · unfold Q9 at a;omega
theorem OrK.wts {l:List Ty} {fs:List Ft} {r:Orl} (h:OrK l fs r) (ch:Nat→Bool):∀ i,i≤r.om.length→0≤wtN r ch i∧wtN r ch i≤1000000 * (i + 1)
  | 0,_=>⟨h.kids.2.1,by have:=h.kids.2.2;show r.rule.wt≤_;omega⟩
  | i + 1,hi=>by
    have h1:=h.wts ch i oM
    have h2:=h.kid (i:=i) oM
    cases hc:ch i with
    | true=>rw [NX oM hc];omega
    | false=>rw [T6 oM hc];omega
theorem Dv {s:ByteArray} (h:xj s=true):s.size≤30:=by
  unfold xj at h;simp only [Bool.and_eq_true,decide_eq_true_eq] at h;exact h.1.1
theorem O2 {r:Orl} {ch:Nat→Bool} {i kd:Nat} (hi:i < r.om.length) (h:ch i=true) (hk:(r.om[i]).kid=kd):row 5 (fun k=>Value.bool (lfN r ch (i + 1) k).isSome)=row 5 (fun k=>if k=kd then Value.bool true else .bool (lfN r ch i k).isSome):=by
  congr 1
  funext k
  rw [LX hi h,hk];by_cases e:k=kd
  · subst e;rw [if_pos rfl,if_pos rfl];rfl
  · rw [if_neg (fun h=>e oM),if_neg e]
theorem lf_at {r:Orl} {ch:Nat→Bool} {i kd:Nat} (hi:i < r.om.length) (h:ch i=true) (hk:(r.om[i]).kid=kd) (j:Nat):lfN r ch (i + 1) j=if j=kd then some (r.om[i]).mean else lfN r ch i j:=by
  rw [LX hi h,hk];by_cases e:j=kd
  · subst e;rw [if_pos rfl,if_pos rfl]
  · rw [if_neg (fun h=>e oM),if_neg e]
theorem any_y {ch:Nat→Bool} {i:Nat} (h:ch i=true):true=XX ch (i + 1):=by rw [XX,h,Bool.or_true]
theorem any_n {ch:Nat→Bool} {i:Nat} (h:ch i=false):XX ch i=XX ch (i + 1):=by rw [XX,h,Bool.or_false]
theorem J5 {r:Orl} {ch:Nat→Bool} {i:Nat} (hi:i < r.om.length) (h:ch i=false):lfN r ch (i + 1)=lfN r ch i:=funext (lf_no hi h)
theorem LZ (i:Nat) (hi:i < 30):(madeCells #[.int .i64 0,.string ⟨#[]⟩,.int .i64 0,.string ⟨#[]⟩,.slice none 0 0,.slice none 0 0] (5 * 6))[i]? =tmZ6[i % 6]?:=by
  simp only [madeCells,Array.getElem?_map,Array.getElem?_range,if_pos (show i < 5 * 6 from hi),Option.map_some];have h6:i % 6 < 6:=Nat.mod_lt _ dE;show some ((#[.int .i64 0,.string ⟨#[]⟩,.int .i64 0,.string ⟨#[]⟩,.slice none 0 0,.slice none 0 0]:Array Value)[i % 6]!)=_
  match i % 6,h6 with
  | 0,_=>rfl
  | 1,_=>rfl
  | 2,_=>rfl
  | 3,_=>rfl
  | 4,_=>rfl
  | 5,_=>rfl
theorem ins_zero (w0:World):InsC w0 (madeCells #[.int .i64 0,.string ⟨#[]⟩,.int .i64 0,.string ⟨#[]⟩,.slice none 0 0,.slice none 0 0] (5 * 6)) 5 (fun _=>none):=
  ⟨size_madeCells _ _,fun k hk=>⟨tmZ6,rfl,fun j u hj=>by
    have hj6:j < 6:=(List.getElem?_eq_some_iff.1 hj).1
    rw [LZ _ oM,show (0 + k * 6 + j) % 6=j by omega]
    exact hj⟩⟩
theorem dec_yes {P:Prop} [Decidable P] {b:Bool} (h:P):b=decide (P∧b=true):=by cases b <;> simp [h]
theorem dec_no {P:Prop} [Decidable P] {b:Bool} (h:¬P):decide P=decide (P∧b=true):=by simp [h]
theorem dec_no2 {P:Prop} [Decidable P] {b:Bool} (h:¬P):false=decide (P∧b=true):=by simp [h]
theorem any_pos {ch:Nat→Bool}:∀ {n:Nat},XX ch n=true→0 < n
  | 0,h=>by cases h
  | n + 1,_=>Nat.zero_lt_succ n
theorem OrK.args {l:List Ty} {fs:List Ft} {r:Orl} {v:Tv} {τ:Ts} (h:OrK l fs r) (hm:TyIs r.rule.mean v τ) (h0:0 < r.om.length):r.rule.kids.toNat≤(qJ τ).length:=by
  obtain⟨v2,τ2,u,σ,L,g1,_,g3,_⟩:=(h.ok 0 h0).2.2.2;obtain⟨rfl,rfl⟩:=hm.det g1;rw [oW] at g3;by_cases e:r.rule.kids.toNat≤(qJ τ).length
  · exact e
  · rw [if_neg e] at g3;cases g3
def lwS (w0:World) (lo b:Nat):Prop:=b < w0.heap.size∨lo≤b
theorem lwS.no {w0 w:World} {lo b:Nat} (hB:Bel w0 w) (h:w.heap.size≤b) (hl:b < lo):¬lwS w0 lo b:=fun h2=>by
  have:=Bel.size hB
  unfold lwS at h2;omega
theorem Dy {l:List Ty} {fs:List Ft} {r:Rl} {n:Nd} {g:List Nd} {K:Nat} (h:vy l fs r=0) (hg:r.gr=n :: g) (hK:r.kids=(K:Int)):∀ f:Nat,1≤f→f≤K→∃ (i:Nat) (h:i < n.ln.length),(n.ln[i]).1=f:=by
  have hk:=(Zw h).1;have hp:u3 r.gr r.kids=true:=by
    cases e:u3 r.gr r.kids with
    | true=>rfl
    | false=>
      by_cases h1:Q9 r
      · rw [IJ h1] at h;cases h
      by_cases h2:(yV l fs r.gr).1=0
      · rw [Rx h1 h2 e] at h;cases h
      · rw [Rv h1 h2] at h;exact absurd h h2
  intro f h1 h2;have:=List.all_eq_true.1 hp f (List.mem_range.2 oM);unfold plN at this;rw [nd_zero (by rw [hg];exact Nat.zero_lt_succ _),beq_iff_eq,decide_eq_decide] at this;simp only [hg,List.getElem_cons_zero] at this;have h3:=this.2 oM;rcases tgt_mem (xs:=n.ln) (f:=(f:Int)) with e | ⟨y,hy,e,_⟩
  · rw [e] at h3;omega
  · obtain⟨i,hi,e2⟩:=List.getElem_of_mem hy
    exact⟨i,hi,by rw [e2];exact e⟩
theorem Ky {l:List Ty} {fs:List Ft} {r:Orl} {As:List Ts} {ch:Nat→Bool} {L:Nat→Option Tm} {K:Nat} {kd:Int} (h:XX ch r.om.length=true) (hL:lfN r ch r.om.length=L) (hK:r.rule.kids=(K:Int)) (hkd:kdN r ch r.om.length=kd):kX l fs r As ch= { name:=nmN r ch r.om.length,gr:=Vk (grR L K r.rule.gr),kids:=kd,wt:=wtN r ch r.om.length,mean:=xZ (kpT L As K) (mT r.rule.mean L kd K) }:=by
  subst hL hkd;unfold kX;rw [if_pos h,hK];rfl
theorem EQ {l:List Ty} {fs:List Ft} {r:Orl} {As:List Ts} {ch:Nat→Bool} (h:XX ch r.om.length=false):kX l fs r As ch= { r.rule with gr:=J8 l fs r.rule.gr }:=if_neg (by rw [h];decide)
theorem rcanq_hv (G:Option Addr) (n cg nf:Nat) (gr:List Nd) (w:World) (hG:NodesIn w G gr) (hn:gr.length=n) (hk:Vv nf gr) (hnf:nf≤1000):Calls Tryz.prog 36 #[.agg #[.slice G n cg]] w fun e w'=>(∃ A c,e= .returned (.agg #[.slice A (Vk gr).length c])∧Hv w.heap.size [] w'.heap.size w' (fun w=>NodesIn w A (Vk gr)))∧Bel w w':=by
  subst hn;exact(RK G cg nf gr w hG hk hnf).mono fun e w' h=>by
    obtain⟨⟨o,A,c,hD,he,hN⟩,hs⟩:=h;have e1:Vk gr=jY gr o:=by unfold Vk;rw [BZ hD]
    rw [e1];exact⟨⟨A,c,by rw [he,oK],Hv.fr hN⟩,hs⟩
theorem fn81:zK Tryz.prog 81=true:=by kernel_rfl
theorem fn83:zK Tryz.prog 83=true:=by kernel_rfl
set_option maxRecDepth 100000 in
set_option maxHeartbeats 8000000 in
theorem RQ (l:List Ty) (fs:List Ft) (r:Orl) (ch:Nat→Bool) {v:Tv} {τ:Ts} (w0 w:World) (hB0:Bel w0 w) (hh0:(qZ l fs).1=0) (hK:OrK l fs r) (hm:TyIs r.rule.mean v τ) (G SA BA OA:Option Addr) (cg cs cb co qb:Nat) (hP:OrP w0 r G SA BA OA) (hqb:qb < w.heap.size) (hC:∀ k,k < r.om.length→w.cell? ⟨qb,0 + k * 1,none⟩=some (.bool (ch k))):Calls Tryz.prog 50 #[.agg #[.string (r.rule).name,.slice G (r.rule).gr.length cg,.int .i64 (r.rule).kids,.int .i64 (r.rule).wt,.int .i64 ((r.rule).mean).kind,.string ((r.rule).mean).name,.int .i64 ((r.rule).mean).index,.string ((r.rule).mean).type.base,.slice SA ((r.rule).mean).type.args.length cs,.slice BA ((r.rule).mean).args.length cb,.slice OA r.om.length co],.slice (some ⟨qb,0,none⟩) r.om.length r.om.length] w fun e w'=>(∃ (G5 S5 B5:Option Addr) (g5 s5 t5:Nat),e= .returned (.agg #[.string ((kX l fs r (qJ τ) ch)).name,.slice G5 ((kX l fs r (qJ τ) ch)).gr.length g5,.int .i64 ((kX l fs r (qJ τ) ch)).kids,.int .i64 ((kX l fs r (qJ τ) ch)).wt,.int .i64 (((kX l fs r (qJ τ) ch)).mean).kind,.string (((kX l fs r (qJ τ) ch)).mean).name,.int .i64 (((kX l fs r (qJ τ) ch)).mean).index,.string (((kX l fs r (qJ τ) ch)).mean).type.base,.slice S5 (((kX l fs r (qJ τ) ch)).mean).type.args.length s5,.slice B5 (((kX l fs r (qJ τ) ch)).mean).args.length t5])∧Hv w.heap.size [] w'.heap.size w' (fun w2=>Kw w0 w2→NodesIn w2 G5 (kX l fs r (qJ τ) ch).gr∧SimsIn w2 S5 (kX l fs r (qJ τ) ch).mean.type.args∧TmsIn w2 B5 (kX l fs r (qJ τ) ch).mean.args))∧Bel w w':=by
 have hmo:=hP.o.1;unfold yJ at hmo;have hkds:=hK.kids;have hfew:=hK.few;have hns:=Dv hK.nm;have hg0:=(ZW hh0 hK.rf).1;refine enT Tryz.func50 Tryz.ntmps50 rfl rfl fun hB=>?_;refine zn2 ?_;refine x6 (v:= .agg #[_,_,_,_,_,_,_,_,_,_,_]) (cs:=#[_,_,_,_,_,_,_,_,_,_,_]) rfl rfl (fun b2 w1 hb2 q1 hr=>?_);refine qq (cs:=#[.string ⟨#[]⟩,.slice none 0 0,.int .i64 0,.int .i64 0,.int .i64 0,.string ⟨#[]⟩,.int .i64 0,.string ⟨#[]⟩,.slice none 0 0,.slice none 0 0]) oq rfl (fun b4 w2 hb4 q2 hr=>?_);have:=nLL hb2.lt hr;have lo4:=nLT (Bel.size hB.u) hr;refine zn5 ?_;refine wl (zY U54 rfl rfl (hb2.u.sub (n:=10) (xs:=[_,_,_,_,_,_,_,_,_,_]) rfl) yQ) ?_;refine xV (cs:=#[.string ⟨#[]⟩,.slice none 0 0,.int .i64 0,.int .i64 0,.int .i64 0,.string ⟨#[]⟩,.int .i64 0,.string ⟨#[]⟩,.slice none 0 0,.slice none 0 0]) oq rfl (fun _=>rfl) (fun _=>rfl) yQ rfl zQ (fun b5 w4 hb5 q3 hr=>?_);have:=nLL hb2.u.lt hr;have:=nLL hb4.lt hr;have lo5:=nLT (Bel.size hB.u) hr;refine zn6 ?_;refine wl (YX rfl rfl (by show r.rule.name.size + 1≤_;omega)) (zn1 ?_);refine xz (v:= .string _) hb5 rfl rfl V6 (by first | decide | simp) rfl rfl (fun w5 hq q4=>?_);replace hb5:=hq;refine zn4 ?_;refine gv (m:=5) QX I0 rfl rfl rfl oM oM (fun b32 w6 hb32 q5 hr=>?_);have:=nLL hb2.u.lt hr;have:=nLL hb4.u.lt hr;have:=nLL hb5.lt hr;have lo32:=nLT (Bel.size hB.u) hr;refine zn5 ?_;refine Gj (m:=5) U42 in44 rfl rfl oM oM (fun b33 w7 hb33 q6 hr=>?_);have:=nLL hb2.u.lt hr;have:=nLL hb4.u.lt hr;have:=nLL hb5.u.lt hr;have:=nLL hb32.lt hr;have lo33:=nLT (Bel.size hB.u) hr;refine zn18 ?_;refine zW (rg [8,9,10] 37 37) (fun m g w'=>∃ (i:Nat) (csI:Array Value),i≤r.om.length∧m=r.om.length - i∧g 37= .int .i64 i∧g 8= .bool (XX ch i)∧Bel w w'∧Blk w' b2 57 #[.string (r.rule).name,.slice G (r.rule).gr.length cg,.int .i64 (r.rule).kids,.int .i64 (r.rule).wt,.int .i64 ((r.rule).mean).kind,.string ((r.rule).mean).name,.int .i64 ((r.rule).mean).index,.string ((r.rule).mean).type.base,.slice SA ((r.rule).mean).type.args.length cs,.slice BA ((r.rule).mean).args.length cb,.slice OA r.om.length co]∧Blk w' b4 54 #[.string ⟨#[]⟩,.slice none 0 0,.int .i64 0,.int .i64 0,.int .i64 0,.string ⟨#[]⟩,.int .i64 0,.string ⟨#[]⟩,.slice none 0 0,.slice none 0 0]∧Blk w' b5 54 #[.string (nmN r ch i),.slice G r.rule.gr.length cg,.int .i64 (kdN r ch i),.int .i64 (wtN r ch i),.int .i64 (r.rule.mean).kind,.string (r.rule.mean).name,.int .i64 (r.rule.mean).index,.string (r.rule.mean).type.base,.slice SA (r.rule.mean).type.args.length cs,.slice BA (r.rule.mean).args.length cb]∧Blk w' b32 4 (row 5 (fun k=> .bool (lfN r ch i k).isSome))∧Blk w' b33 44 csI∧InsC w0 csI 5 (lfN r ch i)) (r.om.length) ?_ (fun m g7 w8 hI=>?_)
 ·exact⟨0,_,Nat.zero_le _,rfl,rfl,rfl,hB.u,hb2.u,hb4.u,hb5.u,hb32.u,hb33,ins_zero w0⟩
 obtain⟨i,csI,hi,hmi,h37,h8,hB,hb2,hb4,hb5,hb32,hb33,hI⟩:=hI;refine zZ 37 _ h37 nu (zZ 8 _ h8 nu (zn6 ?_));refine zX rfl (fun c38=>?_) (fun c38=>?_)
 ·have hil:i < r.om.length:=by omega
  obtain⟨ob,oo,Sx,csx,Bx,cbx,hoe,hob,hor,hsx,htx⟩:=hP.o.at_ hil;have hkid:=hK.kid hil;obtain⟨kd,hkd⟩:∃ kd:Nat,(r.om[i]).kid=kd:=⟨(r.om[i]).kid.toNat,by omega⟩
  rw [hkd] at hor;have hnz:=BV r ch i;have hkz:=FJ r ch i;have hwz:=hK.wts ch i oM;refine zn7 ?_;refine wl (xk (i:=i) U55 OW (show ev _ _ _=_ from Z1 _ _ hoe) rfl oM rfl) (wl (zY U99 rfl rfl (hB.range (nLL hob hB0.size) (hB0.range hob hor)) OW) ?_);refine qq (cs:=#[.int .i64 0,.int .i64 0,.int .i64 0,.string ⟨#[]⟩,.int .i64 0,.string ⟨#[]⟩,.slice none 0 0,.slice none 0 0]) ze99 rfl (fun b10 w9 hb10 q7 hr=>?_);have:=nLL hb2.lt hr;have:=nLL hb4.lt hr;have:=nLL hb5.lt hr;have:=nLL hb32.lt hr;have:=nLL hb33.lt hr;have lo10:=nLT (Bel.size hB) hr;refine waI rfl ?_;refine zk hb10 rfl rfl OW rfl zQ (fun w10 hq q8=>?_);replace hb10:=hq;refine zn6 ?_;refine wl (xk (i:=i) QX vj rfl rfl hil rfl) (wl (qV (v:= .bool _) U4 rfl rfl (hB.u.cell hqb (hC i hil))) (zJ (e_S ?_)));refine vK rfl (fun c45=>?_) (fun c45=>?_)
  ·have hci:ch i=true:=c45;refine zn6 ?_;refine kz [] [7] [0,1,2,3,4,5,6,7] rfl (fun w11 q9=>?_);refine zn4 ?_;refine hcl (fun v wv=>v= .string (dig (kd:Nat))) rfl fn81 (FV kd w11 oM) rfl (fun e' w2 hr=>?_) (fun v50 w12 q10 d50=>?_)
   ·obtain⟨rfl,q11⟩:=hr;exact⟨_,rfl,sB q11,rfl⟩
   have e50:=d50;subst e50;refine hl rfl (fun _=>YX rfl rfl (by show (nmN r ch i).size + 1≤_;omega)) (zn1 ?_);refine h1 rfl ?_;replace hb5:=((hb5.tr0 q7).tr1 q8 oM).tr0 (q9.trans q10);refine xz (v:= .string _) hb5 rfl rfl V6 (by first | decide | simp) rfl rfl (fun w13 hq q12=>?_);have hsH7:=q12;replace hb5:=hq;refine zJ (V0 [] (zn6 ?_));refine wl (j8 (c:=(kdN r ch i - 1)) rfl rfl rfl oM) (zn1 ?_);refine xz (v:= .int _ _) hb5 rfl rfl qX (by first | decide | simp) rfl rfl (fun w14 hq q13=>?_);replace hb5:=hq;refine zn8 ?_;refine wl (Z9 (c:=(wtN r ch i + (r.om[i]).wt)) rfl rfl rfl oM) (zn1 ?_);refine xz (v:= .int _ _) hb5 rfl rfl qX (by first | decide | simp) rfl rfl (fun w15 hq q14=>?_);replace hb5:=hq;refine zn8 ?_;replace hb32:=(((((hb32.tr0 q7).tr1 q8 oM).tr0 (q9.trans q10)).tr1 q12 oM).tr1 q13 oM).tr1 q14 oM;refine xz (v:= .bool _) hb32 rfl rfl vj (by rw [row_size];omega) rfl jQ (fun w16 hq q15=>?_);replace hb32:=hq;refine zn7 ?_;refine wl (zY U44 rfl rfl (hb10.u.sub (n:=6) (xs:=[_,_,_,_,_,_]) rfl) qW) (zn1 ?_);replace hb33:=((((((hb33.tr0 q7).tr1 q8 oM).tr0 (q9.trans q10)).tr1 q12 oM).tr1 q13 oM).tr1 q14 oM).tr1 q15 oM;refine uK hb33 rfl rfl qW (by rw [hI.size];show 0 + kd * 6 + 6≤_;omega) zQ rfl (fun w17 hq q16=>?_);replace hb33:=hq;have hI2:=hI.put (k:=kd) (L':=lfN r ch (i + 1)) oM (⟨Sx,Bx,csx,cbx,rfl,hsx,htx⟩:tmD w0 (r.om[i]).mean _) (lf_at hil hci hkd);refine zn7 ?_;refine xv (r.om.length - (i + 1)) oM agA ?_;replace hB:=(((((((hB.tr0 q7).tr1 q8 lo10).tr0 (q9.trans q10)).tr1 q12 lo5).tr1 q13 lo5).tr1 q14 lo5).tr1 q15 lo32).tr1 q16 lo33;replace hb2:=(((((((hb2.tr0 q7).tr1 q8 oM).tr0 (q9.trans q10)).tr1 q12 oM).tr1 q13 oM).tr1 q14 oM).tr1 q15 oM).tr1 q16 oM;replace hb4:=(((((((hb4.tr0 q7).tr1 q8 oM).tr0 (q9.trans q10)).tr1 q12 oM).tr1 q13 oM).tr1 q14 oM).tr1 q15 oM).tr1 q16 oM;replace hb5:=(hb5.tr1 q15 oM).tr1 q16 oM;replace hb32:=hb32.tr1 q16 oM
   first
    | exact⟨i + 1,_,by omega,rfl,rfl,congrArg Value.bool (any_y hci),hB,hb2,hb4,by rw [BK hil hci,O4 hci,NX hil hci,hkd];exact hb5,by rw [O2 hil hci hkd];exact hb32,hb33,hI2⟩
    | exact⟨i + 1,_,by omega,rfl,rfl,congrArg Value.bool (any_n hci),hB,hb2,hb4,by rw [nm_no hil hci,FX hci,T6 hil hci];exact hb5,by rw [J5 hil hci];exact hb32,hb33,by rw [J5 hil hci];exact hI⟩
  have hci:ch i=false:=by simpa using c45
  refine zn7 ?_;refine xv (r.om.length - (i + 1)) oM agA ?_;replace hB:=(hB.tr0 q7).tr1 q8 lo10;replace hb2:=(hb2.tr0 q7).tr1 q8 oM;replace hb4:=(hb4.tr0 q7).tr1 q8 oM;replace hb5:=(hb5.tr0 q7).tr1 q8 oM;replace hb32:=(hb32.tr0 q7).tr1 q8 oM;replace hb33:=(hb33.tr0 q7).tr1 q8 oM
  first
   | exact⟨i + 1,_,by omega,rfl,rfl,congrArg Value.bool (any_y hci),hB,hb2,hb4,by rw [BK hil hci,O4 hci,NX hil hci,hkd];exact hb5,by rw [O2 hil hci hkd];exact hb32,hb33,hI2⟩
   | exact⟨i + 1,_,by omega,rfl,rfl,congrArg Value.bool (any_n hci),hB,hb2,hb4,by rw [nm_no hil hci,FX hci,T6 hil hci];exact hb5,by rw [J5 hil hci];exact hb32,hb33,by rw [J5 hil hci];exact hI⟩
 have hie:i=r.om.length:=by omega
 refine yZ ?_;refine vK rfl (fun c75=>?_) (fun c75=>?_)
 ·subst hie;have hany:XX ch r.om.length=false:=by simpa using c75
  refine zn3 ?_;refine wl (zY U54 rfl rfl (hb2.sub (n:=10) (xs:=[_,_,_,_,_,_,_,_,_,_]) rfl) yQ) ?_;refine zk hb5 rfl rfl yQ rfl zQ (fun w18 hq q17=>?_);replace hb5:=hq;refine zn5 ?_;refine wl (zY U30 rfl rfl (hb5.sub (n:=1) (xs:=[_]) rfl) ZK) ?_;replace hB:=hB.tr1 q17 lo5;have hszv:=Bel.size hB;have z5:=hb5.lt;replace hb4:=hb4.tr1 q17 oM;have z4:=hb4.lt;refine zV fn36 (rcan_hv G cg l fs r.rule.gr _ ((hP.g.mono hB0).mono hB) hg0) rfl (fun e' w19 hr=>?_);obtain⟨⟨A5,c5,rfl,hz5⟩,q18⟩:=hr;replace q18:=sB q18;refine⟨_,rfl,?_⟩;refine zn1 ?_;replace hb5:=hb5.tr0 q18;refine uK hb5 rfl rfl ZK (by first | decide | simp) zQ rfl (fun w20 hq q19=>?_);replace hz5:=hz5.lo1 q19 z5;replace hb5:=hq;refine zn5 ?_;refine zk hb4.u rfl rfl yQ rfl zQ (fun w21 hq q20=>?_);replace hz5:=hz5.lo1 q20 z4;replace hb4:=hq;refine zn4 ?_;refine x7 (.inl rfl) rfl (zy U54 rfl rfl hb4.range0 yQ) ?_;replace hB:=((hB.tr0 q18).tr1 q19 lo5).tr1 q20 lo4;exact⟨⟨A5,SA,BA,c5,cs,cb,by rw [EQ hany];rfl,by rw [EQ hany];exact(hz5.mono hszv hz5.le (Nat.le_refl _)).imp (fun _ h hk=>⟨h,hP.s.keep hk,hP.t.keep hk⟩)⟩,hB⟩
 subst hie;have hany:XX ch r.om.length=true:=by simpa using c75
 have hall:=hK.args hm (any_pos hany);have hkz:=FJ r ch r.om.length;have hwz:=hK.wts ch r.om.length (Nat.le_refl _);obtain⟨L,hL⟩:∃ L,lfN r ch r.om.length=L:=⟨_,rfl⟩
 obtain⟨kd,hkd⟩:∃ z,kdN r ch r.om.length=z:=⟨_,rfl⟩
 rw [hL] at hI hb32;rw [hkd] at hb5 hkz;obtain⟨K,hKk⟩:∃ K:Nat,r.rule.kids=(K:Int):=⟨r.rule.kids.toNat,by omega⟩
 have hgv:=gv_of hg0;have hfew:=hgv.few;have hgok:=hgv.gok;have hglen:=hgok.le;obtain⟨n0,g9,hgr⟩:∃ n g,r.rule.gr=n :: g:=by
   cases h:r.rule.gr with
   | nil=>have:=hgok.pos;rw [h] at this;cases this
   | cons n g=>exact⟨n,g,rfl⟩
 have hfull:=Dy hK.rf hgr hKk;have hln40:n0.ln.length≤40:=by
   have h:=hgok.few 0 hgok.pos;simp only [hgr,List.getElem_cons_zero] at h;omega
 have hnn:∀ x ∈ n0.ln,0≤x.1:=fun x hx=>by
   have h:=hgok.ln 0 hgok.pos;simp only [hgr,List.getElem_cons_zero] at h;exact(h x hx).1
 have hsrt:∀ a b (ha:a < n0.ln.length) (hb:b < n0.ln.length),a < b→(n0.ln[a]).1 < (n0.ln[b]).1:=by
   have h:=(ZQ (KV hgv.lo 0 hgok.pos)).2;simp only [hgr,List.getElem_cons_zero] at h;exact h
 refine zn6 ?_;refine wl (zY U44 rfl rfl (hb2.sub (n:=6) (xs:=[_,_,_,_,_,_]) rfl) qW) ?_;obtain⟨L1,hL1⟩:∃ z,z=w8.heap.size:=⟨_,rfl⟩
 have lT4:b4 < L1:=by rw [hL1];exact hb4.lt
 have lT5:b5 < L1:=by rw [hL1];exact hb5.lt
 have lLw:w.heap.size≤L1:=by rw [hL1];exact Bel.size hB
 have hq4:=lwS.no hB0 lo4 lT4;have hq5:=lwS.no hB0 lo5 lT5;refine zV fn47 ((Jv hm SA BA cs cb w0 _ (hB0.then hB) hP.s hP.t).mono (fun _ _ h=>And.intro (And.intro h.1 h.2) h.2)) rfl (fun e' w22 hr=>?_);obtain⟨⟨⟨Av,cv,rfl,hSv⟩,hsT⟩,q21⟩:=hr;replace q21:=sB q21;replace hSv:=hSv.imp (S':=lwS w0 L1) (fun b _ h=>h.imp id (fun h=>by rw [hL1];exact h.1)) _;have hLV:L1≤w22.heap.size:=by rw [hL1];exact Bel.size hsT
 clear hsT;obtain⟨wV,hwV⟩:∃ x,x=w22:=⟨_,rfl⟩
 have hBV:Bel wV w22:=by rw [hwV];exact Below.refl _ _
 rw [← hwV] at hSv;rw [← hwV] at hLV;refine⟨_,rfl,?_⟩;refine wmT rfl (wl (j5 (v:= .agg _) rfl rfl) (wl (j5 (v:= .bool _) rfl rfl) ?_));refine xV (cs:=#[.string ⟨#[]⟩,.slice none 0 0]) ov rfl (fun _=>rfl) (fun _=>rfl) x9 rfl zQ (fun b11 w24 hb11 q22 hr=>?_);have:=nLL hb2.u.lt hr;have:=nLL hb4.u.lt hr;have:=nLL hb5.u.lt hr;have:=nLL hb32.u.lt hr;have:=nLL hb33.u.lt hr;refine zn6 ?_;replace hBV:=hBV.tr0 q22;refine zV fn48 (IV _ τ Av cv _ (by have:=(OX τ).1;have:=hm.size;omega) (hSv.mono hBV) (fun b hb=> .inr (nLT (nLT hLV (Bel.size hBV)) hb))) rfl (fun e' w25 hr=>?_);obtain⟨⟨A12,c12,s12,A13,n13,c13,rfl,hSG⟩,q23⟩:=hr;replace q23:=sB q23;have hQ:=hSG.k;have hLQ:L1≤w25.heap.size:=nLT hLV (Bel.size hBV.u);obtain⟨nQ,hnQ⟩:∃ z,z=w25.heap.size:=⟨_,rfl⟩
 rw [← hnQ] at hQ hLQ;clear hnQ;refine⟨_,rfl,?_⟩;refine wmT rfl (wl (j5 (v:= .slice _ _ _) rfl rfl) (wl (j5 (v:= .agg _) rfl rfl) ?_));refine qq (cs:=#[.string ⟨#[]⟩,.slice none 0 0]) ov rfl (fun b14 w26 hb14 q24 hr=>?_);have:=nLL hb2.u.lt hr;have:=nLL hb4.u.lt hr;have:=nLL hb5.u.lt hr;have:=nLL hb32.u.lt hr;have:=nLL hb33.u.lt hr;have:=nLL hb11.u.lt hr;have or_hQ_b14:=(nLT hQ.1 hr)
 have lo14:=nLT (Bel.size hB.u) hr;replace hQ:=hQ.tr q24 (by simp);refine waS rfl ?_;refine zk hb14 rfl rfl x9 rfl zQ (fun w27 hq q25=>?_);replace hQ:=hQ.tr q25 (fun g hg=> .inr (by rw [List.mem_singleton.1 hg];exact or_hQ_b14));replace hb14:=hq;refine zn6 ?_;refine wl (zY U44 rfl rfl (hb2.u.sub (n:=6) (xs:=[_,_,_,_,_,_]) rfl) qW) ?_;refine qq (cs:=#[.int .i64 0,.string ⟨#[]⟩,.int .i64 0,.string ⟨#[]⟩,.slice none 0 0,.slice none 0 0]) jJ rfl (fun b15 w28 hb15 q26 hr=>?_);have:=nLL hb2.u.lt hr;have:=nLL hb4.u.lt hr;have:=nLL hb5.u.lt hr;have:=nLL hb32.u.lt hr;have:=nLL hb33.u.lt hr;have:=nLL hb11.u.lt hr;have or_hQ_b15:=(nLT hQ.1 hr)
 have:=nLL hb14.lt hr;have lo15:=nLT (Bel.size hB.u) hr;replace hQ:=hQ.tr q26 (by simp);refine zk hb15 rfl rfl qW rfl zQ (fun w29 hq q27=>?_);replace hQ:=hQ.tr q27 (fun g hg=> .inr (by rw [List.mem_singleton.1 hg];exact or_hQ_b15));replace hb15:=hq;have hb15Q:=or_hQ_b15;have hM:TmG w0 L1 [b15] L1 w29 SA BA r.rule.mean:=V4 hP.s hP.t (nLT hLQ hQ.1);refine Nk ?_;refine zW (rg [16,17,18] 100 24) (fun m g w'=>∃ (k nM:Nat) (S B:Option Addr) (csM cbM:Nat),k≤K∧m=K - k∧g 16= .int .i64 (kd - ((j6 L k:Nat):Int))∧g 17= .int .i64 ((k + 1:Nat):Int)∧Bel w w'∧Blk w' b2 57 #[.string (r.rule).name,.slice G (r.rule).gr.length cg,.int .i64 (r.rule).kids,.int .i64 (r.rule).wt,.int .i64 ((r.rule).mean).kind,.string ((r.rule).mean).name,.int .i64 ((r.rule).mean).index,.string ((r.rule).mean).type.base,.slice SA ((r.rule).mean).type.args.length cs,.slice BA ((r.rule).mean).args.length cb,.slice OA r.om.length co]∧Blk w' b4 54 #[.string ⟨#[]⟩,.slice none 0 0,.int .i64 0,.int .i64 0,.int .i64 0,.string ⟨#[]⟩,.int .i64 0,.string ⟨#[]⟩,.slice none 0 0,.slice none 0 0]∧Blk w' b5 54 #[.string (nmN r ch r.om.length),.slice G r.rule.gr.length cg,.int .i64 kd,.int .i64 (wtN r ch r.om.length),.int .i64 (r.rule.mean).kind,.string (r.rule.mean).name,.int .i64 (r.rule.mean).index,.string (r.rule.mean).type.base,.slice SA (r.rule.mean).type.args.length cs,.slice BA (r.rule.mean).args.length cb]∧Blk w' b32 4 (row 5 (fun k=> .bool (L k).isSome))∧Blk w' b33 44 csI∧Blk w' b15 44 #[.int .i64 ((mT r.rule.mean L kd k)).kind,.string ((mT r.rule.mean L kd k)).name,.int .i64 ((mT r.rule.mean L kd k)).index,.string ((mT r.rule.mean L kd k)).type.base,.slice S ((mT r.rule.mean L kd k)).type.args.length csM,.slice B ((mT r.rule.mean L kd k)).args.length cbM]∧TysK (lwS w0 L1) nQ w' A12 (qJ τ)∧TmG w0 L1 [b15] nM w' S B (mT r.rule.mean L kd k)) (K) ?_ (fun m g26 w30 hI=>?_)
 ·replace hB:=(((hB.tr0 (q21.trans (q22.trans (q23.trans q24)))).tr1 q25 lo14).tr0 q26).tr1 q27 lo15;replace hb2:=(((hb2.tr0 (q21.trans (q22.trans (q23.trans q24)))).tr1 q25 oM).tr0 q26).tr1 q27 oM;replace hb4:=(((hb4.tr0 (q21.trans (q22.trans (q23.trans q24)))).tr1 q25 oM).tr0 q26).tr1 q27 oM;replace hb5:=(((hb5.tr0 (q21.trans (q22.trans (q23.trans q24)))).tr1 q25 oM).tr0 q26).tr1 q27 oM;replace hb32:=(((hb32.tr0 (q21.trans (q22.trans (q23.trans q24)))).tr1 q25 oM).tr0 q26).tr1 q27 oM;replace hb33:=(((hb33.tr0 (q21.trans (q22.trans (q23.trans q24)))).tr1 q25 oM).tr0 q26).tr1 q27 oM;exact⟨0,L1,SA,BA,cs,cb,Nat.zero_le _,rfl,congrArg (Value.int .i64) (by rw [j6];omega),rfl,hB,hb2,hb4,hb5,hb32,hb33,hb15,hQ,hM⟩
 obtain⟨k,nM,S,B,csM,cbM,hk,hmk,h16,h17,hB,hb2,hb4,hb5,hb32,hb33,hb15,hQ,hM⟩:=hI;refine zZ 17 _ h17 nu (zZ 16 _ h16 nu (yv ?_));refine zX rfl (fun c104=>?_) (fun c104=>?_)
 ·have hkl:k + 1≤K:=by omega
  have hcl:=Qk L k;have hcl2:=Qk L (k + 1);obtain⟨u6,hu6,hru⟩:=hI.rng hb33 (k:=k + 1) oM;obtain⟨Sx,Bx,csx,cbx,rfl,hsx,htx⟩:=hu6.term;refine zn8 ?_;refine wl (xk (i:=(k + 1)) U42 qW rfl rfl oM rfl) (wl (zY U44 rfl rfl hru qW) ?_);refine qq (cs:=#[.int .i64 0,.string ⟨#[]⟩,.int .i64 0,.string ⟨#[]⟩,.slice none 0 0,.slice none 0 0]) jJ rfl (fun b18 w31 hb18 q28 hr=>?_);have:=nLL hb2.lt hr;have:=nLL hb4.lt hr;have:=nLL hb5.lt hr;have:=nLL hb32.lt hr;have:=nLL hb33.lt hr;have:=nLL hb15.lt hr;have or_hQ_b18:=(nLT hQ.1 hr)
  have or_hM_b18:=(nLT hM.le hr)
  have lo18:=nLT (Bel.size hB) hr;replace hQ:=hQ.tr q28 (by simp);refine zk hb18 rfl rfl qW rfl zQ (fun w32 hq q29=>?_);replace hQ:=hQ.tr q29 (fun g hg=> .inr (by rw [List.mem_singleton.1 hg];exact or_hQ_b18));replace hM:=hM.tr0 q28;replace hM:=hM.tr q29 (fun g hg=> .inr (.inr (by rw [List.mem_singleton.1 hg];exact or_hM_b18)));replace hb18:=hq;refine zn7 ?_;refine wl (xk (i:=(k + 1)) QX vj rfl rfl oM rfl) (wl (qV (v:= .bool _) U4 rfl rfl (hb32.u.cell (yk oM))) (zn3 ?_));refine vK rfl (fun c115=>?_) (fun c115=>?_)
  ·have hno:L (k + 1)=none:=by
     cases h:L (k + 1) with
     | none=>rfl
     | some x=>rw [h] at c115;cases c115
   refine zn3 ?_;refine wl (j8 (c:=(kd - ((j6 L (k + 1):Nat):Int))) rfl rfl (by rw [SV hno];omega) oM) (zn5 ?_);refine wl (xY (v0:= .int _ _) (v1:= .int _ _) (fun v0 v1=>#[v0,.string ⟨#[]⟩,v1,.string ⟨#[]⟩,.slice none 0 0,.slice none 0 0]) rfl rfl kR) ?_;refine zk hb18 rfl rfl qW rfl zQ (fun w33 hq q30=>?_);replace hQ:=hQ.tr q30 (fun g hg=> .inr (by rw [List.mem_singleton.1 hg];exact or_hQ_b18));replace hM:=hM.tr q30 (fun g hg=> .inr (.inr (by rw [List.mem_singleton.1 hg];exact or_hM_b18)));replace hb18:=hq;refine zn5 ?_;refine qw (cs:=#[_,_,_,_,_,_,_,_,_,_,_,_]) [(0,.agg _),(1,.agg _)] rfl U42 qW jJ dE dE kR rfl (fun b122 w34 hb122 q31 hr=>?_);have:=nLL hb2.u.lt hr;have:=nLL hb4.u.lt hr;have:=nLL hb5.u.lt hr;have:=nLL hb32.u.lt hr;have:=nLL hb33.u.lt hr;have:=nLL hb15.u.lt hr;have or_hQ_b122:=(nLT hQ.1 hr)
   have:=nLL hb18.lt hr;replace hQ:=hQ.tr q31 (by simp);refine wl (xY (v0:= .int _ _) (v1:= .slice _ _ _) (fun v0 v1=>#[v0,.string ⟨#[]⟩,.int .i64 0,.string ⟨#[]⟩,.slice none 0 0,v1]) rfl rfl kR) ?_;refine zk hb15.u rfl rfl qW rfl zQ (fun w35 hq q32=>?_);replace hQ:=hQ.tr q32 (fun g hg=> .inr (by rw [List.mem_singleton.1 hg];exact or_hQ_b15));replace hM:=hM.tr0 q31;replace hM:=hM.in1 q32 (by simp);replace hb15:=hq;have hM2:TmG w0 L1 [b15] w35.heap.size w35 none (some ⟨b122,0,none⟩) (mT r.rule.mean L kd (k + 1)):=by
     have h1:L1≤b122:=nLT hLQ or_hQ_b122;have h2:b122 ∉ [b15]:=fun h=>by have:=List.mem_singleton.1 h;omega
     replace hb122:=hb122.tr1 q32 oM
     first
     | (rw [Fv hno];exact Q8 hM (N1 (kd - ((j6 L (k + 1):Nat):Int)) (nLT hLQ hQ.1)) hb122 h1 h2)
     | (rw [hso] at hsx htx;rw [O0 hso];exact Q8 hM (V4 hsx htx (nLT hLQ hQ.1)) (by rw [hso] at hb122;exact hb122) h1 h2)
   refine zn5 ?_;refine wl (Z9 (c:=((k + 1 + 1:Nat):Int)) rfl rfl oM oM) (zn2 ?_);refine xv (K - (k + 1)) oM agA ?_;replace hB:=((((hB.tr0 q28).tr1 q29 lo18).tr1 q30 lo18).tr0 q31).tr1 q32 lo15;replace hb2:=((((hb2.tr0 q28).tr1 q29 oM).tr1 q30 oM).tr0 q31).tr1 q32 oM;replace hb4:=((((hb4.tr0 q28).tr1 q29 oM).tr1 q30 oM).tr0 q31).tr1 q32 oM;replace hb5:=((((hb5.tr0 q28).tr1 q29 oM).tr1 q30 oM).tr0 q31).tr1 q32 oM;replace hb32:=((((hb32.tr0 q28).tr1 q29 oM).tr1 q30 oM).tr0 q31).tr1 q32 oM;replace hb33:=((((hb33.tr0 q28).tr1 q29 oM).tr1 q30 oM).tr0 q31).tr1 q32 oM
   first
    | exact⟨k + 1,_,none,some ⟨b122,0,none⟩,0,2,hkl,rfl,rfl,rfl,hB,hb2,hb4,hb5,hb32,hb33,hb15,hQ,hM2⟩
    | exact⟨k + 1,_,none,some ⟨b122,0,none⟩,0,2,hkl,rfl,congrArg (Value.int .i64) (by rw [Nj hso]),rfl,hB,hb2,hb4,hb5,hb32,hb33,hb15,hQ,hM2⟩
  replace hb2:=(hb2.tr0 q28).tr1 q29 oM;replace hb4:=(hb4.tr0 q28).tr1 q29 oM;replace hb5:=(hb5.tr0 q28).tr1 q29 oM;replace hb32:=(hb32.tr0 q28).tr1 q29 oM;replace hb33:=(hb33.tr0 q28).tr1 q29 oM;replace hb15:=(hb15.tr0 q28).tr1 q29 oM;obtain⟨xq,hso⟩:∃ x,L (k + 1)=some x:=by
    cases h:L (k + 1) with
    | none=>rw [h] at c115;exact absurd c115 (by simp)
    | some x=>exact⟨x,rfl⟩
  refine zn5 ?_;refine qw (cs:=#[_,_,_,_,_,_,_,_,_,_,_,_]) [(0,.agg _),(1,.agg _)] rfl U42 qW jJ dE dE kR rfl (fun b122 w36 hb122 q33 hr=>?_);have:=nLL hb2.lt hr;have:=nLL hb4.lt hr;have:=nLL hb5.lt hr;have:=nLL hb32.lt hr;have:=nLL hb33.lt hr;have:=nLL hb15.lt hr;have or_hQ_b122:=(nLT hQ.1 hr)
  have:=nLL hb18.lt hr;replace hQ:=hQ.tr q33 (by simp);refine wl (xY (v0:= .int _ _) (v1:= .slice _ _ _) (fun v0 v1=>#[v0,.string ⟨#[]⟩,.int .i64 0,.string ⟨#[]⟩,.slice none 0 0,v1]) rfl rfl kR) ?_;refine zk hb15.u rfl rfl qW rfl zQ (fun w37 hq q34=>?_);replace hQ:=hQ.tr q34 (fun g hg=> .inr (by rw [List.mem_singleton.1 hg];exact or_hQ_b15));replace hM:=hM.tr0 q33;replace hM:=hM.in1 q34 (by simp);replace hb15:=hq;have hM2:TmG w0 L1 [b15] w37.heap.size w37 none (some ⟨b122,0,none⟩) (mT r.rule.mean L kd (k + 1)):=by
    have h1:L1≤b122:=nLT hLQ or_hQ_b122;have h2:b122 ∉ [b15]:=fun h=>by have:=List.mem_singleton.1 h;omega
    replace hb122:=hb122.tr1 q34 oM
    first
    | (rw [Fv hno];exact Q8 hM (N1 (kd - ((j6 L (k + 1):Nat):Int)) (nLT hLQ hQ.1)) hb122 h1 h2)
    | (rw [hso] at hsx htx;rw [O0 hso];exact Q8 hM (V4 hsx htx (nLT hLQ hQ.1)) (by rw [hso] at hb122;exact hb122) h1 h2)
  refine zn5 ?_;refine wl (Z9 (c:=((k + 1 + 1:Nat):Int)) rfl rfl oM oM) (zn2 ?_);refine xv (K - (k + 1)) oM agA ?_;replace hB:=(((hB.tr0 q28).tr1 q29 lo18).tr0 q33).tr1 q34 lo15;replace hb2:=(hb2.tr0 q33).tr1 q34 oM;replace hb4:=(hb4.tr0 q33).tr1 q34 oM;replace hb5:=(hb5.tr0 q33).tr1 q34 oM;replace hb32:=(hb32.tr0 q33).tr1 q34 oM;replace hb33:=(hb33.tr0 q33).tr1 q34 oM
  first
   | exact⟨k + 1,_,none,some ⟨b122,0,none⟩,0,2,hkl,rfl,rfl,rfl,hB,hb2,hb4,hb5,hb32,hb33,hb15,hQ,hM2⟩
   | exact⟨k + 1,_,none,some ⟨b122,0,none⟩,0,2,hkl,rfl,congrArg (Value.int .i64) (by rw [Nj hso]),rfl,hB,hb2,hb4,hb5,hb32,hb33,hb15,hQ,hM2⟩
 have hke:K=k:=by omega
 subst hke;refine QJ ?_;refine zW (rg [19] 127 17) (fun m g w'=>∃ (q nM:Nat) (S B:Option Addr) (csM cbM:Nat) (D:List Ts),q≤K∧m=q∧g 19= .int .i64 ((q:Nat):Int)∧Bel w w'∧Blk w' b2 57 #[.string (r.rule).name,.slice G (r.rule).gr.length cg,.int .i64 (r.rule).kids,.int .i64 (r.rule).wt,.int .i64 ((r.rule).mean).kind,.string ((r.rule).mean).name,.int .i64 ((r.rule).mean).index,.string ((r.rule).mean).type.base,.slice SA ((r.rule).mean).type.args.length cs,.slice BA ((r.rule).mean).args.length cb,.slice OA r.om.length co]∧Blk w' b4 54 #[.string ⟨#[]⟩,.slice none 0 0,.int .i64 0,.int .i64 0,.int .i64 0,.string ⟨#[]⟩,.int .i64 0,.string ⟨#[]⟩,.slice none 0 0,.slice none 0 0]∧Blk w' b5 54 #[.string (nmN r ch r.om.length),.slice G r.rule.gr.length cg,.int .i64 kd,.int .i64 (wtN r ch r.om.length),.int .i64 (r.rule.mean).kind,.string (r.rule.mean).name,.int .i64 (r.rule.mean).index,.string (r.rule.mean).type.base,.slice SA (r.rule.mean).type.args.length cs,.slice BA (r.rule.mean).args.length cb]∧Blk w' b32 4 (row 5 (fun k=> .bool (L k).isSome))∧Blk w' b33 44 csI∧Blk w' b15 44 #[.int .i64 ((xZ D (mT r.rule.mean L kd K))).kind,.string ((xZ D (mT r.rule.mean L kd K))).name,.int .i64 ((xZ D (mT r.rule.mean L kd K))).index,.string ((xZ D (mT r.rule.mean L kd K))).type.base,.slice S ((xZ D (mT r.rule.mean L kd K))).type.args.length csM,.slice B ((xZ D (mT r.rule.mean L kd K))).args.length cbM]∧TysK (lwS w0 L1) nQ w' A12 (qJ τ)∧TmG w0 L1 [b15] nM w' S B (xZ D (mT r.rule.mean L kd K))∧kpT L (qJ τ) K=kpT L (qJ τ) q ++ D) (K) ?_ (fun m g34 w38 hI=>?_)
 ·exact⟨K,nM,S,B,csM,cbM,[],Nat.le_refl _,rfl,congrArg (Value.int .i64) hKk,hB,hb2,hb4,hb5,hb32,hb33,hb15,hQ,hM,(List.append_nil _).symm⟩
 obtain⟨q,nM,S,B,csM,cbM,D,hq,hmq,h19,hB,hb2,hb4,hb5,hb32,hb33,hb15,hQ,hM,hkp⟩:=hI;refine zZ 19 _ h19 nu (zn7 ?_);refine zX rfl (fun c128=>?_) (fun c128=>?_)
 ·obtain⟨p,rfl⟩:∃ p,q=p + 1:=⟨q - 1,by omega⟩
  have hpA:p < (qJ τ).length:=by omega
  obtain⟨gA,Aσ,cσ,hAe,_,hgl,hrσ,hTσ⟩:=hQ.2 p hpA;refine zn8 ?_;refine wl (xk (i:=(p + 1)) QX vj rfl rfl oM rfl) (wl (qV (v:= .bool _) U4 rfl rfl (hb32.cell (yk oM))) (zn3 ?_));refine vK rfl (fun c135=>?_) (fun c135=>?_)
  ·have hno:L (p + 1)=none:=by
     cases h:L (p + 1) with
     | none=>rfl
     | some x=>rw [h] at c135;cases c135
   have hBk:Bel w38 w38:=Below.refl _ _;have hSσ:=(hTσ.hv (lo:=L1) (n:=nQ) (X:=[b15]) (w0:=w0) hQ.1 (fun b _ hS=>hS.1.imp id (fun h=>⟨h,hS.2,fun hm=>by have:=List.mem_singleton.1 hm;have:=hb15Q;have:=hS.2;omega⟩))).imp (fun _ h=>h (Kw.of (hB0.then hB)));have zz:b2 < w38.heap.size∧b4 < w38.heap.size∧b5 < w38.heap.size∧b15 < w38.heap.size∧b32 < w38.heap.size∧b33 < w38.heap.size:=⟨hb2.lt,hb4.lt,hb5.lt,hb15.lt,hb32.lt,hb33.lt⟩
   have hq1:=hQ.1;have hszR:=Bel.size hB;refine kz [] [8] [0,1,2,3,4,5,6,7,8] rfl (fun w39 q35=>?_);replace hQ:=hQ.tr q35 (by simp);refine hle rfl (fun _=>yq (v:= .slice _ _ _) rfl) (Z1 _ _ hAe) (zn1 ?_);refine hl rfl (fun _=>j8 (c:=((p:Nat):Int)) rfl rfl oM oM) (hl rfl (fun _=>xk (i:=p) U39 x9 rfl rfl hpA rfl) (hlS rfl U41 rfl rfl (hBk.u.range hgl hrσ) x9 (zn1 ?_)));refine h1 rfl ?_;refine qw (cs:=#[_,_,_,_,_,_]) [(0,.agg _)] rfl U42 qW jJ dE dE kR rfl (fun b142 w40 hb142 q36 hr=>?_);have:=nLL hb2.u.lt hr;have:=nLL hb4.u.lt hr;have:=nLL hb5.u.lt hr;have:=nLL hb32.u.lt hr;have:=nLL hb33.u.lt hr;have:=nLL hb15.u.lt hr;have or_hQ_b142:=(nLT hQ.1 hr)
   have hsH6:=q36;replace hQ:=hQ.tr q36 (by simp);refine zJ (M5 hsH6 (hl rfl (fun _=>Qz (v0:= .int _ _) (v1:= .agg _) (v2:= .slice _ _ _) (fun v0 v1 v2=>#[v0,.string ⟨#[]⟩,.int .i64 0,(qx v1 0),(qx v1 1),v2]) rfl rfl rfl kR) (h1 rfl ?_)));refine zk hb15.u rfl rfl qW rfl zQ (fun w41 hq q37=>?_);have hsH8:=q37;replace hQ:=hQ.tr q37 (fun g hg=> .inr (by rw [List.mem_singleton.1 hg];exact or_hQ_b15));replace hM:=hM.tr0 (q35.trans q36);replace hM:=hM.in1 q37 (by simp);replace hSσ:=hSσ.tr0 (q35.trans q36);replace hSσ:=hSσ.in1 q37 (by simp);replace hb15:=hq;replace hb142:=hb142.tr1 q37 oM;have hM2:TmG w0 L1 [b15] w41.heap.size w41 Aσ (some ⟨b142,0,none⟩) (xZ ((qJ τ)[p] :: D) (mT r.rule.mean L kd K)):=tmg_abs hM hSσ hb142 (nLT hLQ or_hQ_b142) (fun h=>by have:=List.mem_singleton.1 h;omega);refine zJ (V0 [] (zn5 ?_));refine wl (j8 (c:=((p:Nat):Int)) rfl rfl oM oM) (zn2 ?_);refine xv (p) oM agA ?_;replace hB:=(hB.tr0 (q35.trans q36)).tr1 q37 lo15;replace hb2:=(hb2.tr0 (q35.trans q36)).tr1 q37 oM;replace hb4:=(hb4.tr0 (q35.trans q36)).tr1 q37 oM;replace hb5:=(hb5.tr0 (q35.trans q36)).tr1 q37 oM;replace hb32:=(hb32.tr0 (q35.trans q36)).tr1 q37 oM;replace hb33:=(hb33.tr0 (q35.trans q36)).tr1 q37 oM
   first
    | exact⟨p,_,Aσ,some ⟨b142,0,none⟩,cσ,1,(qJ τ)[p] :: D,by omega,rfl,rfl,hB,hb2,hb4,hb5,hb32,hb33,hb15,hQ,hM2,by rw [hkp,FQ hno (List.getElem?_eq_getElem hpA),List.append_assoc];rfl⟩
    | exact⟨p,_,S,B,csM,cbM,D,by omega,rfl,rfl,hB,hb2,hb4,hb5,hb32,hb33,hb15,hQ,hM,by rw [hkp,Xw hso]⟩
  obtain⟨xq,hso⟩:∃ x,L (p + 1)=some x:=by
    cases h:L (p + 1) with
    | none=>rw [h] at c135;exact absurd c135 (by simp)
    | some x=>exact⟨x,rfl⟩
  refine zn5 ?_;refine wl (j8 (c:=((p:Nat):Int)) rfl rfl oM oM) (zn2 ?_);refine xv (p) oM agA ?_
  first
   | exact⟨p,_,Aσ,some ⟨b142,0,none⟩,cσ,1,(qJ τ)[p] :: D,by omega,rfl,rfl,hB,hb2,hb4,hb5,hb32,hb33,hb15,hQ,hM2,by rw [hkp,FQ hno (List.getElem?_eq_getElem hpA),List.append_assoc];rfl⟩
   | exact⟨p,_,S,B,csM,cbM,D,by omega,rfl,rfl,hB,hb2,hb4,hb5,hb32,hb33,hb15,hQ,hM,by rw [hkp,Xw hso]⟩
 obtain rfl:q=0:=by omega
 rw [show kpT L (qJ τ) 0= [] from rfl,List.nil_append] at hkp;subst hkp;refine zn9 ?_;refine uK hb5 rfl rfl qW (by first | decide | simp) zQ rfl (fun w42 hq q38=>?_);replace hQ:=hQ.tr q38 (fun g hg=> .inl (by rw [List.mem_singleton.1 hg];exact hq5));replace hM:=hM.lo1 q38 lT5;replace hb5:=hq;replace hb5:Blk w42 b5 54 #[.string (nmN r ch r.om.length),.slice G r.rule.gr.length cg,.int .i64 kd,.int .i64 (wtN r ch r.om.length),.int .i64 ((xZ (kpT L (qJ τ) K) (mT r.rule.mean L kd K))).kind,.string ((xZ (kpT L (qJ τ) K) (mT r.rule.mean L kd K))).name,.int .i64 ((xZ (kpT L (qJ τ) K) (mT r.rule.mean L kd K))).index,.string ((xZ (kpT L (qJ τ) K) (mT r.rule.mean L kd K))).type.base,.slice S ((xZ (kpT L (qJ τ) K) (mT r.rule.mean L kd K))).type.args.length csM,.slice B ((xZ (kpT L (qJ τ) K) (mT r.rule.mean L kd K))).args.length cbM]:=hb5;refine zn8 ?_;obtain⟨wC,hwC⟩:∃ z,z=w42:=⟨_,rfl⟩
 replace hb2:=hb2.tr1 q38 oM;replace hb4:=hb4.tr1 q38 oM;replace hb32:=hb32.tr1 q38 oM;replace hb33:=hb33.tr1 q38 oM;replace hb15:=hb15.tr1 q38 oM;have hlt:b2 < wC.heap.size∧b4 < wC.heap.size∧b5 < wC.heap.size∧b15 < wC.heap.size∧b32 < wC.heap.size∧b33 < wC.heap.size:=by rw [hwC];exact⟨hb2.lt,hb4.lt,hb5.lt,hb15.lt,hb32.lt,hb33.lt⟩
 replace hB:=hB.tr1 q38 lo5;have hwl:L1≤wC.heap.size∧nM≤wC.heap.size∧w.heap.size≤wC.heap.size:=by rw [hwC];exact⟨nLT hLQ hQ.1,hM.le,Bel.size hB⟩
 refine zV fn83 ((EY G cg r.rule.gr _ ((hP.g.mono hB0).mono hB) oM).mono (fun _ _ h=>And.intro (And.intro h.1 h.2) h.2)) rfl (fun e' w43 hr=>?_);obtain⟨⟨⟨A39,c39,vs,rfl,hO,hR⟩,hBC⟩,q39⟩:=hr;replace q39:=sB q39;replace hQ:=hQ.tr q39 (by simp);rw [← hwC] at hR hO hBC;have hlen:=hR.len;obtain⟨b39,cs9,rfl,lo_hBC_b39,hb39,hc9⟩:=EW hO (by rintro rfl;rw [hgr] at hlen;simp at hlen);have or_hM_b39:nM≤b39:=nLT hwl.2.1 lo_hBC_b39;have lo39:w.heap.size≤b39:=nLT hwl.2.2 lo_hBC_b39;have:=by omega
 have:=by omega
 have:=by omega
 have:=by omega
 rw [hgr] at hR;obtain⟨v9,_,⟨A0,c0,rfl,hlk0⟩,hv9⟩:=hR.get 0 (Nat.zero_lt_succ _);replace hlk0:LinksIn wC A0 n0.ln:=hlk0;replace hv9:∀ (j:Nat) (u:Value),([.int .i64 n0.ty,.slice A0 n0.ln.length c0]:List Value)[j]? =some u→vs[0 * 2 + j]? =some u:=hv9;have hmx0:=hlk0.1;unfold yJ at hmx0;refine⟨_,rfl,?_⟩;refine wl (ZY (v0:= .slice _ _ _) (fun v0=>#[v0]) rfl kR) ?_;refine qq (cs:=#[.slice none 0 0]) T4 rfl (fun b20 w44 hb20 q40 hr=>?_);have:=nLL hb2.u.lt hr;have:=nLL hb4.u.lt hr;have:=nLL hb5.u.lt hr;have:=nLL hb32.u.lt hr;replace hM:=hM.tr0 q39;have or_hM_b20:=(nLT hM.le hr)
 have:=nLL hb39.lt hr;have lo20:=nLT (Bel.size hB.u) hr;have lo_hBC_b20:=nLT (Bel.size hBC) hr;refine zk hb20 rfl rfl ZK rfl zQ (fun w45 hq q41=>?_);replace hM:=hM.tr0 q40;replace hM:=hM.tr q41 (fun g hg=> .inr (.inr (by rw [List.mem_singleton.1 hg];exact or_hM_b20)));replace hb20:=hq;refine zn8 ?_;obtain⟨nA,hnA⟩:∃ z,z=w45.heap.size:=⟨_,rfl⟩
 have hnM:nM≤nA:=by rw [hnA];exact hM.le
 replace hB:=(hB.tr0 (q39.trans q40)).tr1 q41 lo20;have lT:w.heap.size≤nA:=by rw [hnA];exact Bel.size hB
 replace hBC:=(hBC.tr0 q40).tr1 q41 lo_hBC_b20;have lTC:wC.heap.size≤nA:=by rw [hnA];exact Bel.size hBC
 replace hb39:=(hb39.tr0 q40).tr1 q41 oM;have lA39:b39 < nA:=by rw [hnA];exact hb39.lt
 have lA20:b20 < nA:=by rw [hnA];exact hb20.lt
 have lAx:b2 < nA∧b4 < nA∧b5 < nA∧b32 < nA:=by omega
 have hzN:nA≤w45.heap.size:=by rw [hnA];exact Nat.le_refl _
 clear hnA;refine zn9 ?_;refine wl (xk (i:=0) U28 kQ rfl rfl hgok.pos rfl) (zn1 ?_);refine wl (qV (v:= .slice _ _ _) u7 rfl rfl (hb39.cell (hc9 1 _ (hv9 1 _ rfl)))) (zn5 ?_);refine zW (rg [21,22,24,25] 158 33) (fun m g w'=>∃ (j c:Nat) (A21:Option Addr) (c21:Nat),j≤n0.ln.length∧m=n0.ln.length - j∧g 158= .int .i64 ((j:Nat):Int)∧g 22= .int .i64 ((j6 L c:Nat):Int)∧g 21= .slice A21 (lkR L K (n0.ln.take j)).length c21∧Bel w w'∧Blk w' b2 57 #[.string (r.rule).name,.slice G (r.rule).gr.length cg,.int .i64 (r.rule).kids,.int .i64 (r.rule).wt,.int .i64 ((r.rule).mean).kind,.string ((r.rule).mean).name,.int .i64 ((r.rule).mean).index,.string ((r.rule).mean).type.base,.slice SA ((r.rule).mean).type.args.length cs,.slice BA ((r.rule).mean).args.length cb,.slice OA r.om.length co]∧Blk w' b4 54 #[.string ⟨#[]⟩,.slice none 0 0,.int .i64 0,.int .i64 0,.int .i64 0,.string ⟨#[]⟩,.int .i64 0,.string ⟨#[]⟩,.slice none 0 0,.slice none 0 0]∧Blk w' b5 54 #[.string (nmN r ch r.om.length),.slice G r.rule.gr.length cg,.int .i64 kd,.int .i64 (wtN r ch r.om.length),.int .i64 ((xZ (kpT L (qJ τ) K) (mT r.rule.mean L kd K))).kind,.string ((xZ (kpT L (qJ τ) K) (mT r.rule.mean L kd K))).name,.int .i64 ((xZ (kpT L (qJ τ) K) (mT r.rule.mean L kd K))).index,.string ((xZ (kpT L (qJ τ) K) (mT r.rule.mean L kd K))).type.base,.slice S ((xZ (kpT L (qJ τ) K) (mT r.rule.mean L kd K))).type.args.length csM,.slice B ((xZ (kpT L (qJ τ) K) (mT r.rule.mean L kd K))).args.length cbM]∧Blk w' b32 4 (row 5 (fun k=> .bool (L k).isSome))∧Blk w' b39 113 cs9∧Blk w' b20 30 #[.slice (some ⟨b39,0,none⟩) r.rule.gr.length c39]∧Bel wC w'∧nA≤w'.heap.size∧Own w' nA 115 2 A21 (lkR L K (n0.ln.take j)).length c21 (lnV (lkR L K (n0.ln.take j)))∧TmG w0 L1 [b15] nM w' S B (xZ (kpT L (qJ τ) K) (mT r.rule.mean L kd K))∧NumI n0.ln K j c) (n0.ln.length) ?_ (fun m g43 w46 hI=>?_)
 ·exact⟨0,0,none,0,Nat.zero_le _,rfl,rfl,rfl,rfl,hB,hb2.u,hb4.u,hb5.u,hb32.u,hb39,hb20,hBC,hzN,Own.nil _ _ _ _,hM,NumI.zero _ _⟩
 obtain⟨j,c,A21,c21,hj,hmj,h158,h22,h21,hB,hb2,hb4,hb5,hb32,hb39,hb20,hBC,hzN,ho21,hM,hNu⟩:=hI;refine zZ 158 _ h158 nu (zZ 22 _ h22 nu (zZ 21 _ h21 nu (zn6 ?_)));refine zX rfl (fun c159=>?_) (fun c159=>?_)
 ·have hjl:j < n0.ln.length:=by omega
  obtain⟨f,hf⟩:∃ f:Nat,(n0.ln[j]).1=(f:Int):=⟨(n0.ln[j]).1.toNat,by have:=hnn _ (List.getElem_mem hjl);omega⟩
  obtain⟨tq,htq⟩:∃ z,(n0.ln[j]).2=z:=⟨_,rfl⟩
  have hx:n0.ln[j]=((f:Int),tq):=Prod.ext hf htq;obtain⟨lb,lq,hle,hlb,hlr⟩:=hlk0.at_ (Below.refl _ _:Bel wC wC) hjl;have hll:(lkR L K (n0.ln.take j)).length≤j:=nLT (N9 L K _) (by rw [List.length_take];omega);rw [hf,htq] at hlr;refine zn6 ?_;refine wl (xk (i:=j) u7 j7 (show ev _ _ _=_ from Z1 _ _ hle) rfl oM rfl) (wl (zY Zk rfl rfl (hBC.range hlb hlr) j7) ?_);refine qq (cs:=#[.int .i64 0,.int .i64 0]) gz rfl (fun b24 w47 hb24 q42 hr=>?_);have:=nLL hb2.lt hr;have:=nLL hb4.lt hr;have:=nLL hb5.lt hr;have:=nLL hb32.lt hr;have:=nLL hb39.lt hr;have:=nLL hb20.lt hr;have or_ho21_b24:=fun g hg=>nLL (ho21.lt g hg).2 hr
  have or_hM_b24:=(nLT hM.le hr)
  have lo24:=nLT (Bel.size hB) hr;have lo_hBC_b24:=nLT (Bel.size hBC) hr;replace hzN:=nLT hzN q42.size;refine zk hb24 rfl rfl j7 rfl zQ (fun w48 hq q43=>?_);replace ho21:=ho21.tr0 q42;replace ho21:=ho21.tr1 q43 (neL or_ho21_b24);replace hzN:=nLT hzN q43.size;replace hM:=hM.tr0 q42;replace hM:=hM.tr q43 (fun g hg=> .inr (.inr (by rw [List.mem_singleton.1 hg];exact or_hM_b24)));replace hb24:=hq;refine zn3 ?_;replace hB:=(hB.tr0 q42).tr1 q43 lo24;replace hb2:=(hb2.tr0 q42).tr1 q43 oM;replace hb4:=(hb4.tr0 q42).tr1 q43 oM;replace hb5:=(hb5.tr0 q42).tr1 q43 oM;replace hb32:=(hb32.tr0 q42).tr1 q43 oM;replace hBC:=(hBC.tr0 q42).tr1 q43 lo_hBC_b24;replace hb39:=(hb39.tr0 q42).tr1 q43 oM;replace hb20:=(hb20.tr0 q42).tr1 q43 oM;refine xJ (rg [25] 162 11) 25 (.bool (decide (1≤(f:Int)∧(f:Int)≤r.rule.kids))) nu ?_ (fun gq=>?_)
  ·refine zn5 ?_;refine zw 165 rfl (fun g165=>?_) (fun g165=>?_)
   ·refine ZX ?_;refine zJ (e_R ⟨rfl,agA,?_⟩);exact clA
   refine zn8 ?_;refine zJ (e_R ⟨rfl,agA,?_⟩);exact clA
  refine zn3 ?_;refine xJ (rg [] 173 8) 180 (.bool (decide ((1≤(f:Int)∧(f:Int)≤r.rule.kids)∧(L f).isSome=true))) nu ?_ (fun gq=>?_)
  ·refine zn3 ?_;refine zw 174 rfl (fun g174=>?_) (fun g174=>?_)
   ·refine zn9 ?_;refine wl (qV (v:= .bool _) U4 rfl rfl (hb32.cell (yk oM))) (zn1 ?_);refine zJ (e_R ⟨rfl,agA,?_⟩);show Value.bool _=Value.bool _
    first
     | exact congrArg Value.bool (dec_yes g174)
     | exact congrArg Value.bool (dec_no g174)
     | exact congrArg Value.bool (dec_no2 g174)
   refine zn6 ?_;refine zJ (e_R ⟨rfl,agA,?_⟩);show Value.bool _=Value.bool _
   first
    | exact congrArg Value.bool (dec_yes g174)
    | exact congrArg Value.bool (dec_no g174)
    | exact congrArg Value.bool (dec_no2 g174)
  refine e_S ?_;refine zX rfl (fun c180=>?_) (fun c180=>?_)
  ·have hI2:=NumI.yes hsrt hfull hNu hjl (by rw [hf];exact c180.1.1) (by rw [hf];omega);have hfc:f=c + 1:=by have:=hI2.1;rw [hf] at this;omega
   have hJ:NumI n0.ln K (j + 1) f:=by rw [hfc];exact hI2.2
   have hlk2:lkR L K (n0.ln.take (j + 1))=lkR L K (n0.ln.take j):=by
     rw [List.take_succ_eq_append_getElem hjl,hx,Xv,lk_left c180.1.1 (by show (f:Int)≤K;omega) rfl c180.2,List.append_nil]
   have hcn:j6 L f=j6 L c:=by
     obtain⟨xq,hso⟩:∃ x,L f=some x:=by
       cases h:L f with
       | none=>have:=c180.2;rw [h] at this;cases this
       | some x=>exact⟨x,rfl⟩
     rw [hfc] at hso ⊢;exact Nj hso
   refine zn8 ?_;refine xv (n0.ln.length - (j + 1)) oM agA ?_
   first
    | exact⟨j + 1,f,A21,c21,by omega,rfl,rfl,congrArg (fun n:Nat=>Value.int .i64 (n:Int)) hcn.symm,congrArg (fun n=>Value.slice A21 n c21) (by rw [hlk2]),hB,hb2,hb4,hb5,hb32,hb39,hb20,hBC,hzN,by rw [hlk2];exact ho21,hM,hJ⟩
    | exact⟨j + 1,f,_,_,by omega,rfl,rfl,rfl,by rw [hlk2,List.length_append];rfl,hB,hb2,hb4,hb5,hb32,hb39,hb20,hBC,hzN,by rw [hlk2,← u4,List.length_append];exact ho189,hM,hJ⟩
    | exact⟨j + 1,c,_,_,by omega,rfl,rfl,rfl,by rw [hlk2,List.length_append];rfl,hB,hb2,hb4,hb5,hb32,hb39,hb20,hBC,hzN,by rw [hlk2,← u4,List.length_append];exact ho189,hM,hJ⟩
  refine zn8 ?_;refine zX rfl (fun c181=>?_) (fun c181=>?_)
  ·have hI2:=NumI.yes hsrt hfull hNu hjl (by rw [hf];exact c181.1) (by rw [hf];omega);have hfc:f=c + 1:=by have:=hI2.1;rw [hf] at this;omega
   have hJ:NumI n0.ln K (j + 1) f:=by rw [hfc];exact hI2.2
   have hno:L f=none:=by
     cases h:L f with
     | none=>rfl
     | some x=>exact absurd ⟨c181,by rw [h];rfl⟩ c180
   have hlk2:lkR L K (n0.ln.take (j + 1))=lkR L K (n0.ln.take j) ++ [(((j6 L f:Nat):Int),tq)]:=by
     rw [List.take_succ_eq_append_getElem hjl,hx,Xv,lk_kept c181.1 (by show (f:Int)≤K;omega) rfl hno]
   have hcn:j6 L f=j6 L c + 1:=by rw [hfc] at hno ⊢;exact SV hno
   have hcl:=Qk L c;have hcc:=hNu.le;refine zn3 ?_;refine wl (Z9 (c:=((j6 L f:Nat):Int)) rfl rfl (by rw [hcn];omega) oM) (zn6 ?_);refine xz (v:= .int _ _) hb24 rfl rfl qX (by first | decide | simp) rfl rfl (fun w49 hq q44=>?_);replace ho21:=ho21.tr1 q44 (neL or_ho21_b24);replace hzN:=nLT hzN q44.size;replace hM:=hM.tr q44 (fun g hg=> .inr (.inr (by rw [List.mem_singleton.1 hg];exact or_hM_b24)));replace hb24:=hq;replace hb24:Blk w49 b24 115 #[.int .i64 ((j6 L f:Nat):Int),.int .i64 tq]:=hb24;refine zn5 ?_;refine qw (cs:=#[_,_]) [(0,.agg _)] rfl u7 j7 gz dE dE kR rfl (fun b188 w50 hb188 q45 hr=>?_);have:=nLL hb2.u.lt hr;have:=nLL hb4.u.lt hr;have:=nLL hb5.u.lt hr;have:=nLL hb32.u.lt hr;have:=nLL hb39.u.lt hr;have:=nLL hb20.u.lt hr;replace hzN:=nLT hzN q45.size;replace ho21:=ho21.tr0 q45;refine vX u7 DQ rfl dE ho21 hb188 rfl rfl rfl zQ dE oM oM hzN (fun g189 cap189 w51 ho189 q46 hg=>?_);have ne_ho189_b2:g189≠b2:=neA ho21 hb2.u.lt hg
   have ne_ho189_b4:g189≠b4:=neA ho21 hb4.u.lt hg
   have ne_ho189_b5:g189≠b5:=neA ho21 hb5.u.lt hg
   have ne_ho189_b32:g189≠b32:=neA ho21 hb32.u.lt hg
   have ne_ho189_b39:g189≠b39:=neA ho21 hb39.u.lt hg
   have ne_ho189_b20:g189≠b20:=neA ho21 hb20.u.lt hg
   have ne_ho189_b24:g189≠b24:=neB hb24.u.lt hg (neL or_ho21_b24)
   replace hB:=hB.u.tr q46 (fun g hg=>nLT oM (ho21.lt g hg).1);replace hb2:=(hb2.tr1 q44 oM).tr0 q45;replace hb2:=hb2.ta q46 ho21;replace hb4:=(hb4.tr1 q44 oM).tr0 q45;replace hb4:=hb4.ta q46 ho21;replace hb5:=(hb5.tr1 q44 oM).tr0 q45;replace hb5:=hb5.ta q46 ho21;replace hb32:=(hb32.tr1 q44 oM).tr0 q45;replace hb32:=hb32.ta q46 ho21;replace hBC:=hBC.u.tr q46 (fun g hg=>nLT oM (ho21.lt g hg).1);replace hb39:=(hb39.tr1 q44 oM).tr0 q45;replace hb39:=hb39.ta q46 ho21;replace hb20:=(hb20.tr1 q44 oM).tr0 q45;replace hb20:=hb20.ta q46 ho21;replace hzN:=nLT hzN q46.size;replace hM:=hM.tr0 q45;replace hM:=hM.tr q46 (fun g hg=> .inr (.inr (nLT hnM (ho21.lt g hg).1)));refine zn8 ?_;refine xv (n0.ln.length - (j + 1)) oM agA ?_
   first
    | exact⟨j + 1,f,A21,c21,by omega,rfl,rfl,congrArg (fun n:Nat=>Value.int .i64 (n:Int)) hcn.symm,congrArg (fun n=>Value.slice A21 n c21) (by rw [hlk2]),hB,hb2,hb4,hb5,hb32,hb39,hb20,hBC,hzN,by rw [hlk2];exact ho21,hM,hJ⟩
    | exact⟨j + 1,f,_,_,by omega,rfl,rfl,rfl,by rw [hlk2,List.length_append];rfl,hB,hb2,hb4,hb5,hb32,hb39,hb20,hBC,hzN,by rw [hlk2,← u4,List.length_append];exact ho189,hM,hJ⟩
    | exact⟨j + 1,c,_,_,by omega,rfl,rfl,rfl,by rw [hlk2,List.length_append];rfl,hB,hb2,hb4,hb5,hb32,hb39,hb20,hBC,hzN,by rw [hlk2,← u4,List.length_append];exact ho189,hM,hJ⟩
  have hJ:NumI n0.ln K (j + 1) c:=hNu.no hjl (by rw [hf];omega);have hlk2:lkR L K (n0.ln.take (j + 1))=lkR L K (n0.ln.take j) ++ [((f:Int),tq)]:=by
    rw [List.take_succ_eq_append_getElem hjl,hx,Xv,lk_in (by show ¬(1≤(f:Int)∧(f:Int)≤K);omega)]
  refine zn5 ?_;refine qw (cs:=#[_,_]) [(0,.agg _)] rfl u7 j7 gz dE dE kR rfl (fun b188 w52 hb188 q47 hr=>?_);have:=nLL hb2.lt hr;have:=nLL hb4.lt hr;have:=nLL hb5.lt hr;have:=nLL hb32.lt hr;have:=nLL hb39.lt hr;have:=nLL hb20.lt hr;replace hzN:=nLT hzN q47.size;replace ho21:=ho21.tr0 q47;refine vX u7 DQ rfl dE ho21 hb188 rfl rfl rfl zQ dE oM oM hzN (fun g189 cap189 w53 ho189 q48 hg=>?_);have ne_ho189_b2:g189≠b2:=neA ho21 hb2.u.lt hg
  have ne_ho189_b4:g189≠b4:=neA ho21 hb4.u.lt hg
  have ne_ho189_b5:g189≠b5:=neA ho21 hb5.u.lt hg
  have ne_ho189_b32:g189≠b32:=neA ho21 hb32.u.lt hg
  have ne_ho189_b39:g189≠b39:=neA ho21 hb39.u.lt hg
  have ne_ho189_b20:g189≠b20:=neA ho21 hb20.u.lt hg
  have ne_ho189_b24:g189≠b24:=neB hb24.u.lt hg (neL or_ho21_b24)
  replace hB:=hB.u.tr q48 (fun g hg=>nLT oM (ho21.lt g hg).1);replace hb2:=hb2.tr0 q47;replace hb2:=hb2.ta q48 ho21;replace hb4:=hb4.tr0 q47;replace hb4:=hb4.ta q48 ho21;replace hb5:=hb5.tr0 q47;replace hb5:=hb5.ta q48 ho21;replace hb32:=hb32.tr0 q47;replace hb32:=hb32.ta q48 ho21;replace hBC:=hBC.u.tr q48 (fun g hg=>nLT oM (ho21.lt g hg).1);replace hb39:=hb39.tr0 q47;replace hb39:=hb39.ta q48 ho21;replace hb20:=hb20.tr0 q47;replace hb20:=hb20.ta q48 ho21;replace hzN:=nLT hzN q48.size;replace hM:=hM.tr0 q47;replace hM:=hM.tr q48 (fun g hg=> .inr (.inr (nLT hnM (ho21.lt g hg).1)));refine zn8 ?_;refine xv (n0.ln.length - (j + 1)) oM agA ?_
  first
   | exact⟨j + 1,f,A21,c21,by omega,rfl,rfl,congrArg (fun n:Nat=>Value.int .i64 (n:Int)) hcn.symm,congrArg (fun n=>Value.slice A21 n c21) (by rw [hlk2]),hB,hb2,hb4,hb5,hb32,hb39,hb20,hBC,hzN,by rw [hlk2];exact ho21,hM,hJ⟩
   | exact⟨j + 1,f,_,_,by omega,rfl,rfl,rfl,by rw [hlk2,List.length_append];rfl,hB,hb2,hb4,hb5,hb32,hb39,hb20,hBC,hzN,by rw [hlk2,← u4,List.length_append];exact ho189,hM,hJ⟩
   | exact⟨j + 1,c,_,_,by omega,rfl,rfl,rfl,by rw [hlk2,List.length_append];rfl,hB,hb2,hb4,hb5,hb32,hb39,hb20,hBC,hzN,by rw [hlk2,← u4,List.length_append];exact ho189,hM,hJ⟩
 have hje:j=n0.ln.length:=by omega
 refine yv ?_;refine wl (xk (i:=0) U28 kQ rfl rfl hgok.pos rfl) (zn1 ?_);refine xz (v:= .slice _ _ _) hb39 rfl rfl Ez (Array.getElem?_eq_some_iff.1 (hc9 1 _ (hv9 1 _ rfl))).1 rfl (show cs9.setIfInBounds (0 + 0 * 2 + 1) _=cs9.setIfInBounds 1 _ from rfl) (fun w54 hq q49=>?_);replace ho21:=ho21.tq q49;replace hzN:=nLT hzN q49.size;replace hM:=hM.tr q49 (fun g hg=> .inr (.inr (by rw [List.mem_singleton.1 hg];exact or_hM_b39)));replace hb39:=hq;have hN:NodesIn w54 (some ⟨b39,0,none⟩) (grR L K r.rule.gr):=by
   rw [hje,List.take_length] at ho21;rw [hgr];replace hBC:=hBC.tr1 q49 lo_hBC_b39;exact Dk hb39 (by rw [hje,List.take_length]) hc9 hR hBC (M0 ho21) (by rw [← hgr];exact hP.g.1)
 refine zn5 ?_;replace hB:=hB.tr1 q49 lo39;have hszv:=Bel.size hB;replace hb5:=hb5.tr1 q49 oM;have z5:=hb5.lt;replace hb4:=hb4.tr1 q49 oM;have z4:=hb4.lt;refine zV fn36 (rcanq_hv _ r.rule.gr.length c39 fs.length (grR L K r.rule.gr) _ hN (grR_len L K _) (grR_ok L hgok.two) oM) rfl (fun e' w55 hr=>?_);obtain⟨⟨A5,c5,rfl,hz5⟩,q50⟩:=hr;replace q50:=sB q50;replace hzN:=nLT hzN q50.size;refine⟨_,rfl,?_⟩;refine zn1 ?_;replace hb5:=hb5.tr0 q50;refine uK hb5 rfl rfl ZK (by first | decide | simp) zQ rfl (fun w56 hq q51=>?_);replace hzN:=nLT hzN q51.size;replace hM:=hM.tr0 q50;replace hM:=hM.lo1 q51 lT5;replace hz5:=hz5.lo1 q51 z5;replace hb5:=hq;replace hb5:Blk w56 b5 54 #[.string (nmN r ch r.om.length),.slice A5 (Vk (grR L K r.rule.gr)).length c5,.int .i64 kd,.int .i64 (wtN r ch r.om.length),.int .i64 ((xZ (kpT L (qJ τ) K) (mT r.rule.mean L kd K))).kind,.string ((xZ (kpT L (qJ τ) K) (mT r.rule.mean L kd K))).name,.int .i64 ((xZ (kpT L (qJ τ) K) (mT r.rule.mean L kd K))).index,.string ((xZ (kpT L (qJ τ) K) (mT r.rule.mean L kd K))).type.base,.slice S ((xZ (kpT L (qJ τ) K) (mT r.rule.mean L kd K))).type.args.length csM,.slice B ((xZ (kpT L (qJ τ) K) (mT r.rule.mean L kd K))).args.length cbM]:=hb5;refine zn5 ?_;refine zk hb4.u rfl rfl yQ rfl zQ (fun w57 hq q52=>?_);replace hzN:=nLT hzN q52.size;replace hM:=hM.lo1 q52 lT4;replace hz5:=hz5.lo1 q52 z4;replace hb4:=hq;refine zn3 ?_;refine x7 (.inl rfl) rfl (zy U54 rfl rfl hb4.range0 yQ) ?_;replace hB:=((hB.tr0 q50).tr1 q51 lo5).tr1 q52 lo4;exact⟨⟨A5,S,B,c5,csM,cbM,by rw [Ky hany hL hKk hkd],by rw [Ky hany hL hKk hkd];exact((hz5.mono hszv hz5.le (Nat.le_refl _)).and (hM.nil.mono lLw hM.le (Nat.le_refl _))).imp (fun _ h hk=>⟨h.1,(h.2 hk).1,(h.2 hk).2⟩)⟩,hB⟩
end Go.Proofs.YtbcpgfnfiekbiaaGreatDoor
