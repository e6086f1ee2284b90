/- What these functions of the program compute, at every world: glosswright/optional.reduce. -/
import Derived.Test.YtbcpgfnfiekbiaaGreatDoorU
import Derived.Test.YtbcpgfnfiekbiaaGreatDoorTrm
import Derived.Test.YtbcpgfnfiekbiaaGreatDoorORe
import Derived.Test.YtbcpgfnfiekbiaaGreatDoorOBk
import Derived.Test.YtbcpgfnfiekbiaaGreatDoorOpr
namespace Go.Proofs.YtbcpgfnfiekbiaaGreatDoor
open Go.RowKit
def kW (c:Nat) (i:Nat):Bool:=decide (c / 2 ^ i % 2=1)
theorem Ww:∀ n,XX (kW 0) n=false
  | 0=>rfl
  | n + 1=>by rw [XX,Ww n];simp [kW]
theorem bit_any {c:Nat} (h0:¬c=0):∀ n,c < 2 ^ n→XX (kW c) n=true
  | 0,h=>absurd (by omega:c=0) h0
  | n + 1,h=>by
    rw [XX]
    by_cases e:c / 2 ^ n % 2=1
    · rw [show kW c n=true from decide_eq_true e,Bool.or_true]
    · have h2:c / 2 ^ n < 2:=(Nat.div_lt_iff_lt_mul (Nat.two_pow_pos n)).2 (by rw [Nat.pow_succ] at h;omega)
      have h3:c / 2 ^ n=0:=(by omega:∀ q:Nat,¬q % 2=1→q < 2→q=0) _ e h2
      have h4:c < 2 ^ n:=by
        rcases Nat.div_eq_zero_iff.1 h3 with h | h
        · have:=Nat.two_pow_pos n;omega
        · exact h
      rw [bit_any h0 n h4,Bool.true_or]
theorem Sj {L:Nat→Option Tm} {As:List Ts}:∀ k,k≤As.length→(kpT L As k).length=j6 L k
  | 0,_=>rfl
  | k + 1,h=>by
    have ih:=Sj (L:=L) (As:=As) k oM
    cases e:L (k + 1) with
    | some x=>rw [Xw e,Nj e,ih]
    | none=>rw [FQ e (List.getElem?_eq_getElem oM),SV e,List.length_append,ih];rfl
theorem Ok {L L':Nat→Option Tm}:∀ k,(∀ j,j≤k→L' j=L j)→j6 L' k=j6 L k
  | 0,_=>rfl
  | k + 1,h=>by rw [j6,j6,Ok k (fun j hj=>h j oM),h (k + 1) (Nat.le_refl _)]
theorem Wj {L L':Nat→Option Tm} {q:Nat} (h:∀ j,j≠q→L' j=L j):∀ k,j6 L k≤j6 L' k + 1
  | 0=>Nat.zero_le _
  | k + 1=>by
    by_cases e:k + 1=q
    · have h1:=Ok (L:=L) (L':=L') k (fun j hj=>h j oM)
      rw [j6,j6,h1]
      split <;> split <;> omega
    · have h1:=Wj h k
      rw [j6,j6,h (k + 1) e]
      omega
theorem C3:∀ k,j6 (fun _=>none) k=k
  | 0=>rfl
  | k + 1=>by rw [j6,C3 k];rfl
theorem Wx {l:List Ty} {fs:List Ft} {r:Orl} (h:OrK l fs r) (ch:Nat→Bool) (K:Nat):∀ n,n≤r.om.length→K≤j6 (lfN r ch n) K + n
  | 0,_=>by rw [show lfN r ch 0=fun _=>none from rfl,C3];exact Nat.le_refl _
  | n + 1,hn=>by
    have ih:=Wx h ch K n oM
    cases hc:ch n with
    | false=>rw [J5 oM hc];omega
    | true=>
      have hk:=h.kid (i:=n) oM
      have:=Wj (L:=lfN r ch n) (L':=lfN r ch (n + 1)) (q:=(r.om[n]).kid.toNat) (fun j hj=>by
        rw [lf_at (kd:=(r.om[n]).kid.toNat) oM hc oM,if_neg hj]) K
      omega
theorem nu_row {L:Nat→Option Tm} {n k m:Nat} (h:L (k + 1)=none) (hm:m=j6 L (k + 1)):row n (fun j=>if j=k + 1 then Value.int .i64 (m:Int) else .int .i64 (nuK L k j))=row n (fun j=> .int .i64 (nuK L (k + 1) j)):=by
  rw [nu_no h,hm]
  congr 1
  funext j
  show _=Value.int .i64 (if j=k + 1 then _ else _);by_cases e:j=k + 1
  · rw [if_pos e,if_pos e]
  · rw [if_neg e,if_neg e]
theorem args_at {w:World} {l:List Ts} {K g:Nat} (h:SimsIn w (some ⟨g,0,none⟩) ((l.take K).map Ts.sm)) (hK:K≤l.length) (p:Nat) (hp:p < K):∃ A' c',g < w.heap.size∧w.rangeAt g (0 + p * 2) [.string (l[p]'oM).sm.base,.slice A' (l[p]'oM).sm.args.length c']∧SimsIn w A' (l[p]'oM).sm.args:=by
  have hl:p < ((l.take K).map Ts.sm).length:=by rw [List.length_map,List.length_take];omega
  obtain⟨b,o,A',c',e,h1,h2,h3⟩:=h.at_ hl;cases e;rw [List.getElem_map,List.getElem_take] at h2 h3;exact⟨A',c',h1,h2,h3⟩
theorem om_part {w:World} {b o:Nat} {a d:Value} {xs:List Value} (h:w.rangeAt b o (a :: d :: xs)):w.rangeAt b (o + 2) xs:=fun j v hj=>by
  have:=h (j + 2) v hj
  rwa [show o + (j + 2)=o + 2 + j by omega] at this
theorem tApp_K {m x:Tm} (h1:TmK m) (h2:TmK x):TmK (tApp m x):= .mk smZ_K (by show 2≤1000;decide) (fun z h=>by
  rcases List.mem_cons.1 h with rfl | h
  · exact h1
  · rw [List.mem_singleton.1 h];exact h2)
theorem tVar_K (v:Int):TmK (tVar v):= .mk smZ_K (Nat.zero_le _) (fun z h=>by cases h)
theorem Gq {m:Tm} (h:TmK m):∀ l:List Ts,TmK (xZ l m)
  | []=>h
  | σ :: l=> .mk σ.smK (by show 1≤1000;decide) (fun z hz=>by rw [List.mem_singleton.1 hz];exact Gq h l)
theorem mT_K {m0:Tm} {L:Nat→Option Tm} {nk:Int} (h:TmK m0) (hL:∀ k x,L k=some x→TmK x):∀ k,TmK (mT m0 L nk k)
  | 0=>h
  | k + 1=>by
    cases e:L (k + 1) with
    | none=>rw [Fv e];exact tApp_K (mT_K h hL k) (tVar_K _)
    | some x=>rw [O0 e];exact tApp_K (mT_K h hL k) (hL _ _ e)
theorem lfN_K {l:List Ty} {fs:List Ft} {r:Orl} (h:OrK l fs r) (ch:Nat→Bool):∀ n,n≤r.om.length→∀ k x,lfN r ch n k=some x→TmK x
  | 0,_,k,x,e=>by cases e
  | n + 1,hn,k,x,e=>by
    cases hc:ch n with
    | false=>rw [lf_no oM hc] at e;exact lfN_K h ch n oM k x e
    | true=>
      rw [LX oM hc] at e
      by_cases hk:(k:Int)=(r.om[n]).kid
      · rw [if_pos hk] at e
        cases e
        exact tmF_K (h.ok n oM).2.2.1
      · rw [if_neg hk] at e
        exact lfN_K h ch n oM k x e
theorem fcanq_any (G:Option Addr) (n cg nf:Nat) (gr:List Nd) (w:World) (hG:NodesIn w G gr) (hn:gr.length=n) (hk:Vv nf gr) (hnf:nf≤1000):Calls Tryz.prog 79 #[.agg #[.slice G n cg],.int .i64 0] w fun e w'=>(∃ A c,e= .returned (.agg #[.slice A (Vk gr).length c])∧Hv w.heap.size [] w'.heap.size w' (fun w=>NodesIn w A (Vk gr)))∧Bel w w':=by
  subst hn;exact(DJ G cg nf gr 0 w hG hk hnf hk.pos).mono fun e w' h=>by
    obtain⟨⟨o,A,hD,_,he,hN⟩,hs⟩:=h;have e1:Vk gr=jY gr o:=by unfold Vk;rw [BZ hD]
    rw [e1];exact⟨⟨A,o.length,by rw [he,oK],Hv.fr hN⟩,hs⟩
theorem fn114:zK Tryz.prog 114=true:=by kernel_rfl
theorem fn82:zK Tryz.prog 82=true:=by kernel_rfl
theorem in138:(Tryz.prog.info? 138).map (fun i=>(i.zero,i.size,i.bytes))=some (some (.pointer none),1,8):=by kernel_rfl
theorem sz138:(Tryz.prog.info? 138).map (·.size)=some 1:=by kernel_rfl
set_option maxRecDepth 100000 in
set_option maxHeartbeats 8000000 in
theorem HK (l:List Ty) (fs:List Ft) (r:Orl) (c:Nat) (ch:Nat→Bool) (hch:ch=kW c) {v:Tv} {τ:Ts} (w:World) (hc2:c < 2 ^ r.om.length) (hh0:(qZ l fs).1=0) (hK:OrK l fs r) (hm:TyIs r.rule.mean v τ) (G SA BA OA:Option Addr) (cg cs cb co:Nat) (hP:OrP w r G SA BA OA):Calls Tryz.prog 43 #[.agg #[.string (r.rule).name,.slice G (r.rule).gr.length cg,.int .i64 (r.rule).kids,.int .i64 (r.rule).wt,.int .i64 ((r.rule).mean).kind,.string ((r.rule).mean).name,.int .i64 ((r.rule).mean).index,.string ((r.rule).mean).type.base,.slice SA ((r.rule).mean).type.args.length cs,.slice BA ((r.rule).mean).args.length cb,.slice OA r.om.length co],.int .i64 (c:Int)] w fun e w'=>(∃ (G5 S5 B5:Option Addr) (g5 s5 t5:Nat),e= .returned (.agg #[.string ((kX l fs r (qJ τ) ch)).name,.slice G5 ((kX l fs r (qJ τ) ch)).gr.length g5,.int .i64 ((kX l fs r (qJ τ) ch)).kids,.int .i64 ((kX l fs r (qJ τ) ch)).wt,.int .i64 (((kX l fs r (qJ τ) ch)).mean).kind,.string (((kX l fs r (qJ τ) ch)).mean).name,.int .i64 (((kX l fs r (qJ τ) ch)).mean).index,.string (((kX l fs r (qJ τ) ch)).mean).type.base,.slice S5 (((kX l fs r (qJ τ) ch)).mean).type.args.length s5,.slice B5 (((kX l fs r (qJ τ) ch)).mean).args.length t5])∧Hv w.heap.size [] w'.heap.size w' (fun w2=>NodesIn w2 G5 (kX l fs r (qJ τ) ch).gr∧SimsIn w2 S5 (kX l fs r (qJ τ) ch).mean.type.args∧TmsIn w2 B5 (kX l fs r (qJ τ) ch).mean.args))∧Bel w w':=by
 have hmo:=hP.o.1;unfold yJ at hmo;have hkds:=hK.kids;have hfew:=hK.few;have hns:=Dv hK.nm;have hg0:=(ZW hh0 hK.rf).1;have hmK:=(ZW hh0 hK.rf).2;obtain⟨K,hKk⟩:∃ K:Nat,r.rule.kids=(K:Int):=⟨r.rule.kids.toNat,by omega⟩
 have hc4:c < 4:=nLL hc2 (Nat.pow_le_pow_right dE (by omega:r.om.length≤2));refine enterM Tryz.func43 Tryz.ntmps43 rfl (Nat.le_of_ble_eq_true rfl) ?_;have hB:Bel w w:=Below.refl _ _;refine zn2 ?_;refine x6 (v:= .agg #[_,_,_,_,_,_,_,_,_,_,_]) (cs:=#[_,_,_,_,_,_,_,_,_,_,_]) rfl rfl (fun b2 w1 hb2 q1 hr=>?_);have lo2:=nLT (Bel.size hB) hr;refine qq (cs:=#[.string ⟨#[]⟩,.slice none 0 0,.int .i64 0,.int .i64 0,.int .i64 0,.string ⟨#[]⟩,.int .i64 0,.string ⟨#[]⟩,.slice none 0 0,.slice none 0 0]) oq rfl (fun b4 w2 hb4 q2 hr=>?_);have:=nLL hb2.lt hr;have lo4:=nLT (Bel.size hB.u) hr;refine ky ?_;refine wl (Qz (v0:= .string _) (v1:= .int _ _) (v2:= .int _ _) (fun v0 v1 v2=>#[v0,.slice none 0 0,v1,v2,.int .i64 0,.string ⟨#[]⟩,.int .i64 0,.string ⟨#[]⟩,.slice none 0 0,.slice none 0 0]) rfl rfl rfl kR) ?_;refine qq (cs:=#[.string ⟨#[]⟩,.slice none 0 0,.int .i64 0,.int .i64 0,.int .i64 0,.string ⟨#[]⟩,.int .i64 0,.string ⟨#[]⟩,.slice none 0 0,.slice none 0 0]) oq rfl (fun b5 w3 hb5 q3 hr=>?_);have:=nLL hb2.u.lt hr;have:=nLL hb4.lt hr;have lo5:=nLT (Bel.size hB.u) hr;refine zk hb5 rfl rfl yQ rfl zQ (fun w4 hq q4=>?_);replace hb5:=hq;refine zn9 ?_;refine zX rfl (fun c32=>?_) (fun c32=>?_)
 ·have hany:XX ch r.om.length=false:=by
    obtain rfl:c=0:=by omega
    rw [hch];exact Ww _
  refine yj ?_;have z5:=hb5.lt;replace hb4:=(hb4.tr0 q3).tr1 q4 oM;have z4:=hb4.lt;replace hb2:=(hb2.tr0 (q2.trans q3)).tr1 q4 oM;have z2:=hb2.lt;replace hB:=(hB.tr0 (q1.trans (q2.trans q3))).tr1 q4 lo5;have hsz:=Bel.size hB;refine kz [] [9,11] [0,1,2,4,5,6,3,8,7,9,10,11] rfl (fun w5 q5=>?_);have hs0:=q5;refine zn2 ?_;refine hlS rfl U30 rfl rfl (hb2.u.sub (n:=1) (xs:=[_]) rfl) ZK (zn2 ?_);refine hlS rfl U44 rfl rfl (hb2.u.sub (n:=6) (xs:=[_,_,_,_,_,_]) rfl) qW ?_;refine hcl (fun v wv=>∃ A5 c5 n5,v= .agg #[.slice A5 (J8 l fs r.rule.gr).length c5]∧Hv w4.heap.size [] n5 wv (fun w=>NodesIn w A5 (J8 l fs r.rule.gr))) rfl fn79 (fcan_any G cg l fs r.rule.gr w5 (hP.g.mono hB.u) hg0) rfl (fun e' w2 hr=>?_) (fun v36 w6 q6 d36=>?_)
  ·obtain⟨⟨A5,c5,rfl,hz5⟩,q7⟩:=hr;exact⟨_,rfl,sB q7,⟨A5,c5,_,rfl,hz5.mono hs0.size (Nat.le_refl _) (Nat.le_refl _)⟩⟩
  obtain⟨A5,c5,n5,e36,hz5⟩:=d36;subst e36;refine zn1 ?_;refine hcl (fun v wv=>∃ S8 s8 B8 c8 n8,v= .agg #[.int .i64 (r.rule.mean).kind,.string (r.rule.mean).name,.int .i64 (r.rule.mean).index,.string (r.rule.mean).type.base,.slice S8 (r.rule.mean).type.args.length s8,.slice B8 (r.rule.mean).args.length c8]∧Hv w4.heap.size [] n8 wv (fun w=>SimsIn w S8 r.rule.mean.type.args∧TmsIn w B8 r.rule.mean.args)) rfl fn80 (E2 hmK SA BA cs cb w6 (hP.s.mono hB.u) (hP.t.mono hB.u)) rfl (fun e' w2 hr=>?_) (fun v40 w7 q8 d40=>?_)
  ·obtain⟨⟨S8,s8,B8,c8,rfl,hz8⟩,q9⟩:=hr;replace hs0:=hs0.trans q6;exact⟨_,rfl,sB q9,⟨S8,s8,B8,c8,_,rfl,hz8.mono hs0.size (Nat.le_refl _) (Nat.le_refl _)⟩⟩
  obtain⟨S8,s8,B8,c8,n8,e40,hz8⟩:=d40;subst e40;refine h1 rfl ?_;replace hb5:=hb5.tr0 (q5.trans (q6.trans q8));refine uK hb5 rfl rfl ZK (by first | decide | simp) zQ rfl (fun w8 hq q10=>?_);have hsH9:=q10;replace hz5:=hz5.tr0 q8;replace hz5:=hz5.lo1 q10 z5;replace hz8:=hz8.lo1 q10 z5;replace hb5:=hq;replace hb5:Blk w8 b5 54 #[.string r.rule.name,.slice A5 (J8 l fs r.rule.gr).length c5,.int .i64 r.rule.kids,.int .i64 r.rule.wt,.int .i64 0,.string ⟨#[]⟩,.int .i64 0,.string ⟨#[]⟩,.slice none 0 0,.slice none 0 0]:=hb5;refine zJ (V0 [11] (zn1 ?_));refine h1 rfl ?_;refine uK hb5 rfl rfl qW (by first | decide | simp) zQ rfl (fun w9 hq q11=>?_);have hsH11:=q11;replace hz5:=hz5.lo1 q11 z5;replace hz8:=hz8.lo1 q11 z5;replace hb5:=hq;replace hb5:Blk w9 b5 54 #[.string r.rule.name,.slice A5 (J8 l fs r.rule.gr).length c5,.int .i64 r.rule.kids,.int .i64 r.rule.wt,.int .i64 (r.rule.mean).kind,.string (r.rule.mean).name,.int .i64 (r.rule.mean).index,.string (r.rule.mean).type.base,.slice S8 (r.rule.mean).type.args.length s8,.slice B8 (r.rule.mean).args.length c8]:=hb5;refine zJ (V0 [] (zn5 ?_));refine zk hb4.u rfl rfl yQ rfl zQ (fun w10 hq q12=>?_);replace hz5:=hz5.lo1 q12 z4;replace hz8:=hz8.lo1 q12 z4;replace hb4:=hq;refine zn4 ?_;refine fin1N (.inl rfl) rfl (zy U54 rfl rfl hb4.range0 yQ) ?_;replace hB:=(((hB.tr0 (q5.trans (q6.trans q8))).tr1 q10 lo5).tr1 q11 lo5).tr1 q12 lo4;exact⟨⟨A5,S8,B8,c5,s8,c8,by rw [EQ hany],by rw [EQ hany];exact((hz5.and hz8).mono hsz (Nat.le_refl _) (Nat.le_refl _)).imp (fun _ h=>⟨h.1,h.2.1,h.2.2⟩)⟩,hB⟩
 replace c32:¬c=0:=by omega
 refine zn7 ?_;refine wl (Z9 (c:=((K + 1:Nat):Int)) rfl rfl oM oM) ?_;refine gv (m:=(K + 1)) U136 in138 rfl rfl rfl oM oM (fun b48 w11 hb48 q13 hr=>?_);have:=nLL hb2.u.lt hr;have:=nLL hb4.u.lt hr;have:=nLL hb5.lt hr;have lo48:=nLT (Bel.size hB.u) hr;refine zn7 ?_;refine wl (YX rfl rfl (by show r.rule.name.size + 1≤_;omega)) (zn1 ?_);replace hb5:=hb5.tr0 q13;refine xz (v:= .string _) hb5 rfl rfl V6 (by first | decide | simp) rfl rfl (fun w12 hq q14=>?_);replace hb5:=hq;refine yZ ?_;refine zW (rg [7,8] 56 37) (fun m g w'=>∃ (i:Nat) (csP:Array Value),i≤r.om.length∧m=r.om.length - i∧g 56= .int .i64 i∧Bel w w'∧Blk w' b2 57 #[.string (r.rule).name,.slice G (r.rule).gr.length cg,.int .i64 (r.rule).kids,.int .i64 (r.rule).wt,.int .i64 ((r.rule).mean).kind,.string ((r.rule).mean).name,.int .i64 ((r.rule).mean).index,.string ((r.rule).mean).type.base,.slice SA ((r.rule).mean).type.args.length cs,.slice BA ((r.rule).mean).args.length cb,.slice OA r.om.length co]∧Blk w' b4 54 #[.string ⟨#[]⟩,.slice none 0 0,.int .i64 0,.int .i64 0,.int .i64 0,.string ⟨#[]⟩,.int .i64 0,.string ⟨#[]⟩,.slice none 0 0,.slice none 0 0]∧Blk w' b5 54 #[.string (nmN r ch i),.slice none 0 0,.int .i64 (kdN r ch i),.int .i64 (wtN r ch i),.int .i64 0,.string ⟨#[]⟩,.int .i64 0,.string ⟨#[]⟩,.slice none 0 0,.slice none 0 0]∧Blk w' b48 138 csP∧PtI w csP K (lfN r ch i)) (r.om.length) ?_ (fun m g8 w13 hI=>?_)
 ·replace hB:=(((hB.tr0 (q1.trans (q2.trans q3))).tr1 q4 lo5).tr0 q13).tr1 q14 lo5;replace hb2:=(((hb2.tr0 (q2.trans q3)).tr1 q4 oM).tr0 q13).tr1 q14 oM;replace hb4:=(((hb4.tr0 q3).tr1 q4 oM).tr0 q13).tr1 q14 oM;replace hb48:=hb48.tr1 q14 oM;exact⟨0,_,Nat.zero_le _,rfl,rfl,hB,hb2,hb4,hb5,hb48,⟨row_size _ _,fun k hk _=>(by have:=yk (m:=K + 1) (i:=k) (g:=fun _=>Value.pointer none) oM;rw [Nat.zero_add,Nat.mul_one] at this;exact this),fun k _ x hx=>by cases hx⟩⟩
 obtain⟨i,csP,hi,hmi,h56,hB,hb2,hb4,hb5,hb48,hPt⟩:=hI;refine zZ 56 _ h56 nu (zn6 ?_);refine zX rfl (fun c57=>?_) (fun c57=>?_)
 ·have hil:i < r.om.length:=by omega
  obtain⟨ob,oo,Sx,csx,Bx,cbx,hoe,hob,hor,hsx,htx⟩:=hP.o.at_ hil;have hkid:=hK.kid hil;obtain⟨kd,hkd⟩:∃ kd:Nat,(r.om[i]).kid=kd:=⟨(r.om[i]).kid.toNat,by omega⟩
  rw [hkd] at hor;have hnz:=BV r ch i;have hkz:=FJ r ch i;have hwz:=hK.wts ch i oM;refine zn7 ?_;refine wl (xk (i:=i) U55 OW (show ev _ _ _=_ from Z1 _ _ hoe) rfl oM rfl) (zn1 ?_);refine qq (cs:=#[.int .i64 0,.int .i64 0,.int .i64 0,.string ⟨#[]⟩,.int .i64 0,.string ⟨#[]⟩,.slice none 0 0,.slice none 0 0]) ze99 rfl (fun b8 w14 hb8 q15 hr=>?_);have:=nLL hb2.lt hr;have:=nLL hb4.lt hr;have:=nLL hb5.lt hr;have:=nLL hb48.lt hr;have lo8:=nLT (Bel.size hB) hr;refine waI rfl ?_;refine zk hb8 rfl rfl OW rfl zQ (fun w15 hq q16=>?_);replace hb8:=hq;refine zn6 ?_;refine wl (r_shrI (a:=c) (b:=i) rfl rfl oM) (wl (r_and1 (a:=(c / 2 ^ i)) rfl rfl (by have:=Nat.div_le_self c (2 ^ i);omega)) (zn3 ?_));refine zX rfl (fun c65=>?_) (fun c65=>?_)
  ·have hci:ch i=true:=by rw [hch];exact decide_eq_true oM
   refine yj ?_;refine kz [] [7] [0,1,2,3,4,5,6,7] rfl (fun w16 q17=>?_);refine zn4 ?_;refine hcl (fun v wv=>v= .string (dig (kd:Nat))) rfl fn81 (FV kd w16 oM) rfl (fun e' w2 hr=>?_) (fun v70 w17 q18 d70=>?_)
   ·obtain⟨rfl,q19⟩:=hr;exact⟨_,rfl,sB q19,rfl⟩
   have e70:=d70;subst e70;refine hl rfl (fun _=>YX rfl rfl (by show (nmN r ch i).size + 1≤_;omega)) (zn1 ?_);refine h1 rfl ?_;replace hb5:=((hb5.tr0 q15).tr1 q16 oM).tr0 (q17.trans q18);refine xz (v:= .string _) hb5 rfl rfl V6 (by first | decide | simp) rfl rfl (fun w18 hq q20=>?_);have hsH7:=q20;replace hb5:=hq;replace hb5:Blk w18 b5 54 #[.string (nmN r ch i ++ dig (r.om[i]).kid),.slice none 0 0,.int .i64 (kdN r ch i),.int .i64 (wtN r ch i),.int .i64 0,.string ⟨#[]⟩,.int .i64 0,.string ⟨#[]⟩,.slice none 0 0,.slice none 0 0]:=by rw [hkd];exact hb5
   refine zJ (V0 [] (zn6 ?_));refine wl (j8 (c:=(kdN r ch i - 1)) rfl rfl rfl oM) (zn1 ?_);refine xz (v:= .int _ _) hb5 rfl rfl qX (by first | decide | simp) rfl rfl (fun w19 hq q21=>?_);replace hb5:=hq;refine zn8 ?_;refine wl (Z9 (c:=(wtN r ch i + (r.om[i]).wt)) rfl rfl rfl oM) (zn1 ?_);refine xz (v:= .int _ _) hb5 rfl rfl qX (by first | decide | simp) rfl rfl (fun w20 hq q22=>?_);replace hb5:=hq;refine zJ (e_S ?_);refine kz [] [9] [0,1,2,3,4,5,6,7,8,9] rfl (fun w21 q23=>?_);refine zn5 ?_;refine h_know 87 (.slice (some ⟨ob,oo,none⟩) r.om.length co) (Z1 _ _ hoe) nu (zn1 ?_);refine hl rfl (fun _=>xk (i:=i) U55 OW rfl rfl hil rfl) (zn2 ?_);refine h1 rfl ?_;replace hb48:=((((((hb48.tr0 q15).tr1 q16 oM).tr0 (q17.trans q18)).tr1 q20 oM).tr1 q21 oM).tr1 q22 oM).tr0 q23;refine xz (v:= .pointer (some _)) hb48 rfl rfl sz138 (by rw [hPt.size];omega) rfl rfl (fun w22 hq q24=>?_);have hsH9:=q24;replace hb48:=hq;have hI2:=hPt.put (k:=kd) (L':=lfN r ch (i + 1)) oM (lf_at hil hci hkd) hob (om_part hor) hsx htx;rw [show 0 + kd * 1=kd by omega] at hb48;refine zJ (V0 [] (zn7 ?_));refine xv (r.om.length - (i + 1)) oM agA ?_;replace hB:=(((((((hB.tr0 q15).tr1 q16 lo8).tr0 (q17.trans q18)).tr1 q20 lo5).tr1 q21 lo5).tr1 q22 lo5).tr0 q23).tr1 q24 lo48;replace hb2:=(((((((hb2.tr0 q15).tr1 q16 oM).tr0 (q17.trans q18)).tr1 q20 oM).tr1 q21 oM).tr1 q22 oM).tr0 q23).tr1 q24 oM;replace hb4:=(((((((hb4.tr0 q15).tr1 q16 oM).tr0 (q17.trans q18)).tr1 q20 oM).tr1 q21 oM).tr1 q22 oM).tr0 q23).tr1 q24 oM;replace hb5:=(hb5.tr0 q23).tr1 q24 oM
   first
    | exact⟨i + 1,_,by omega,rfl,rfl,hB,hb2,hb4,by rw [BK hil hci,O4 hci,NX hil hci];exact hb5,hb48,hI2⟩
    | exact⟨i + 1,_,by omega,rfl,rfl,hB,hb2,hb4,by rw [nm_no hil hci,FX hci,T6 hil hci];exact hb5,hb48,by rw [J5 hil hci];exact hPt⟩
  have hci:ch i=false:=by rw [hch];exact decide_eq_false oM
  refine zn7 ?_;refine xv (r.om.length - (i + 1)) oM agA ?_;replace hB:=(hB.tr0 q15).tr1 q16 lo8;replace hb2:=(hb2.tr0 q15).tr1 q16 oM;replace hb4:=(hb4.tr0 q15).tr1 q16 oM;replace hb5:=(hb5.tr0 q15).tr1 q16 oM;replace hb48:=(hb48.tr0 q15).tr1 q16 oM
  first
   | exact⟨i + 1,_,by omega,rfl,rfl,hB,hb2,hb4,by rw [BK hil hci,O4 hci,NX hil hci];exact hb5,hb48,hI2⟩
   | exact⟨i + 1,_,by omega,rfl,rfl,hB,hb2,hb4,by rw [nm_no hil hci,FX hci,T6 hil hci];exact hb5,hb48,by rw [J5 hil hci];exact hPt⟩
 have hie:i=r.om.length:=by omega
 subst hie;have hany:XX ch r.om.length=true:=by rw [hch];exact bit_any c32 _ hc2
 have hall:=hK.args hm (any_pos hany);have hkz:=FJ r ch r.om.length;have hwz:=hK.wts ch r.om.length (Nat.le_refl _);obtain⟨L,hL⟩:∃ L,lfN r ch r.om.length=L:=⟨_,rfl⟩
 obtain⟨kd,hkd⟩:∃ z,kdN r ch r.om.length=z:=⟨_,rfl⟩
 have hkept:=Wx hK ch K r.om.length (Nat.le_refl _);have hLK:∀ k x,lfN r ch r.om.length k=some x→TmK x:=lfN_K hK ch _ (Nat.le_refl _);rw [hL] at hPt hkept hLK;rw [hkd] at hb5 hkz;have hgv:=gv_of hg0;have hfew:=hgv.few;have hgok:=hgv.gok;have hglen:=hgok.le;obtain⟨n0,g9,hgr⟩:∃ n g,r.rule.gr=n :: g:=by
   cases h:r.rule.gr with
   | nil=>have:=hgok.pos;rw [h] at this;cases this
   | cons n g=>exact⟨n,g,rfl⟩
 have hfull:=Dy hK.rf hgr hKk;have hln40:n0.ln.length≤40:=by
   have h:=hgok.few 0 hgok.pos;simp only [hgr,List.getElem_cons_zero] at h;omega
 have hnn:∀ x ∈ n0.ln,0≤x.1:=fun x hx=>by
   have h:=hgok.ln 0 hgok.pos;simp only [hgr,List.getElem_cons_zero] at h;exact(h x hx).1
 have hsrt:∀ a b (ha:a < n0.ln.length) (hb:b < n0.ln.length),a < b→(n0.ln[a]).1 < (n0.ln[b]).1:=by
   have h:=(ZQ (KV hgv.lo 0 hgok.pos)).2;simp only [hgr,List.getElem_cons_zero] at h;exact h
 have hargs:Q7 r.rule.kids.toNat τ=some ((qJ τ).take K):=by
   rw [oW,if_pos hall,hKk];rfl
 refine zn8 ?_;refine wl (zY U54 rfl rfl (hb2.sub (n:=10) (xs:=[_,_,_,_,_,_,_,_,_,_]) rfl) yQ) ?_;refine zV fn75 (VJ r.rule G SA BA cg cs cb _ hm hkds.1 (hP.s.mono hB) (hP.t.mono hB)) rfl (fun e' w23 hr=>?_);obtain⟨⟨A9,n9,c9,rfl,_,hAr⟩,q25⟩:=hr;replace q25:=sB q25;obtain⟨rfl,⟨g9,rfl⟩,hS9⟩:=hAr _ hargs;obtain⟨wA,hwA⟩:∃ z,z=w23:=⟨_,rfl⟩
 have hBA:Bel wA w23:=by rw [hwA];exact Below.refl _ _
 rw [← hwA] at hS9;replace hB:=hB.tr0 q25;have hBwA:Bel w wA:=by rw [hwA];exact hB
 replace hb2:=hb2.tr0 q25;replace hb4:=hb4.tr0 q25;replace hb5:=hb5.tr0 q25;replace hb48:=hb48.tr0 q25;have hlA:b2 < wA.heap.size∧b4 < wA.heap.size∧b5 < wA.heap.size∧b48 < wA.heap.size:=by rw [hwA];exact⟨hb2.lt,hb4.lt,hb5.lt,hb48.lt⟩
 replace hS9:=args_at hS9 (by omega:K≤(qJ τ).length);clear hwA hAr;refine⟨_,rfl,?_⟩;refine zn7 ?_;refine wl (zY U44 rfl rfl (hb2.sub (n:=6) (xs:=[_,_,_,_,_,_]) rfl) qW) ?_;refine qq (cs:=#[.int .i64 0,.string ⟨#[]⟩,.int .i64 0,.string ⟨#[]⟩,.slice none 0 0,.slice none 0 0]) jJ rfl (fun b10 w24 hb10 q26 hr=>?_);have or_b2_b10:b2 < b10:=nLL hb2.lt hr;have or_b4_b10:b4 < b10:=nLL hb4.lt hr;have or_b5_b10:b5 < b10:=nLL hb5.lt hr;have or_b48_b10:b48 < b10:=nLL hb48.lt hr;have lo10:=nLT (Bel.size hB) hr;have lo_hBA_b10:=nLT (Bel.size hBA) hr;refine zk hb10 rfl rfl qW rfl zQ (fun w25 hq q27=>?_);replace hb10:=hq;have hM:TmG wA wA.heap.size [b10] wA.heap.size w25 SA BA r.rule.mean:=V4 (hP.s.mono hBwA) (hP.t.mono hBwA) (Bel.size hBA.u);refine yZ ?_;refine wl (Z9 (c:=((K + 1:Nat):Int)) rfl rfl oM oM) ?_;refine gv (m:=(K + 1)) U66 in3 rfl rfl rfl oM oM (fun b103 w26 hb103 q28 hr=>?_);have:=nLL hb2.u.lt hr;have:=nLL hb4.u.lt hr;have:=nLL hb5.u.lt hr;have:=nLL hb48.u.lt hr;have or_b10_b103:b10 < b103:=nLL hb10.lt hr;have or_hM_b103:=(nLT hM.le hr)
 have lo103:=nLT (Bel.size hB.u) hr;have lo_hBA_b103:=nLT (Bel.size hBA.u) hr;refine zn5 ?_;replace hM:=hM.tr0 q28
 replace hM:TmG wA wA.heap.size (b10 :: b103 :: aL none) wA.heap.size w26 SA BA r.rule.mean:=hM.hole (fun y hy=>by
   rcases List.mem_cons.1 hy with h | hy
   · exact .inl (by simp [h])
   · exact .inr (.inr (by rw [List.mem_singleton.1 hy];exact lo_hBA_b103)))
 obtain⟨nA,hnA⟩:∃ z,z=w26.heap.size:=⟨_,rfl⟩
 replace hB:=((hB.tr0 q26).tr1 q27 lo10).tr0 q28;have lT:w.heap.size≤nA:=by rw [hnA];exact Bel.size hB
 replace hBA:=((hBA.tr0 q26).tr1 q27 lo_hBA_b10).tr0 q28;have lTA:wA.heap.size≤nA:=by rw [hnA];exact Bel.size hBA
 replace hb10:=hb10.tr0 q28;have lA10:b10 < nA∧b103 < nA:=by rw [hnA];exact⟨hb10.lt,hb103.lt⟩
 have hzN:nA≤w26.heap.size:=by rw [hnA];exact Nat.le_refl _
 clear hnA;refine zn5 ?_;refine zW (rg [11,13,14] 104 41) (fun m g w'=>∃ (k nM:Nat) (S B:Option Addr) (csM cbM:Nat) (A11:Option Addr) (c11:Nat) (vs:List Value),k≤K∧m=K - k∧g 13= .int .i64 ((k + 1:Nat):Int)∧g 11= .slice A11 (kpT L (qJ τ) k).length c11∧Bel w w'∧Bel wA w'∧Blk w' b2 57 #[.string (r.rule).name,.slice G (r.rule).gr.length cg,.int .i64 (r.rule).kids,.int .i64 (r.rule).wt,.int .i64 ((r.rule).mean).kind,.string ((r.rule).mean).name,.int .i64 ((r.rule).mean).index,.string ((r.rule).mean).type.base,.slice SA ((r.rule).mean).type.args.length cs,.slice BA ((r.rule).mean).args.length cb,.slice OA r.om.length co]∧Blk w' b4 54 #[.string ⟨#[]⟩,.slice none 0 0,.int .i64 0,.int .i64 0,.int .i64 0,.string ⟨#[]⟩,.int .i64 0,.string ⟨#[]⟩,.slice none 0 0,.slice none 0 0]∧Blk w' b5 54 #[.string (nmN r ch r.om.length),.slice none 0 0,.int .i64 kd,.int .i64 (wtN r ch r.om.length),.int .i64 0,.string ⟨#[]⟩,.int .i64 0,.string ⟨#[]⟩,.slice none 0 0,.slice none 0 0]∧Blk w' b48 138 csP∧Blk w' b103 3 (row (K + 1) (fun j=> .int .i64 (nuK L k j)))∧Blk w' b10 44 #[.int .i64 ((mT r.rule.mean L kd k)).kind,.string ((mT r.rule.mean L kd k)).name,.int .i64 ((mT r.rule.mean L kd k)).index,.string ((mT r.rule.mean L kd k)).type.base,.slice S ((mT r.rule.mean L kd k)).type.args.length csM,.slice B ((mT r.rule.mean L kd k)).args.length cbM]∧nA≤w'.heap.size∧Own w' nA 41 2 A11 (kpT L (qJ τ) k).length c11 vs∧RowD smC 2 wA ((kpT L (qJ τ) k).map Ts.sm) vs∧TmG wA wA.heap.size (b10 :: b103 :: aL A11) nM w' S B (mT r.rule.mean L kd k)) (K) ?_ (fun m g21 w27 hI=>?_)
 ·replace hb2:=((hb2.tr0 q26).tr1 q27 oM).tr0 q28;replace hb4:=((hb4.tr0 q26).tr1 q27 oM).tr0 q28;replace hb5:=((hb5.tr0 q26).tr1 q27 oM).tr0 q28;replace hb48:=((hb48.tr0 q26).tr1 q27 oM).tr0 q28;exact⟨0,_,SA,BA,cs,cb,none,0,[],Nat.zero_le _,rfl,rfl,rfl,hB,hBA,hb2,hb4,hb5,hb48,by rw [show nuK L 0=fun _=>0 from funext (nu_zero L)];exact hb103,hb10,hzN,Own.nil _ _ _ _,.nil,hM⟩
 obtain⟨k,nM,S,B,csM,cbM,A11,c11,vs,hk,hmk,h13,h11,hB,hBA,hb2,hb4,hb5,hb48,hb103,hb10,hzN,ho11,hrow,hM⟩:=hI;refine zZ 13 _ h13 nu (zZ 11 _ h11 nu (yv ?_));refine zX rfl (fun c108=>?_) (fun c108=>?_)
 ·have hkl:k + 1≤K:=by omega
  have hcl:=Qk L k;have hcl2:=Qk L (k + 1);have hkln:=Sj (L:=L) (As:=qJ τ) k oM;have hpA:k < (qJ τ).length:=by omega
  obtain⟨pv,hpv,hpw⟩:=hPt.get (k:=k + 1) oM;obtain⟨Aσ,cσ,hgA,haR,haS⟩:=hS9 k oM;refine zn6 ?_;refine qq (cs:=#[.int .i64 0,.string ⟨#[]⟩,.int .i64 0,.string ⟨#[]⟩,.slice none 0 0,.slice none 0 0]) jJ rfl (fun b14 w28 hb14 q29 hr=>?_);have:=nLL hb2.lt hr;have:=nLL hb4.lt hr;have:=nLL hb5.lt hr;have:=nLL hb48.lt hr;have:=nLL hb10.lt hr;have:=nLL hb103.lt hr;have or_ho11_b14:=fun g hg=>nLL (ho11.lt g hg).2 hr
  have or_hM_b14:=(nLT hM.le hr)
  have lo14:=nLT (Bel.size hB) hr;have lo_hBA_b14:=nLT (Bel.size hBA) hr;replace hzN:=nLT hzN q29.size;refine zn7 ?_;refine wl (xk (i:=(k + 1)) U136 sz138 rfl rfl oM rfl) ?_;replace hb48:=hb48.tr0 q29;refine wl (qV (v:= .pointer _) Gz rfl rfl (hb48.cell (by rw [Nat.zero_add,Nat.mul_one];exact hpv))) (wl (r_neP Gz rfl rfl) (zJ (e_S ?_)));replace ho11:=ho11.tr0 q29;replace hM:=hM.tr0 q29;refine vK rfl (fun c115=>?_) (fun c115=>?_)
  ·replace hB:=hB.tr0 q29;replace hb2:=hb2.tr0 q29;replace hb4:=hb4.tr0 q29;replace hb5:=hb5.tr0 q29;replace hBA:=hBA.tr0 q29;replace hb10:=hb10.tr0 q29;replace hb103:=hb103.tr0 q29;rcases hpw with ⟨rfl,_⟩ | ⟨x,ob,oo,Sx,Bx,csx,cbx,rfl,hso,hob,hor,hsx,htx⟩
   · exact absurd c115 (by simp)
   refine zn3 ?_;refine wl (xk (i:=(k + 1)) U136 sz138 rfl rfl oM rfl) (wl (qV (v:= .pointer (some _)) Gz rfl rfl (hb48.cell (by rw [Nat.zero_add,Nat.mul_one];exact hpv))) (wl (r_nc rfl) (zn1 ?_)));refine zk hb14 rfl rfl qW rfl zQ (fun w29 hq q30=>?_);replace ho11:=ho11.tr1 q30 (neL or_ho11_b14);replace hzN:=nLT hzN q30.size;replace hM:=hM.tr q30 (fun g hg=> .inr (.inr (by rw [List.mem_singleton.1 hg];exact or_hM_b14)));replace hb14:=hq;refine zn5 ?_;refine qw (cs:=#[_,_,_,_,_,_,_,_,_,_,_,_]) [(0,.agg _),(1,.agg _)] rfl U42 qW jJ dE dE kR rfl (fun b143 w30 hb143 q31 hr=>?_);have:=nLL hb2.u.lt hr;have:=nLL hb4.u.lt hr;have:=nLL hb5.u.lt hr;have:=nLL hb48.u.lt hr;have:=nLL hb10.u.lt hr;have:=nLL hb103.u.lt hr;have or_ho11_b143:=fun g hg=>nLL (ho11.lt g hg).2 hr
   have or_hM_b143:=(nLT hM.le hr)
   have:=nLL hb14.lt hr;have lo143:=nLT (Bel.size hB.u) hr;have lo_hBA_b143:=nLT (Bel.size hBA.u) hr;replace hzN:=nLT hzN q31.size;refine wl (xY (v0:= .int _ _) (v1:= .slice _ _ _) (fun v0 v1=>#[v0,.string ⟨#[]⟩,.int .i64 0,.string ⟨#[]⟩,.slice none 0 0,v1]) rfl rfl kR) ?_;refine zk hb10.u rfl rfl qW rfl zQ (fun w31 hq q32=>?_);replace ho11:=ho11.tr0 q31;replace ho11:=ho11.tq q32;replace hzN:=nLT hzN q32.size;replace hM:=hM.tr0 q31;replace hM:=hM.in1 q32 (by simp);replace hb10:=hq;replace hBA:=((hBA.tr1 q30 lo_hBA_b14).tr0 q31).tr1 q32 lo_hBA_b10;replace hb143:=hb143.tr1 q32 oM
   first
   | have hM2:TmG wA wA.heap.size (b10 :: b103 :: aL (some (⟨g129,0,none⟩:Addr))) w31.heap.size w31 none (some ⟨b143,0,none⟩) (mT r.rule.mean L kd (k + 1)):=by
       rw [Fv hno]
       exact Q8 hM (N1 (kd - ((j6 L (k + 1):Nat):Int)) (Bel.size hBA)) hb143 lo_hBA_b143 (fun h=>by
         rcases List.mem_cons.1 h with h | h
         · omega
         rcases List.mem_cons.1 h with h | h
         · omega
         · have:=or_ho129_b143 _ h;omega)
   | have hM2:TmG wA wA.heap.size (b10 :: b103 :: aL A11) w31.heap.size w31 none (some ⟨b143,0,none⟩) (mT r.rule.mean L kd (k + 1)):=by
       rw [O0 hso]
       exact Q8 hM (V4 (hsx.mono hBwA) (htx.mono hBwA) (Bel.size hBA)) hb143 lo_hBA_b143 (fun h=>by
         rcases List.mem_cons.1 h with h | h
         · omega
         rcases List.mem_cons.1 h with h | h
         · omega
         · have:=or_ho11_b143 _ h;omega)
   refine zn5 ?_;refine wl (Z9 (c:=((k + 1 + 1:Nat):Int)) rfl rfl oM oM) (zn2 ?_);refine xv (K - (k + 1)) oM agA ?_;replace hB:=((hB.tr1 q30 lo14).tr0 q31).tr1 q32 lo10;replace hb2:=((hb2.tr1 q30 oM).tr0 q31).tr1 q32 oM;replace hb4:=((hb4.tr1 q30 oM).tr0 q31).tr1 q32 oM;replace hb5:=((hb5.tr1 q30 oM).tr0 q31).tr1 q32 oM;replace hb48:=((hb48.tr1 q30 oM).tr0 q31).tr1 q32 oM;replace hb103:=((hb103.tr1 q30 oM).tr0 q31).tr1 q32 oM
   first
    | exact⟨k + 1,_,none,some ⟨b143,0,none⟩,0,2,some ⟨g129,0,none⟩,cap129,_,hkl,rfl,rfl,by rw [← hkl2];rfl,hB,hBA,hb2,hb4,hb5,hb48,hb103,hb10,hzN,by rw [← hkl2];exact ho129,hrow2,hM2⟩
    | exact⟨k + 1,_,none,some ⟨b143,0,none⟩,0,2,A11,c11,vs,hkl,rfl,rfl,by rw [Xw hso];rfl,hB,hBA,hb2,hb4,hb5,hb48,by rw [nu_yes hso];exact hb103,hb10,hzN,by rw [Xw hso];exact ho11,by rw [Xw hso];exact hrow,hM2⟩
  rcases hpw with ⟨rfl,hno⟩ | ⟨x,ob,oo,Sx,Bx,csx,cbx,rfl,hso,hob,hor,hsx,htx⟩
  replace hB:=hB.tr0 q29;replace hb2:=hb2.tr0 q29;replace hb4:=hb4.tr0 q29;replace hb5:=hb5.tr0 q29;replace hBA:=hBA.tr0 q29;replace hb10:=hb10.tr0 q29;replace hb103:=hb103.tr0 q29
  rotate_left
  · cases c115
  refine zn5 ?_;refine wl (j8 (c:=((k:Nat):Int)) rfl rfl oM oM) (wl (xk (i:=k) U39 x9 rfl rfl (by rw [List.length_take];omega) rfl) (wl (zY U41 rfl rfl (hBA.range hgA haR) x9) ?_));refine qw (cs:=#[_,_]) [(0,.agg _)] rfl U39 x9 ov dE dE kR rfl (fun b128 w32 hb128 q33 hr=>?_);have:=nLL hb2.lt hr;have:=nLL hb4.lt hr;have:=nLL hb5.lt hr;have:=nLL hb48.lt hr;have:=nLL hb10.lt hr;have:=nLL hb103.lt hr;have or_ho11_b128:=fun g hg=>nLL (ho11.lt g hg).2 hr
  have or_hM_b128:=(nLT hM.le hr)
  have:=nLL hb14.lt hr;have lo128:=nLT (Bel.size hB) hr;have lo_hBA_b128:=nLT (Bel.size hBA) hr;replace hzN:=nLT hzN q33.size;replace ho11:=ho11.tr0 q33;refine vX U39 in41 rfl dE ho11 hb128 rfl rfl rfl zQ dE oM oM hzN (fun g129 cap129 w33 ho129 q34 hg=>?_);replace hM:=hM.tr0 q33;have ne_ho129_b2:g129≠b2:=neA ho11 hb2.u.lt hg
  have ne_ho129_b4:g129≠b4:=neA ho11 hb4.u.lt hg
  have ne_ho129_b5:g129≠b5:=neA ho11 hb5.u.lt hg
  have ne_ho129_b48:g129≠b48:=neA ho11 hb48.u.lt hg
  have ne_ho129_b10:g129≠b10:=neA ho11 hb10.u.lt hg
  have ne_ho129_b103:g129≠b103:=neA ho11 hb103.u.lt hg
  have ne_ho129_b14:g129≠b14:=neB hb14.u.lt hg (neL or_ho11_b14)
  replace hB:=hB.u.tr q34 (fun g hg=>nLT oM (ho11.lt g hg).1);replace hb2:=hb2.tr0 q33;replace hb2:=hb2.ta q34 ho11;replace hb4:=hb4.tr0 q33;replace hb4:=hb4.ta q34 ho11;replace hb5:=hb5.tr0 q33;replace hb5:=hb5.ta q34 ho11;replace hb48:=hb48.tr0 q33;replace hb48:=hb48.ta q34 ho11;replace hBA:=hBA.u.tr q34 (fun g hg=>nLT oM (ho11.lt g hg).1);replace hb10:=hb10.tr0 q33;replace hb10:=hb10.ta q34 ho11;replace hb103:=hb103.tr0 q33;replace hb103:=hb103.ta q34 ho11;replace hzN:=nLT hzN q34.size;replace hM:=hM.tr q34 (fun g hg=> .inr (.inl (List.mem_cons_of_mem _ (List.mem_cons_of_mem _ hg))));replace hb14:=hb14.tr0 q33;replace hb14:=hb14.tb q34 (neL or_ho11_b14)
  replace hM:TmG wA wA.heap.size (b10 :: b103 :: aL (some (⟨g129,0,none⟩:Addr))) nM w33 S B (mT r.rule.mean L kd k):=hM.hole (fun y hy=>by
    rcases List.mem_cons.1 hy with h | hy
    · exact .inl (by simp [h])
    rcases List.mem_cons.1 hy with h | hy
    · exact .inl (by simp [h])
    · cases List.mem_singleton.1 hy
      rcases hg with hg | hg
      · exact .inl (by simp [hg])
      · exact .inr (.inr (nLT or_hM_b128 (nLT (Nat.le_of_lt hb128.lt) hg))))
  have hrow2:RowD smC 2 wA ((kpT L (qJ τ) (k + 1)).map Ts.sm) (vs ++ [.string ((qJ τ)[k]).sm.base,.slice Aσ ((qJ τ)[k]).sm.args.length cσ]):=by
    rw [FQ hno (List.getElem?_eq_getElem hpA),List.map_append];exact .snoc hrow rfl ⟨Aσ,cσ,rfl,haS⟩
  have hkl2:(kpT L (qJ τ) k).length + 1=(kpT L (qJ τ) (k + 1)).length:=by rw [FQ hno (List.getElem?_eq_getElem hpA),List.length_append];rfl
  refine zn9 ?_;refine wl (xk (i:=(k + 1)) U66 qX rfl rfl oM rfl) ?_;refine xz (v:= .int _ _) hb103 rfl rfl qX (by rw [row_size];omega) rfl jQ (fun w34 hq q35=>?_);replace hzN:=nLT hzN q35.size;replace hM:=hM.in1 q35 (by simp);replace ho129:=ho129.tr1 q35 (neS ne_ho129_b103);replace hb103:=hq;rw [nu_row hno (by rw [hkl2];exact Sj (k + 1) oM)] at hb103;refine zn7 ?_;refine wl (j8 (c:=(kd - ((j6 L (k + 1):Nat):Int))) rfl rfl (by have:=SV hno;omega) oM) (wl (xY (v0:= .int _ _) (v1:= .int _ _) (fun v0 v1=>#[v0,.string ⟨#[]⟩,v1,.string ⟨#[]⟩,.slice none 0 0,.slice none 0 0]) rfl rfl kR) ?_);refine zk hb14.u rfl rfl qW rfl zQ (fun w35 hq q36=>?_);replace hzN:=nLT hzN q36.size;replace hM:=hM.tr q36 (fun g hg=> .inr (.inr (by rw [List.mem_singleton.1 hg];exact or_hM_b14)));replace ho129:=ho129.tr1 q36 (neS ne_ho129_b14);replace hb14:=hq;refine zn5 ?_;refine qw (cs:=#[_,_,_,_,_,_,_,_,_,_,_,_]) [(0,.agg _),(1,.agg _)] rfl U42 qW jJ dE dE kR rfl (fun b143 w36 hb143 q37 hr=>?_);have:=nLL hb2.u.lt hr;have:=nLL hb4.u.lt hr;have:=nLL hb5.u.lt hr;have:=nLL hb48.u.lt hr;have:=nLL hb10.u.lt hr;have:=nLL hb103.u.lt hr;have or_hM_b143:=(nLT hM.le hr)
  have:=nLL hb14.lt hr;have or_ho129_b143:=fun g hg=>nLL (ho129.lt g hg).2 hr
  have lo143:=nLT (Bel.size hB.u) hr;have lo_hBA_b143:=nLT (Bel.size hBA.u) hr;replace hzN:=nLT hzN q37.size;refine wl (xY (v0:= .int _ _) (v1:= .slice _ _ _) (fun v0 v1=>#[v0,.string ⟨#[]⟩,.int .i64 0,.string ⟨#[]⟩,.slice none 0 0,v1]) rfl rfl kR) ?_;refine zk hb10.u rfl rfl qW rfl zQ (fun w37 hq q38=>?_);replace hzN:=nLT hzN q38.size;replace hM:=hM.tr0 q37;replace hM:=hM.in1 q38 (by simp);replace ho129:=ho129.tr0 q37;replace ho129:=ho129.tr1 q38 (neS ne_ho129_b10);replace hb10:=hq;replace hBA:=(((hBA.tr1 q35 lo_hBA_b103).tr1 q36 lo_hBA_b14).tr0 q37).tr1 q38 lo_hBA_b10;replace hb143:=hb143.tr1 q38 oM
  first
  | have hM2:TmG wA wA.heap.size (b10 :: b103 :: aL (some (⟨g129,0,none⟩:Addr))) w37.heap.size w37 none (some ⟨b143,0,none⟩) (mT r.rule.mean L kd (k + 1)):=by
      rw [Fv hno]
      exact Q8 hM (N1 (kd - ((j6 L (k + 1):Nat):Int)) (Bel.size hBA)) hb143 lo_hBA_b143 (fun h=>by
        rcases List.mem_cons.1 h with h | h
        · omega
        rcases List.mem_cons.1 h with h | h
        · omega
        · have:=or_ho129_b143 _ h;omega)
  | have hM2:TmG wA wA.heap.size (b10 :: b103 :: aL A11) w37.heap.size w37 none (some ⟨b143,0,none⟩) (mT r.rule.mean L kd (k + 1)):=by
      rw [O0 hso]
      exact Q8 hM (V4 (hsx.mono hBwA) (htx.mono hBwA) (Bel.size hBA)) hb143 lo_hBA_b143 (fun h=>by
        rcases List.mem_cons.1 h with h | h
        · omega
        rcases List.mem_cons.1 h with h | h
        · omega
        · have:=or_ho11_b143 _ h;omega)
  refine zn5 ?_;refine wl (Z9 (c:=((k + 1 + 1:Nat):Int)) rfl rfl oM oM) (zn2 ?_);refine xv (K - (k + 1)) oM agA ?_;replace hB:=(((hB.tr1 q35 lo103).tr1 q36 lo14).tr0 q37).tr1 q38 lo10;replace hb2:=(((hb2.tr1 q35 oM).tr1 q36 oM).tr0 q37).tr1 q38 oM;replace hb4:=(((hb4.tr1 q35 oM).tr1 q36 oM).tr0 q37).tr1 q38 oM;replace hb5:=(((hb5.tr1 q35 oM).tr1 q36 oM).tr0 q37).tr1 q38 oM;replace hb48:=(((hb48.tr1 q35 oM).tr1 q36 oM).tr0 q37).tr1 q38 oM;replace hb103:=((hb103.tr1 q36 oM).tr0 q37).tr1 q38 oM
  first
   | exact⟨k + 1,_,none,some ⟨b143,0,none⟩,0,2,some ⟨g129,0,none⟩,cap129,_,hkl,rfl,rfl,by rw [← hkl2];rfl,hB,hBA,hb2,hb4,hb5,hb48,hb103,hb10,hzN,by rw [← hkl2];exact ho129,hrow2,hM2⟩
   | exact⟨k + 1,_,none,some ⟨b143,0,none⟩,0,2,A11,c11,vs,hkl,rfl,rfl,by rw [Xw hso];rfl,hB,hBA,hb2,hb4,hb5,hb48,by rw [nu_yes hso];exact hb103,hb10,hzN,by rw [Xw hso];exact ho11,by rw [Xw hso];exact hrow,hM2⟩
 have hke:K=k:=by omega
 subst hke;have hkln:=Sj (L:=L) (As:=qJ τ) K oM;have hmL:TmK (xZ (kpT L (qJ τ) K) (mT r.rule.mean L kd K)):=Gq (mT_K hmK hLK K) _;refine zn9 ?_;have z10:=hb10.lt;have hszB:=Bel.size hB;refine zV fn82 (SY _ _ _ _) rfl (fun e' w38 hr=>?_);obtain⟨⟨bB,rfl,loB,hbB⟩,q39⟩:=hr;replace q39:=sB q39;replace hzN:=nLT hzN q39.size;have nbB:bB≠b10:=by omega
 have loB2:w.heap.size≤bB:=nLT hszB loB;refine⟨_,rfl,?_⟩;refine zn3 ?_;have hne:vs≠[]:=fun e=>by
   have h1:=hrow.len;rw [e,List.length_nil,List.length_map] at h1;omega
 replace ho11:=ho11.tr0 q39;obtain⟨gk,csk,rfl,lok,hbk,hck⟩:=EW ho11 hne;obtain⟨AS,CS,hel⟩:=row_tys hrow;replace hb10:=hb10.tr0 q39;have l10:=hb10.lt;have lgk:=hbk.lt;have lbB:=hbB.lt;replace hb5:=hb5.tr0 q39;have l5:=hb5.lt;replace hb4:=hb4.tr0 q39;have l4:=hb4.lt;replace hB:=hB.tr0 q39;have lsz:=Bel.size hB;have ngk:gk≠b10:=by omega
 have hk3:(kpT L (qJ τ) K).length≤3:=by
   rw [hkln];have:=Qk L K;omega
 replace hb2:=hb2.tr0 q39;replace hb48:=hb48.tr0 q39;replace hb103:=hb103.tr0 q39
 refine c_rangeX (gf:=114) (lb:=#[.pointer (some ⟨bB,0,none⟩)]) rfl (Zq fn114) (fun x:Nat=>Value.int .i64 (x:Int)) (fun x:Nat=>#[.string (K9 (kpT L (qJ τ) K) x).base,.slice (AS x) (K9 (kpT L (qJ τ) K) x).args.length (CS x)]) (G4 (kpT L (qJ τ) K).length gk bB 0 c11 (fun j=>(K9 (kpT L (qJ τ) K) j).base) AS (fun j=>(K9 (kpT L (qJ τ) K) j).args.length) CS oM _ lgk lbB (hbB.cell rfl) (fun j hj=>⟨hbk.cell (by rw [Nat.zero_add];exact hck _ _ (hel j hj).1.1),hbk.cell (by rw [Nat.zero_add];exact hck _ _ (hel j hj).1.2)⟩)) KpB.tr (fun W l _ o' h _ _ _=>KpB.put lgk lbB W l o' h) (fun hs h=>KpB.of lgk lbB hs h (by simp) (by simp)) (WrK w38 b10 44 (K9 (kpT L (qJ τ) K)) AS CS (mT r.rule.mean L kd K) S B csM cbM) WrK.own (fun _ _ h=>h.size) (WrK.start hb10) ov (fun _=>x9) (fun _=>rfl) (fun _=>rfl) rfl rfl rfl (fun o ho=>by
   rcases List.mem_cons.1 ho with rfl | ho
   · exact po_load
   rcases List.mem_cons.1 ho with rfl | ho
   · exact po_load
   rcases List.mem_cons.1 ho with rfl | ho
   · exact po_bs
   rcases List.mem_cons.1 ho with rfl | ho
   · exact po_build
   · rw [List.mem_singleton.1 ho];exact F3) ?_ ?_
 ·intro pre x b16 w39 hI lo16 hb16;obtain⟨hS0,m9,S9,B9,c9,d9,hI,hb10⟩:=hI;replace hb10:Blk w39 b10 44 #[.int .i64 (m9).kind,.string (m9).name,.int .i64 (m9).index,.string (m9).type.base,.slice S9 (m9).type.args.length c9,.slice B9 (m9).args.length d9]:=hb10;have:=nLL l10 lo16;have hZ:Same [b10] w39 w39:=Same.refl _ _;refine zn2 ?_;refine qw (cs:=#[_,_,_,_,_,_]) [(0,.agg _)] rfl U42 qW jJ dE dE kR rfl (fun b151 w40 hb151 q40 hr=>?_);have or_b16_b151:b16 < b151:=nLL hb16.lt hr;have:=nLL hb10.lt hr;replace hZ:=hZ.th q40;refine wl (Qz (v0:= .int _ _) (v1:= .agg _) (v2:= .slice _ _ _) (fun v0 v1 v2=>#[v0,.string ⟨#[]⟩,.int .i64 0,(qx v1 0),(qx v1 1),v2]) rfl rfl rfl kR) ?_;refine zk hb10.u rfl rfl qW rfl zQ (fun w41 hq q41=>?_);replace hb10:=hq;refine zJ ?_;unfold EX;replace hZ:=hZ.trans q41;replace hb151:=hb151.tr1 q41 oM;exact⟨rfl,hZ.keepsFrom (fun k hk=>by rw [List.mem_singleton.1 hk];exact l10),KpB.of lgk lbB hZ hS0.size (fun h=>ngk (List.mem_singleton.1 h)) (fun h=>nbB (List.mem_singleton.1 h)),WrK.put hS0 hI hZ l10 (nLT lo16 (Nat.le_of_lt or_b16_b151)) hb151 hb10⟩
 intro D xs w42 loD hxs hI hD;subst hxs;obtain⟨hZ,m9,S9,B9,c9,d9,hI,hb10⟩:=hI;have hmq:m9=(xZ (kpT L (qJ τ) K) (mT r.rule.mean L kd K)):=hI.eq.trans (wrap_all (kpT L (qJ τ) K) (K9 (kpT L (qJ τ) K)) _ (fun j hj=>smAt_eq hj));replace hBA:=hBA.tr0 q39;replace hBA:=hBA.tr hZ (fun g hg=>by rw [List.mem_singleton.1 hg];exact lo_hBA_b10);replace hM:=hM.tr0 q39;have hd0:=(hM.in1 hZ (by simp)).now (Kw.of hBA);have hdat:=hI.data hd0.1 hd0.2 (fun x hx=>(hel x (bkL_mem hx)).2.mono hBA);replace hB:=hB.tr hZ (fun g hg=>by rw [List.mem_singleton.1 hg];exact lo10);replace hb2:=hb2.tr1 hZ (Nat.ne_of_lt or_b2_b10);replace hb4:=hb4.tr1 hZ (Nat.ne_of_lt or_b4_b10);replace hb5:=hb5.tr1 hZ (Nat.ne_of_lt or_b5_b10);replace hb48:=hb48.tr1 hZ (Nat.ne_of_lt or_b48_b10);replace hb103:=hb103.tr1 hZ (Nat.ne_of_gt or_b10_b103);subst hmq;replace hb10:Blk w42 b10 44 #[.int .i64 ((xZ (kpT L (qJ τ) K) (mT r.rule.mean L kd K))).kind,.string ((xZ (kpT L (qJ τ) K) (mT r.rule.mean L kd K))).name,.int .i64 ((xZ (kpT L (qJ τ) K) (mT r.rule.mean L kd K))).index,.string ((xZ (kpT L (qJ τ) K) (mT r.rule.mean L kd K))).type.base,.slice S9 ((xZ (kpT L (qJ τ) K) (mT r.rule.mean L kd K))).type.args.length c9,.slice B9 ((xZ (kpT L (qJ τ) K) (mT r.rule.mean L kd K))).args.length d9]:=hb10;have lD5:b5 < D:=nLL l5 loD;have lD4:b4 < D:=nLL l4 loD;have lDw:w.heap.size≤D:=nLT lsz loD;clear hI hd0;refine zn5 ?_;obtain⟨nM8,hnM8⟩:∃ z,z=w42.heap.size:=⟨_,rfl⟩
 have lM5:b5 < nM8:=by rw [hnM8];exact hb5.lt
 have lM4:b4 < nM8:=by rw [hnM8];exact hb4.lt
 have lMw:w.heap.size≤nM8:=by rw [hnM8];exact Bel.size hB
 have lMD:D < nM8:=by rw [hnM8];exact y5 hD
 refine zV fn80 (E2 hmL S9 B9 c9 d9 _ hdat.1 hdat.2) rfl (fun e' w43 hr=>?_);obtain⟨⟨S8,s8,B8,c8,rfl,hz8⟩,q42⟩:=hr;replace q42:=sB q42;replace hD:=uz hD q42 (by simp);rw [← hnM8] at hz8;obtain⟨n8,hn8e⟩:∃ z,z=w43.heap.size:=⟨_,rfl⟩
 rw [← hn8e] at hz8;clear hn8e hnM8;refine⟨_,rfl,?_⟩;refine zn1 ?_;replace hb5:=hb5.tr0 q42;refine uK hb5 rfl rfl qW (by first | decide | simp) zQ rfl (fun w44 hq q43=>?_);replace hD:=uz hD q43 (fun hm=>by have:=List.mem_singleton.1 hm;omega);replace hz8:=hz8.lo1 q43 lM5;replace hb5:=hq;replace hb5:Blk w44 b5 54 #[.string (nmN r ch r.om.length),.slice none 0 0,.int .i64 kd,.int .i64 (wtN r ch r.om.length),.int .i64 ((xZ (kpT L (qJ τ) K) (mT r.rule.mean L kd K))).kind,.string ((xZ (kpT L (qJ τ) K) (mT r.rule.mean L kd K))).name,.int .i64 ((xZ (kpT L (qJ τ) K) (mT r.rule.mean L kd K))).index,.string ((xZ (kpT L (qJ τ) K) (mT r.rule.mean L kd K))).type.base,.slice S8 ((xZ (kpT L (qJ τ) K) (mT r.rule.mean L kd K))).type.args.length s8,.slice B8 ((xZ (kpT L (qJ τ) K) (mT r.rule.mean L kd K))).args.length c8]:=hb5;refine zn8 ?_;obtain⟨wC,hwC⟩:∃ z,z=w44:=⟨_,rfl⟩
 replace hb2:=(hb2.tr0 q42).tr1 q43 oM;replace hb4:=(hb4.tr0 q42).tr1 q43 oM;replace hb48:=(hb48.tr0 q42).tr1 q43 oM;replace hb103:=(hb103.tr0 q42).tr1 q43 oM;have hlt:b2 < wC.heap.size∧b4 < wC.heap.size∧b5 < wC.heap.size∧b48 < wC.heap.size∧b103 < wC.heap.size:=by rw [hwC];exact⟨hb2.lt,hb4.lt,hb5.lt,hb48.lt,hb103.lt⟩
 replace hB:=(hB.tr0 q42).tr1 q43 lo5;have hwl:n8≤wC.heap.size∧w.heap.size≤wC.heap.size∧D < wC.heap.size:=by rw [hwC];exact⟨hz8.le,Bel.size hB,y5 hD⟩
 refine zV fn83 ((EY G cg r.rule.gr _ (hP.g.mono hB) oM).mono (fun _ _ h=>And.intro (And.intro h.1 h.2) h.2)) rfl (fun e' w45 hr=>?_);obtain⟨⟨⟨A39,c39,vs9,rfl,hO,hR⟩,hBC⟩,q44⟩:=hr;replace q44:=sB q44;replace hD:=uz hD q44 (by simp);rw [← hwC] at hR hO hBC;clear hwC;have hlen:=hR.len;obtain⟨b39,cs9,rfl,lo_hBC_b39,hb39,hc9⟩:=EW hO (by rintro rfl;rw [hgr] at hlen;simp at hlen);have or_hz8_b39:n8≤b39:=nLT hwl.1 lo_hBC_b39;have or_hD_b39:D < b39:=nLL hwl.2.2 lo_hBC_b39;have lo39:w.heap.size≤b39:=nLT hwl.2.1 lo_hBC_b39;have:=by omega
 have:=by omega
 have:=by omega
 have:=by omega
 have:=by omega
 rw [hgr] at hR;obtain⟨v9,_,⟨A0,c0,rfl,hlk0⟩,hv9⟩:=hR.get 0 (Nat.zero_lt_succ _);replace hlk0:LinksIn wC A0 n0.ln:=hlk0;replace hv9:∀ (j:Nat) (u:Value),([.int .i64 n0.ty,.slice A0 n0.ln.length c0]:List Value)[j]? =some u→vs9[0 * 2 + j]? =some u:=hv9;have hmx0:=hlk0.1;unfold yJ at hmx0;refine⟨_,rfl,?_⟩;refine wl (ZY (v0:= .slice _ _ _) (fun v0=>#[v0]) rfl kR) ?_;refine qq (cs:=#[.slice none 0 0]) T4 rfl (fun b17 w46 hb17 q45 hr=>?_);have:=nLL hb2.u.lt hr;have:=nLL hb4.u.lt hr;have:=nLL hb5.u.lt hr;have:=nLL hb48.u.lt hr;have:=nLL hb103.u.lt hr;have or_hD_b17:=(nLL (y5 hD) hr)
 replace hz8:=hz8.tr0 q44;have or_hz8_b17:=(nLT hz8.le hr)
 have:=nLL hb39.lt hr;have lo17:=nLT (Bel.size hB.u) hr;have lo_hBC_b17:=nLT (Bel.size hBC) hr;replace hD:=uz hD q45 (by simp);refine zk hb17 rfl rfl ZK rfl zQ (fun w47 hq q46=>?_);replace hD:=uz hD q46 (fun hm=>by have:=List.mem_singleton.1 hm;have:=or_hD_b17;omega);replace hz8:=hz8.tr0 q45;replace hz8:=hz8.tr q46 (fun g hg=> .inr (.inr (by rw [List.mem_singleton.1 hg];exact or_hz8_b17)));replace hb17:=hq;refine zn9 ?_;obtain⟨nA2,hnA2⟩:∃ z,z=w47.heap.size:=⟨_,rfl⟩
 have hn8:n8≤nA2:=by rw [hnA2];exact hz8.le
 replace hB:=(hB.tr0 (q44.trans q45)).tr1 q46 lo17;have lT2:w.heap.size≤nA2:=by rw [hnA2];exact Bel.size hB
 replace hBC:=(hBC.tr0 q45).tr1 q46 lo_hBC_b17;have lTC:wC.heap.size≤nA2:=by rw [hnA2];exact Bel.size hBC
 replace hb39:=(hb39.tr0 q45).tr1 q46 oM;have lA39:b39 < nA2:=by rw [hnA2];exact hb39.lt
 have lA17:b17 < nA2:=by rw [hnA2];exact hb17.lt
 have lAD:D < nA2:=by omega
 have lAx:b2 < nA2∧b4 < nA2∧b5 < nA2∧b48 < nA2∧b103 < nA2:=by omega
 have hzN:nA2≤w47.heap.size:=by rw [hnA2];exact Nat.le_refl _
 clear hnA2;refine zn3 ?_;refine wl (xk (i:=0) U28 kQ rfl rfl hgok.pos rfl) (zn1 ?_);refine wl (qV (v:= .slice _ _ _) u7 rfl rfl (hb39.cell (hc9 1 _ (hv9 1 _ rfl)))) (zn5 ?_);refine zW (rg [18,20] 168 32) (fun m g w'=>∃ (j:Nat) (A18:Option Addr) (c18:Nat),j≤n0.ln.length∧m=n0.ln.length - j∧g 168= .int .i64 ((j:Nat):Int)∧g 18= .slice A18 (lkR L K (n0.ln.take j)).length c18∧Bel w w'∧Blk w' b2 57 #[.string (r.rule).name,.slice G (r.rule).gr.length cg,.int .i64 (r.rule).kids,.int .i64 (r.rule).wt,.int .i64 ((r.rule).mean).kind,.string ((r.rule).mean).name,.int .i64 ((r.rule).mean).index,.string ((r.rule).mean).type.base,.slice SA ((r.rule).mean).type.args.length cs,.slice BA ((r.rule).mean).args.length cb,.slice OA r.om.length co]∧Blk w' b4 54 #[.string ⟨#[]⟩,.slice none 0 0,.int .i64 0,.int .i64 0,.int .i64 0,.string ⟨#[]⟩,.int .i64 0,.string ⟨#[]⟩,.slice none 0 0,.slice none 0 0]∧Blk w' b5 54 #[.string (nmN r ch r.om.length),.slice none 0 0,.int .i64 kd,.int .i64 (wtN r ch r.om.length),.int .i64 ((xZ (kpT L (qJ τ) K) (mT r.rule.mean L kd K))).kind,.string ((xZ (kpT L (qJ τ) K) (mT r.rule.mean L kd K))).name,.int .i64 ((xZ (kpT L (qJ τ) K) (mT r.rule.mean L kd K))).index,.string ((xZ (kpT L (qJ τ) K) (mT r.rule.mean L kd K))).type.base,.slice S8 ((xZ (kpT L (qJ τ) K) (mT r.rule.mean L kd K))).type.args.length s8,.slice B8 ((xZ (kpT L (qJ τ) K) (mT r.rule.mean L kd K))).args.length c8]∧Blk w' b48 138 csP∧Blk w' b103 3 (row (K + 1) (fun j=> .int .i64 (nuK L K j)))∧Blk w' b39 113 cs9∧Blk w' b17 30 #[.slice (some ⟨b39,0,none⟩) r.rule.gr.length c39]∧Bel wC w'∧nA2≤w'.heap.size∧Own w' nA2 115 2 A18 (lkR L K (n0.ln.take j)).length c18 (lnV (lkR L K (n0.ln.take j)))∧w'.heap[D]? =some (.deferred (some []))∧Hv nM8 [] n8 w' (fun w=>SimsIn w S8 (xZ (kpT L (qJ τ) K) (mT r.rule.mean L kd K)).type.args∧TmsIn w B8 (xZ (kpT L (qJ τ) K) (mT r.rule.mean L kd K)).args)) (n0.ln.length) ?_ (fun m g37 w48 hI=>?_)
 ·exact⟨0,none,0,Nat.zero_le _,rfl,rfl,rfl,hB,hb2.u,hb4.u,hb5.u,hb48.u,hb103.u,hb39,hb17,hBC,hzN,Own.nil _ _ _ _,hD,hz8⟩
 obtain⟨j,A18,c18,hj,hmj,h168,h18,hB,hb2,hb4,hb5,hb48,hb103,hb39,hb17,hBC,hzN,ho18,hD,hz8⟩:=hI;refine zZ 168 _ h168 nu (zZ 18 _ h18 nu (zn6 ?_));refine zX rfl (fun c169=>?_) (fun c169=>?_)
 ·have hjl:j < n0.ln.length:=by omega
  obtain⟨f,hf⟩:∃ f:Nat,(n0.ln[j]).1=(f:Int):=⟨(n0.ln[j]).1.toNat,by have:=hnn _ (List.getElem_mem hjl);omega⟩
  obtain⟨tq,htq⟩:∃ z,(n0.ln[j]).2=z:=⟨_,rfl⟩
  have hx:n0.ln[j]=((f:Int),tq):=Prod.ext hf htq;obtain⟨lb,lq,hle,hlb,hlr⟩:=hlk0.at_ (Below.refl _ _:Bel wC wC) hjl;have hll:(lkR L K (n0.ln.take j)).length≤j:=nLT (N9 L K _) (by rw [List.length_take];omega);rw [hf,htq] at hlr;refine zn6 ?_;refine wl (xk (i:=j) u7 j7 (show ev _ _ _=_ from Z1 _ _ hle) rfl oM rfl) (wl (zY Zk rfl rfl (hBC.range hlb hlr) j7) ?_);refine qq (cs:=#[.int .i64 0,.int .i64 0]) gz rfl (fun b20 w49 hb20 q47 hr=>?_);have:=nLL hb2.lt hr;have:=nLL hb4.lt hr;have:=nLL hb5.lt hr;have:=nLL hb48.lt hr;have:=nLL hb103.lt hr;have:=nLL hb39.lt hr;have:=nLL hb17.lt hr;have or_ho18_b20:=fun g hg=>nLL (ho18.lt g hg).2 hr
  have or_hD_b20:=(nLL (y5 hD) hr)
  have or_hz8_b20:=(nLT hz8.le hr)
  have lo20:=nLT (Bel.size hB) hr;have lo_hBC_b20:=nLT (Bel.size hBC) hr;replace hzN:=nLT hzN q47.size;replace hD:=uz hD q47 (by simp);refine zk hb20 rfl rfl j7 rfl zQ (fun w50 hq q48=>?_);replace ho18:=ho18.tr0 q47;replace ho18:=ho18.tr1 q48 (neL or_ho18_b20);replace hzN:=nLT hzN q48.size;replace hD:=uz hD q48 (fun hm=>by have:=List.mem_singleton.1 hm;have:=or_hD_b20;omega);replace hz8:=hz8.tr0 q47;replace hz8:=hz8.tr q48 (fun g hg=> .inr (.inr (by rw [List.mem_singleton.1 hg];exact or_hz8_b20)));replace hb20:=hq;refine zn4 ?_;replace hB:=(hB.tr0 q47).tr1 q48 lo20;replace hb2:=(hb2.tr0 q47).tr1 q48 oM;replace hb4:=(hb4.tr0 q47).tr1 q48 oM;replace hb5:=(hb5.tr0 q47).tr1 q48 oM;replace hb48:=(hb48.tr0 q47).tr1 q48 oM;replace hb103:=(hb103.tr0 q47).tr1 q48 oM;replace hBC:=(hBC.tr0 q47).tr1 q48 lo_hBC_b20;replace hb39:=(hb39.tr0 q47).tr1 q48 oM;replace hb17:=(hb17.tr0 q47).tr1 q48 oM;refine xJ (rg [] 172 11) 182 (.bool (decide (1≤(f:Int)∧(f:Int)≤r.rule.kids))) nu ?_ (fun gq=>?_)
  ·refine zn5 ?_;refine zw 175 rfl (fun g175=>?_) (fun g175=>?_)
   ·refine ky ?_;refine zJ (e_R ⟨rfl,agA,?_⟩);exact clA
   refine zn7 ?_;refine zJ (e_R ⟨rfl,agA,?_⟩);exact clA
  refine e_S ?_;refine zX rfl (fun c182=>?_) (fun c182=>?_)
  ·have hfK:1≤f∧f≤K:=by omega
   obtain⟨pv,hpv,hpw⟩:=hPt.get (k:=f) hfK.2;refine zn7 ?_;refine wl (qV (v:= .pointer _) Gz rfl rfl (hb48.cell (by rw [Nat.zero_add,Nat.mul_one];exact hpv))) (wl (r_neP Gz rfl rfl) (zJ (e_S ?_)));refine vK rfl (fun c188=>?_) (fun c188=>?_)
   ·rcases hpw with ⟨rfl,_⟩ | ⟨xq,ob,oo,Sx,Bx,csx,cbx,rfl,hso,_⟩
    · exact absurd c188 (by simp)
    have hlk2:lkR L K (n0.ln.take (j + 1))=lkR L K (n0.ln.take j):=by
      rw [List.take_succ_eq_append_getElem hjl,hx,Xv,lk_left c182.1 (by show (f:Int)≤K;omega) rfl (by rw [hso];rfl),List.append_nil]
    refine zn9 ?_;refine xv (n0.ln.length - (j + 1)) oM agA ?_
    first
     | exact⟨j + 1,A18,c18,by omega,rfl,rfl,congrArg (fun n=>Value.slice A18 n c18) (by rw [hlk2]),hB,hb2,hb4,hb5,hb48,hb103,hb39,hb17,hBC,hzN,by rw [hlk2];exact ho18,hD,hz8⟩
     | exact⟨j + 1,_,_,by omega,rfl,rfl,by rw [hlk2,List.length_append];rfl,hB,hb2,hb4,hb5,hb48,hb103,hb39,hb17,hBC,hzN,by rw [hlk2,← u4,List.length_append];exact ho198,hD,hz8⟩
   rcases hpw with ⟨rfl,hno⟩ | ⟨xq,ob,oo,Sx,Bx,csx,cbx,rfl,hso,_⟩
   rotate_left
   · cases c188
   have hlk2:lkR L K (n0.ln.take (j + 1))=lkR L K (n0.ln.take j) ++ [(((j6 L f:Nat):Int),tq)]:=by
     rw [List.take_succ_eq_append_getElem hjl,hx,Xv,lk_kept c182.1 (by show (f:Int)≤K;omega) rfl hno]
   refine zn7 ?_;refine wl (qV (v:= .int _ _) U3 rfl rfl (hb103.cell (yk oM))) (zn1 ?_);refine xz (v:= .int _ _) hb20 rfl rfl qX (by first | decide | simp) rfl rfl (fun w51 hq q49=>?_);replace ho18:=ho18.tr1 q49 (neL or_ho18_b20);replace hzN:=nLT hzN q49.size;replace hD:=uz hD q49 (fun hm=>by have:=List.mem_singleton.1 hm;have:=or_hD_b20;omega);replace hz8:=hz8.tr q49 (fun g hg=> .inr (.inr (by rw [List.mem_singleton.1 hg];exact or_hz8_b20)));replace hb20:=hq;replace hb20:Blk w51 b20 115 #[.int .i64 ((j6 L f:Nat):Int),.int .i64 tq]:=by rw [← nu_at hfK.1 hfK.2 hno];exact hb20
   refine zn5 ?_;refine qw (cs:=#[_,_]) [(0,.agg _)] rfl u7 j7 gz dE dE kR rfl (fun b197 w52 hb197 q50 hr=>?_);have:=nLL hb2.u.lt hr;have:=nLL hb4.u.lt hr;have:=nLL hb5.u.lt hr;have:=nLL hb48.u.lt hr;have:=nLL hb103.u.lt hr;have:=nLL hb39.u.lt hr;have:=nLL hb17.u.lt hr;have or_ho18_b197:=fun g hg=>nLL (ho18.lt g hg).2 hr
   have or_hD_b197:=(nLL (y5 hD) hr)
   have or_hz8_b197:=(nLT hz8.le hr)
   have:=nLL hb20.lt hr;have lo197:=nLT (Bel.size hB.u) hr;have lo_hBC_b197:=nLT (Bel.size hBC.u) hr;replace hzN:=nLT hzN q50.size;replace hD:=uz hD q50 (by simp);replace ho18:=ho18.tr0 q50;refine vX u7 DQ rfl dE ho18 hb197 rfl rfl rfl zQ dE oM oM hzN (fun g198 cap198 w53 ho198 q51 hg=>?_);have ne_ho198_b2:g198≠b2:=neA ho18 hb2.u.lt hg
   have ne_ho198_b4:g198≠b4:=neA ho18 hb4.u.lt hg
   have ne_ho198_b5:g198≠b5:=neA ho18 hb5.u.lt hg
   have ne_ho198_b48:g198≠b48:=neA ho18 hb48.u.lt hg
   have ne_ho198_b103:g198≠b103:=neA ho18 hb103.u.lt hg
   have ne_ho198_b39:g198≠b39:=neA ho18 hb39.u.lt hg
   have ne_ho198_b17:g198≠b17:=neA ho18 hb17.u.lt hg
   have ne_ho198_b20:g198≠b20:=neB hb20.u.lt hg (neL or_ho18_b20)
   replace hB:=hB.u.tr q51 (fun g hg=>nLT oM (ho18.lt g hg).1);replace hb2:=(hb2.tr1 q49 oM).tr0 q50;replace hb2:=hb2.ta q51 ho18;replace hb4:=(hb4.tr1 q49 oM).tr0 q50;replace hb4:=hb4.ta q51 ho18;replace hb5:=(hb5.tr1 q49 oM).tr0 q50;replace hb5:=hb5.ta q51 ho18;replace hb48:=(hb48.tr1 q49 oM).tr0 q50;replace hb48:=hb48.ta q51 ho18;replace hb103:=(hb103.tr1 q49 oM).tr0 q50;replace hb103:=hb103.ta q51 ho18;replace hBC:=hBC.u.tr q51 (fun g hg=>nLT oM (ho18.lt g hg).1);replace hb39:=(hb39.tr1 q49 oM).tr0 q50;replace hb39:=hb39.ta q51 ho18;replace hb17:=(hb17.tr1 q49 oM).tr0 q50;replace hb17:=hb17.ta q51 ho18;replace hzN:=nLT hzN q51.size;replace hD:=uz hD q51 (fun hm=>by have:=(ho18.lt _ hm).1;omega);replace hz8:=hz8.tr0 q50;replace hz8:=hz8.tr q51 (fun g hg=> .inr (.inr (nLT hn8 (ho18.lt g hg).1)));replace hb20:=hb20.tr0 q50;replace hb20:=hb20.tb q51 (neL or_ho18_b20);refine zn8 ?_;refine xv (n0.ln.length - (j + 1)) oM agA ?_
   first
    | exact⟨j + 1,A18,c18,by omega,rfl,rfl,congrArg (fun n=>Value.slice A18 n c18) (by rw [hlk2]),hB,hb2,hb4,hb5,hb48,hb103,hb39,hb17,hBC,hzN,by rw [hlk2];exact ho18,hD,hz8⟩
    | exact⟨j + 1,_,_,by omega,rfl,rfl,by rw [hlk2,List.length_append];rfl,hB,hb2,hb4,hb5,hb48,hb103,hb39,hb17,hBC,hzN,by rw [hlk2,← u4,List.length_append];exact ho198,hD,hz8⟩
  have hlk2:lkR L K (n0.ln.take (j + 1))=lkR L K (n0.ln.take j) ++ [((f:Int),tq)]:=by
    rw [List.take_succ_eq_append_getElem hjl,hx,Xv,lk_in (by show ¬(1≤(f:Int)∧(f:Int)≤K);omega)]
  refine zn5 ?_;refine qw (cs:=#[_,_]) [(0,.agg _)] rfl u7 j7 gz dE dE kR rfl (fun b197 w54 hb197 q52 hr=>?_);have:=nLL hb2.lt hr;have:=nLL hb4.lt hr;have:=nLL hb5.lt hr;have:=nLL hb48.lt hr;have:=nLL hb103.lt hr;have:=nLL hb39.lt hr;have:=nLL hb17.lt hr;have or_ho18_b197:=fun g hg=>nLL (ho18.lt g hg).2 hr
  have or_hD_b197:=(nLL (y5 hD) hr)
  have or_hz8_b197:=(nLT hz8.le hr)
  have:=nLL hb20.lt hr;have lo197:=nLT (Bel.size hB) hr;have lo_hBC_b197:=nLT (Bel.size hBC) hr;replace hzN:=nLT hzN q52.size;replace hD:=uz hD q52 (by simp);replace ho18:=ho18.tr0 q52;refine vX u7 DQ rfl dE ho18 hb197 rfl rfl rfl zQ dE oM oM hzN (fun g198 cap198 w55 ho198 q53 hg=>?_);have ne_ho198_b2:g198≠b2:=neA ho18 hb2.u.lt hg
  have ne_ho198_b4:g198≠b4:=neA ho18 hb4.u.lt hg
  have ne_ho198_b5:g198≠b5:=neA ho18 hb5.u.lt hg
  have ne_ho198_b48:g198≠b48:=neA ho18 hb48.u.lt hg
  have ne_ho198_b103:g198≠b103:=neA ho18 hb103.u.lt hg
  have ne_ho198_b39:g198≠b39:=neA ho18 hb39.u.lt hg
  have ne_ho198_b17:g198≠b17:=neA ho18 hb17.u.lt hg
  have ne_ho198_b20:g198≠b20:=neB hb20.u.lt hg (neL or_ho18_b20)
  replace hB:=hB.u.tr q53 (fun g hg=>nLT oM (ho18.lt g hg).1);replace hb2:=hb2.tr0 q52;replace hb2:=hb2.ta q53 ho18;replace hb4:=hb4.tr0 q52;replace hb4:=hb4.ta q53 ho18;replace hb5:=hb5.tr0 q52;replace hb5:=hb5.ta q53 ho18;replace hb48:=hb48.tr0 q52;replace hb48:=hb48.ta q53 ho18;replace hb103:=hb103.tr0 q52;replace hb103:=hb103.ta q53 ho18;replace hBC:=hBC.u.tr q53 (fun g hg=>nLT oM (ho18.lt g hg).1);replace hb39:=hb39.tr0 q52;replace hb39:=hb39.ta q53 ho18;replace hb17:=hb17.tr0 q52;replace hb17:=hb17.ta q53 ho18;replace hzN:=nLT hzN q53.size;replace hD:=uz hD q53 (fun hm=>by have:=(ho18.lt _ hm).1;omega);replace hz8:=hz8.tr0 q52;replace hz8:=hz8.tr q53 (fun g hg=> .inr (.inr (nLT hn8 (ho18.lt g hg).1)));replace hb20:=hb20.tr0 q52;replace hb20:=hb20.tb q53 (neL or_ho18_b20);refine zn8 ?_;refine xv (n0.ln.length - (j + 1)) oM agA ?_
  first
   | exact⟨j + 1,A18,c18,by omega,rfl,rfl,congrArg (fun n=>Value.slice A18 n c18) (by rw [hlk2]),hB,hb2,hb4,hb5,hb48,hb103,hb39,hb17,hBC,hzN,by rw [hlk2];exact ho18,hD,hz8⟩
   | exact⟨j + 1,_,_,by omega,rfl,rfl,by rw [hlk2,List.length_append];rfl,hB,hb2,hb4,hb5,hb48,hb103,hb39,hb17,hBC,hzN,by rw [hlk2,← u4,List.length_append];exact ho198,hD,hz8⟩
 have hje:j=n0.ln.length:=by omega
 refine yv ?_;refine wl (xk (i:=0) U28 kQ rfl rfl hgok.pos rfl) (zn1 ?_);refine xz (v:= .slice _ _ _) hb39 rfl rfl Ez (Array.getElem?_eq_some_iff.1 (hc9 1 _ (hv9 1 _ rfl))).1 rfl (show cs9.setIfInBounds (0 + 0 * 2 + 1) _=cs9.setIfInBounds 1 _ from rfl) (fun w56 hq q54=>?_);replace ho18:=ho18.tq q54;replace hzN:=nLT hzN q54.size;replace hD:=uz hD q54 (fun hm=>by have:=List.mem_singleton.1 hm;have:=or_hD_b39;omega);replace hz8:=hz8.tr q54 (fun g hg=> .inr (.inr (by rw [List.mem_singleton.1 hg];exact or_hz8_b39)));replace hb39:=hq;have hN:NodesIn w56 (some ⟨b39,0,none⟩) (grR L K r.rule.gr):=by
   rw [hje,List.take_length] at ho18;rw [hgr];replace hBC:=hBC.tr1 q54 lo_hBC_b39;exact Dk hb39 (by rw [hje,List.take_length]) hc9 hR hBC (M0 ho18) (by rw [← hgr];exact hP.g.1)
 refine zn5 ?_;replace hb5:=hb5.tr1 q54 oM;have z5:=hb5.lt;replace hb4:=hb4.tr1 q54 oM;have z4:=hb4.lt;have zD:=y5 hD;replace hB:=hB.tr1 q54 lo39;have hszv:=Bel.size hB;refine zV fn79 (fcanq_any _ r.rule.gr.length c39 fs.length (grR L K r.rule.gr) _ hN (grR_len L K _) (grR_ok L hgok.two) oM) rfl (fun e' w57 hr=>?_);obtain⟨⟨A5,c5,rfl,hz5⟩,q55⟩:=hr;replace q55:=sB q55;replace hzN:=nLT hzN q55.size;replace hD:=uz hD q55 (by simp);refine⟨_,rfl,?_⟩;refine zn1 ?_;replace hb5:=hb5.tr0 q55;refine uK hb5 rfl rfl ZK (by first | decide | simp) zQ rfl (fun w58 hq q56=>?_);replace ho18:=ho18.tr0 q55;replace ho18:=ho18.tq q56;replace hzN:=nLT hzN q56.size;replace hD:=uz hD q56 (fun hm=>by have:=List.mem_singleton.1 hm;omega);replace hz8:=hz8.tr0 q55;replace hz8:=hz8.lo1 q56 lM5;replace hz5:=hz5.lo1 q56 z5;replace hb5:=hq;replace hb5:Blk w58 b5 54 #[.string (nmN r ch r.om.length),.slice A5 (Vk (grR L K r.rule.gr)).length c5,.int .i64 kd,.int .i64 (wtN r ch r.om.length),.int .i64 ((xZ (kpT L (qJ τ) K) (mT r.rule.mean L kd K))).kind,.string ((xZ (kpT L (qJ τ) K) (mT r.rule.mean L kd K))).name,.int .i64 ((xZ (kpT L (qJ τ) K) (mT r.rule.mean L kd K))).index,.string ((xZ (kpT L (qJ τ) K) (mT r.rule.mean L kd K))).type.base,.slice S8 ((xZ (kpT L (qJ τ) K) (mT r.rule.mean L kd K))).type.args.length s8,.slice B8 ((xZ (kpT L (qJ τ) K) (mT r.rule.mean L kd K))).args.length c8]:=hb5;refine zn5 ?_;refine zk hb4.u rfl rfl yQ rfl zQ (fun w59 hq q57=>?_);replace ho18:=ho18.tq q57;replace hzN:=nLT hzN q57.size;replace hD:=uz hD q57 (fun hm=>by have:=List.mem_singleton.1 hm;omega);replace hz8:=hz8.lo1 q57 lM4;replace hz5:=hz5.lo1 q57 z4;replace hb4:=hq;refine zn3 ?_;refine fin1M (v0:=(.agg #[.string (nmN r ch r.om.length),.slice A5 (Vk (grR L K r.rule.gr)).length c5,.int .i64 kd,.int .i64 (wtN r ch r.om.length),.int .i64 ((xZ (kpT L (qJ τ) K) (mT r.rule.mean L kd K))).kind,.string ((xZ (kpT L (qJ τ) K) (mT r.rule.mean L kd K))).name,.int .i64 ((xZ (kpT L (qJ τ) K) (mT r.rule.mean L kd K))).index,.string ((xZ (kpT L (qJ τ) K) (mT r.rule.mean L kd K))).type.base,.slice S8 ((xZ (kpT L (qJ τ) K) (mT r.rule.mean L kd K))).type.args.length s8,.slice B8 ((xZ (kpT L (qJ τ) K) (mT r.rule.mean L kd K))).args.length c8])) (.inl rfl) rfl hD (fun w9 hs9=>?_)
 replace hB:=((hB.tr0 q55).tr1 q56 lo5).tr1 q57 lo4;replace hB:=hB.tr hs9 (fun g hg=>by rw [List.mem_singleton.1 hg];exact lDw);replace hb4:=hb4.tr1 hs9 (Nat.ne_of_lt lD4);replace hz8:=hz8.lo1 hs9 lMD;replace hz5:=hz5.lo1 hs9 zD;refine⟨(zy U54 rfl rfl hb4.range0 yQ),?_⟩;exact⟨⟨A5,S8,B8,c5,s8,c8,by rw [Ky hany hL hKk hkd],by rw [Ky hany hL hKk hkd];exact((hz5.mono hszv hz5.le (Nat.le_refl _)).and (hz8.mono lMw hz8.le (Nat.le_refl _))).imp (fun _ h=>⟨h.1,h.2.1,h.2.2⟩)⟩,hB⟩
end Go.Proofs.YtbcpgfnfiekbiaaGreatDoor
