/- What these functions of the program compute, at every world: glosswright/glosswrightref4.Expanded. What these functions of the program compute, at every world: glosswright/glosswrightequal.sameSimple. What these functions of the program compute, at every world: glosswright/glosswrightequal.sameTerm. A graph whose nodes are numbered in another way: valid, and of the same canonical form. No program in sight. What is reached from a node of a valid graph is a valid graph; a path in it leads where the path leads in the graph. No program in sight. Maps between feature graphs: when there is one, that there is one only, and the states of the two searches for it. No program in sight. -/
import Derived.Test.YtbcpgfnfiekbiaaGreatDoorU
import Derived.Test.YtbcpgfnfiekbiaaGreatDoorTrm
import Derived.Test.YtbcpgfnfiekbiaaGreatDoorOEx
import Derived.Test.YtbcpgfnfiekbiaaGreatDoorStk
import Derived.Test.YtbcpgfnfiekbiaaGreatDoorGrm
namespace Go.Proofs.YtbcpgfnfiekbiaaGreatDoor
open Go.RowKit
theorem B7 (l:List Ty) (fs:List Ft) (r:Orl) (c:Nat) (x:Rl) (hx:x=kX l fs r (tyA r) (kW c)) {v:Tv} {τ:Ts} (w0 w:World) (hB0:Bel w0 w) (hh0:(qZ l fs).1=0) (hK:OrK l fs r) (hm:TyIs r.rule.mean v τ) (G SA BA OA:Option Addr) (cg cs cb co qb:Nat) (hP:OrP w0 r G SA BA OA) (hb:Blk w qb 4 (row r.om.length (fun j=> .bool (bkN (kW c) r.om.length j)))):Calls Tryz.prog 50 #[.agg #[.string (r.rule).name,.slice G (r.rule).gr.length cg,.int .i64 (r.rule).kids,.int .i64 (r.rule).wt,.int .i64 ((r.rule).mean).kind,.string ((r.rule).mean).name,.int .i64 ((r.rule).mean).index,.string ((r.rule).mean).type.base,.slice SA ((r.rule).mean).type.args.length cs,.slice BA ((r.rule).mean).args.length cb,.slice OA r.om.length co],.slice (some ⟨qb,0,none⟩) r.om.length r.om.length] w fun e w'=>(∃ (G5 S5 B5:Option Addr) (g5 s5 t5:Nat),e= .returned (.agg #[.string (x).name,.slice G5 (x).gr.length g5,.int .i64 (x).kids,.int .i64 (x).wt,.int .i64 ((x).mean).kind,.string ((x).mean).name,.int .i64 ((x).mean).index,.string ((x).mean).type.base,.slice S5 ((x).mean).type.args.length s5,.slice B5 ((x).mean).args.length t5])∧Hv w.heap.size [] w'.heap.size w' (fun w2=>Kw w0 w2→NodesIn w2 G5 x.gr∧SimsIn w2 S5 x.mean.type.args∧TmsIn w2 B5 x.mean.args))∧Bel w w':=by
  subst hx;rw [← H4 hm];exact RQ l fs r (kW c) w0 w hB0 hh0 hK hm G SA BA OA cg cs cb co qb hP hb.lt (fun k hk=>hb.cell (by rw [yk hk,bk_all hk]))
theorem tmod_nat (m:Nat):((m:Nat):Int).tmod 2=((m % 2:Nat):Int):=rfl
theorem seen_hit {cur:List Rl} {k:Nat} {s:ByteArray} (h:k < cur.length) (e:(cur[k]).name=s):jX (cur.map (·.name)) s=true:=
  List.any_eq_true.2 ⟨_,List.mem_map.2 ⟨_,List.getElem_mem h,rfl⟩,decide_eq_true e⟩
theorem seen_miss {cur:List Rl} {s:ByteArray} (h:∀ p (hp:p < cur.length),¬(cur[p]).name=s):jX (cur.map (·.name)) s=false:=by
  refine Bool.eq_false_iff.2 (fun e=>?_);obtain⟨u,hu,he⟩:=List.any_eq_true.1 e;obtain⟨y,hy,rfl⟩:=List.mem_map.1 hu;obtain⟨p,hp,rfl⟩:=List.getElem_of_mem hy;exact h p hp (of_decide_eq_true he)
theorem fn13:zK Tryz.prog 13=true:=by kernel_rfl
theorem fn50:zK Tryz.prog 50=true:=by kernel_rfl
set_option maxRecDepth 100000 in
set_option maxHeartbeats 4000000 in
theorem SQ (AT AF:Option Addr) (ct cf:Nat) (l:List Ty) (fs:List Ft) (rs:List Orl) (AR:Option Addr) (cr:Nat) (w0 w:World) (hB0:Bel w0 w) (hr0:(yX l fs).1=0) (hTy:TypesIn w AT l) (hF:FeatsIn w AF fs) (hRs:OrsIn w0 AR rs):Calls Tryz.prog 15 #[.agg #[.slice AT l.length ct,.slice AF fs.length cf],.slice AR rs.length cr] w fun e w'=>ExO (fun w2=>Kw w0 w2) w.heap.size (N0 l fs kW rs) w' e∧Bel w w':=by
 have hmr:=hRs.1;unfold yJ at hmr;obtain⟨hh0,hf3⟩:=Z3 hr0;have hS:=ZV hh0;have hfo:=O9 hh0;refine enT Tryz.func15 Tryz.ntmps15 rfl rfl fun hB=>?_;refine zn2 ?_;refine x6 (v:= .agg #[_,_]) (cs:=#[_,_]) rfl rfl (fun b2 w1 hb2 q1 hr=>?_);clear hr;refine waS rfl ?_;refine qq (cs:=#[.int .i64 0,.int .i64 0]) qv rfl (fun b5 w2 hb5 q2 hr=>?_);have lo5:=nLT (Bel.size hB.u) hr;clear hr;refine yv ?_;refine zX rfl (fun c22=>?_) (fun c22=>?_)
 ·refine zn2 ?_;refine wl (xY (v0:= .int _ _) (v1:= .int _ _) (fun v0 v1=>#[v0,v1]) rfl rfl kR) (waS rfl ?_);refine zk hb5 rfl rfl zq rfl zQ (fun w3 hq q3=>?_);replace hb5:=hq;refine zn4 ?_;refine uy (.inl rfl) rfl rfl (zy U36 rfl rfl hb5.range0 zq) ?_;exact⟨u8 (C7 oM),hB.u⟩
 have hmany:¬40 < rs.length:=by omega
 refine vq ?_;refine zW (rg [4,6,7,8] 26 16) (fun m g w'=>∃ i:Nat,i≤rs.length∧m=rs.length - i∧g 26= .int .i64 i∧Bel w w'∧Blk w' b2 25 #[.slice AT l.length ct,.slice AF fs.length cf]∧Blk w' b5 36 #[.int .i64 0,.int .i64 0]∧x8 (orN l fs rs) 0 rs.length=x8 (orN l fs rs) i (rs.length - i)) (rs.length) ?_ (fun m g4 w4 hI=>?_)
 ·exact⟨0,Nat.zero_le _,rfl,rfl,hB.u,hb2.u,hb5,rfl⟩
 obtain⟨i,hi,hmi,h26,hB,hb2,hb5,hO'⟩:=hI;refine zZ 26 _ h26 nu (zn6 ?_);refine zX rfl (fun c27=>?_) (fun c27=>?_)
 ·have hil:i < rs.length:=by omega
  obtain⟨r,hr⟩:∃ r,r=rs[i]:=⟨_,rfl⟩
  obtain⟨rb,ro,G,SA,BA,OA,cg,cs,cb,co,hre,hrb,hrr,hP⟩:=hRs.at_ hil;unfold orC at hrr;rw [← hr] at hrr hP;refine zn7 ?_;refine wl (xk (i:=i) U50 Ik (show ev _ _ _=_ from Z1 _ _ hre) rfl oM rfl) (wl (zY U57 rfl rfl (hB.range (nLL hrb hB0.size) (hB0.range hrb hrr)) Ik) ?_);refine qq (cs:=#[.string ⟨#[]⟩,.slice none 0 0,.int .i64 0,.int .i64 0,.int .i64 0,.string ⟨#[]⟩,.int .i64 0,.string ⟨#[]⟩,.slice none 0 0,.slice none 0 0,.slice none 0 0]) ze57 rfl (fun b7 w5 hb7 q4 hr=>?_);have:=nLL hb2.lt hr;have:=nLL hb5.lt hr;have lo7:=nLT (Bel.size hB) hr;clear hr;refine waI rfl ?_;refine zk hb7 rfl rfl Ik rfl zQ (fun w6 hq q5=>?_);replace hb7:=hq;refine zn6 ?_;refine zV fn13 (D7 AT AF ct cf l fs r G SA BA OA cg cs cb co _ hh0 (hTy.mono hB.u) (hF.mono hB.u) ((hP.mono hB0).mono hB.u)) rfl (fun e' w7 hr=>?_);obtain⟨rfl,q6⟩:=hr;replace q6:=sB q6;refine⟨_,rfl,?_⟩;refine xV (cs:=#[.int .i64 0,.int .i64 0]) qv rfl (fun _=>rfl) (fun _=>rfl) zq rfl zQ (fun b8 w9 hb8 q7 hr=>?_);clear hr;refine zn9 ?_;refine zX rfl (fun c36=>?_) (fun c36=>?_)
  ·refine yj ?_;refine kz [] [5] [0,1,2,3,4,5] rfl (fun w10 q8=>?_);refine zn3 ?_;refine hl rfl (fun _=>xY (v0:= .int _ _) (v1:= .int _ _) (fun v0 v1=>#[v0,v1]) rfl rfl kR) (zn1 ?_);refine h1 rfl ?_;refine zk hb5.u rfl rfl zq rfl zQ (fun w11 hq q9=>?_);have hsH5:=q9;replace hb5:=hq;refine zJ (V0 [] (zn8 ?_));refine uy (.inl rfl) rfl rfl (zy U36 rfl rfl hb5.range0 zq) ?_;exact⟨u8 (xf_or hmany (hO'.trans (qQ oM (J4 hil hr) c36)) c36),hB.u⟩
  have hoz:=Decidable.not_not.1 c36;refine zn7 ?_;refine xv (rs.length - (i + 1)) oM agA ?_;exact⟨i + 1,by omega,rfl,rfl,hB.u,hb2.u,hb5.u,hO'.trans (yw hil ((J4 hil hr).trans hoz))⟩
 have hOz:x8 (orN l fs rs) 0 rs.length=(0,0):=hO'.trans (vk oM);have hall:∀ k (h:k < rs.length),(Q0 l fs rs[k]).1=0:=fun k h=>(J4 h rfl).symm.trans (jv (by rw [hOz]) k (Nat.zero_le _) oM)
 refine yZ ?_;obtain⟨nA,hnA⟩:∃ z,z=w4.heap.size:=⟨_,rfl⟩
 have lT:w.heap.size≤nA:=by rw [hnA];exact Bel.size hB
 have lA:b2 < nA∧b5 < nA:=by rw [hnA];exact⟨hb2.lt,hb5.lt⟩
 have hzN:nA≤w4.heap.size:=by rw [hnA];exact Nat.le_refl _
 clear hnA;refine zn7 ?_;refine zW [4,9,10,11,12,13,14,15,16,18,19,44,45,46,47,48,49,50,51,52,53,54,55,56,57,58,59,60,61,62,63,64,65,66,67,68,69,70,71,72,73,74,75,76,77,78,79,80,81,82,83,84,85,86,87,88,89,90,91,92,93,94,95,96,97,98,99,100,101,102,103,104,105,106,107,108,109,110,111,112,113] (fun m g w'=>∃ (i:Nat) (cur:List Rl) (A9:Option Addr) (c9 n3:Nat) (vs:List Value),i≤rs.length∧m=rs.length - i∧g 44= .int .i64 i∧g 9= .slice A9 cur.length c9∧Bel w w'∧Blk w' b2 25 #[.slice AT l.length ct,.slice AF fs.length cf]∧Blk w' b5 36 #[.int .i64 0,.int .i64 0]∧nA≤w'.heap.size∧Own w' nA 54 10 A9 cur.length c9 vs∧Hv nA (aL A9) n3 w' (fun w2=>RowD (rlK w0) 10 w2 cur vs)∧cur.length≤40∧Q6 l fs (M8 l fs tyA kW i (rs.drop i)) cur=Q6 l fs (M8 l fs tyA kW 0 rs) []) (rs.length) ?_ (fun m g12 w12 hI=>?_)
 ·exact⟨0,[],none,0,_,[],Nat.zero_le _,rfl,rfl,rfl,hB,hb2,hb5,hzN,Own.nil _ _ _ _,(Hv.triv nA [] _ (fun w=> .nil)),Nat.zero_le _,rfl⟩
 obtain⟨i,cur,A9,c9,n3,vs,hi,hmi,h44,h9,hB,hb2,hb5,hzN,ho9,hH,hcur,hX⟩:=hI;refine zZ 44 _ h44 nu (zZ 9 _ h9 nu (zn6 ?_));refine zX rfl (fun c45=>?_) (fun c45=>?_)
 ·have hil:i < rs.length:=by omega
  obtain⟨r,hr⟩:∃ r,r=rs[i]:=⟨_,rfl⟩
  obtain⟨rb,ro,G,SA,BA,OA,cg,cs,cb,co,hre,hrb,hrr,hP⟩:=hRs.at_ hil;unfold orC at hrr;rw [← hr] at hrr hP;have hoz:(Q0 l fs r).1=0:=by rw [hr];exact hall i hil
  have hK:=F8 hoz;obtain⟨hkd,htm⟩:=Zw hK.rf;obtain⟨v,τ,hm⟩:=Jw htm;have hfew:=hK.few;have hmo:=hP.o.1;rw [all_at hil hr] at hX;obtain⟨N,hN⟩:∃ N,2 ^ r.om.length=N:=⟨_,rfl⟩
  have hN4:N≤4:=by rw [← hN];exact Nat.pow_le_pow_right dE (by omega:r.om.length≤2)
  refine zn7 ?_;refine wl (xk (i:=i) U50 Ik (show ev _ _ _=_ from Z1 _ _ hre) rfl oM rfl) (wl (zY U57 rfl rfl (hB.range (nLL hrb hB0.size) (hB0.range hrb hrr)) Ik) ?_);refine qq (cs:=#[.string ⟨#[]⟩,.slice none 0 0,.int .i64 0,.int .i64 0,.int .i64 0,.string ⟨#[]⟩,.int .i64 0,.string ⟨#[]⟩,.slice none 0 0,.slice none 0 0,.slice none 0 0]) ze57 rfl (fun b11 w13 hb11 q10 hr=>?_);have:=nLL hb2.lt hr;have:=nLL hb5.lt hr;have or_ho9_b11:=fun g hg=>nLL (ho9.lt g hg).2 hr
  have or_hH_b11:=(nLT hH.le hr)
  have lo11:=nLT (Bel.size hB) hr;replace hzN:=nLT hzN q10.size;clear hr;refine waI rfl ?_;refine zk hb11 rfl rfl Ik rfl zQ (fun w14 hq q11=>?_);replace ho9:=ho9.tr0 q10;replace ho9:=ho9.tr1 q11 (neL or_ho9_b11);replace hzN:=nLT hzN q11.size;replace hH:=hH.tr0 q10;replace hH:=hH.tr q11 (fun g hg=> .inr (.inr (by rw [List.mem_singleton.1 hg];exact or_hH_b11)));replace hb11:=hq;refine ky ?_;refine wl (HY (b:=r.om.length) (c:=N) rfl rfl oM hN) (zn4 ?_);refine zW (rg [4,9,13,14,15,16,18,19] 54 59) (fun m g w'=>∃ (c:Nat) (cur:List Rl) (A9:Option Addr) (c9 n3:Nat) (vs:List Value),c≤N∧m=N - c∧g 54= .int .i64 c∧g 9= .slice A9 cur.length c9∧Bel w w'∧Blk w' b2 25 #[.slice AT l.length ct,.slice AF fs.length cf]∧Blk w' b5 36 #[.int .i64 0,.int .i64 0]∧Blk w' b11 57 #[.string (r.rule).name,.slice G (r.rule).gr.length cg,.int .i64 (r.rule).kids,.int .i64 (r.rule).wt,.int .i64 ((r.rule).mean).kind,.string ((r.rule).mean).name,.int .i64 ((r.rule).mean).index,.string ((r.rule).mean).type.base,.slice SA ((r.rule).mean).type.args.length cs,.slice BA ((r.rule).mean).args.length cb,.slice OA r.om.length co]∧nA≤w'.heap.size∧Own w' nA 54 10 A9 cur.length c9 vs∧Hv nA (aL A9) n3 w' (fun w2=>RowD (rlK w0) 10 w2 cur vs)∧cur.length≤40∧(∀ g ∈ aL A9,g≠b11)∧Q6 l fs (Mv l fs kW i c r (rs.drop (i + 1))) cur=Q6 l fs (M8 l fs tyA kW 0 rs) []) (N) ?_ (fun m g16 w15 hI=>?_)
  ·exact⟨0,cur,A9,c9,n3,vs,Nat.zero_le _,rfl,rfl,rfl,hB.u,hb2.u,hb5.u,hb11,hzN,ho9,hH,hcur,(fun g hg=>Nat.ne_of_lt (or_ho9_b11 g hg)),hX⟩
  obtain⟨c,cur,A9,c9,n3,vs,hc,hmc,h54,h9,hB,hb2,hb5,hb11,hzN,ho9,hH,hcur,or_ho9_b11,hX⟩:=hI;refine zZ 54 _ h54 nu (zZ 9 _ h9 nu (zn6 ?_));refine zX rfl (fun c55=>?_) (fun c55=>?_)
  ·have hcl:c < N:=by omega
   rw [Ry oM] at hX;obtain⟨x,hx⟩:∃ x,x=kX l fs r (tyA r) (kW c):=⟨_,rfl⟩
   rw [← hx] at hX;refine ky ?_;refine gv (m:=r.om.length) QX I0 rfl rfl rfl oM oM (fun b58 w16 hb58 q12 hr=>?_);have:=nLL hb2.lt hr;have:=nLL hb5.lt hr;have:=nLL hb11.lt hr;have or_ho9_b58:=fun g hg=>nLL (ho9.lt g hg).2 hr
   have or_hH_b58:=(nLT hH.le hr)
   have lo58:=nLT (Bel.size hB) hr;replace hzN:=nLT hzN q12.size;clear hr;refine vq ?_;replace ho9:=ho9.tr0 q12;replace hH:=hH.tr0 q12;refine zW (rg [15] 60 13) (fun m g w'=>∃ q:Nat,q≤r.om.length∧m=r.om.length - q∧g 60= .int .i64 q∧Bel w w'∧Blk w' b2 25 #[.slice AT l.length ct,.slice AF fs.length cf]∧Blk w' b5 36 #[.int .i64 0,.int .i64 0]∧Blk w' b11 57 #[.string (r.rule).name,.slice G (r.rule).gr.length cg,.int .i64 (r.rule).kids,.int .i64 (r.rule).wt,.int .i64 ((r.rule).mean).kind,.string ((r.rule).mean).name,.int .i64 ((r.rule).mean).index,.string ((r.rule).mean).type.base,.slice SA ((r.rule).mean).type.args.length cs,.slice BA ((r.rule).mean).args.length cb,.slice OA r.om.length co]∧Blk w' b58 4 (row r.om.length (fun j=> .bool (bkN (kW c) q j)))∧nA≤w'.heap.size∧Own w' nA 54 10 A9 cur.length c9 vs∧Hv nA (aL A9) n3 w' (fun w2=>RowD (rlK w0) 10 w2 cur vs)) (r.om.length) ?_ (fun m g20 w17 hI=>?_)
   ·replace hB:=hB.tr0 q12;replace hb2:=hb2.tr0 q12;replace hb5:=hb5.tr0 q12;replace hb11:=hb11.tr0 q12;exact⟨0,Nat.zero_le _,rfl,rfl,hB,hb2,hb5,hb11,by rw [bk_zero];exact hb58,hzN,ho9,hH⟩
   obtain⟨q,hq,hmq,h60,hB,hb2,hb5,hb11,hb58,hzN,ho9,hH⟩:=hI;refine zZ 60 _ h60 nu (zn6 ?_);refine zX rfl (fun c61=>?_) (fun c61=>?_)
   ·have hql:q < r.om.length:=by omega
    have hbq:decide (((c / 2 ^ q % 2:Nat):Int)=1)=kW c q:=decide_eq_decide.2 oM;refine QJ ?_;refine wl (HY (b:=q) (c:=(2 ^ q)) rfl rfl oM rfl) (wl (r_quoI (a:=c) (b:=(2 ^ q)) rfl rfl (Nat.two_pow_pos q) oM) (wl (r_rem (c:=((c / 2 ^ q % 2:Nat):Int)) rfl rfl dE (tmod_nat _)) (zn2 ?_)));refine xz (v:= .bool _) hb58 rfl rfl vj (by rw [row_size];omega) rfl jQ (fun w18 hq q13=>?_);replace ho9:=ho9.tr1 q13 (neL or_ho9_b58);replace hzN:=nLT hzN q13.size;replace hH:=hH.tr q13 (fun g hg=> .inr (.inr (by rw [List.mem_singleton.1 hg];exact or_hH_b58)));replace hb58:=hq;rw [bk_row hbq] at hb58;refine zn7 ?_;refine xv (r.om.length - (q + 1)) oM agA ?_;exact⟨q + 1,by omega,rfl,rfl,hB.u,hb2.u,hb5.u,hb11.u,hb58,hzN,ho9,hH⟩
   have hqe:q=r.om.length:=by omega
   rw [hqe] at hb58;refine zn9 ?_;have zo:=fun g hg=>(ho9.lt g hg).2
   have z5:=hb5.lt;have hlz:=hzN;refine zV fn50 (B7 l fs r c x hx w0 _ (hB0.then hB) hh0 hK hm G SA BA OA cg cs cb co b58 hP hb58) rfl (fun e' w19 hr=>?_);obtain⟨⟨G5,S5,B5,g5,s5,t5,rfl,hz5⟩,q14⟩:=hr;replace q14:=sB q14;replace hzN:=nLT hzN q14.size;refine⟨_,rfl,?_⟩;refine qq (cs:=#[.string ⟨#[]⟩,.slice none 0 0,.int .i64 0,.int .i64 0,.int .i64 0,.string ⟨#[]⟩,.int .i64 0,.string ⟨#[]⟩,.slice none 0 0,.slice none 0 0]) oq rfl (fun b16 w20 hb16 q15 hr=>?_);have:=nLL hb2.u.lt hr;have:=nLL hb5.u.lt hr;have:=nLL hb11.u.lt hr;replace ho9:=ho9.tr0 q14;have or_ho9_b16:=fun g hg=>nLL (ho9.lt g hg).2 hr
   replace hH:=hH.tr0 q14;have or_hH_b16:=(nLT hH.le hr)
   have or_hz5_b16:=(nLT hz5.le hr)
   have lo16:=nLT (Bel.size hB.u) hr;replace hzN:=nLT hzN q15.size;clear hr;refine zk hb16 rfl rfl yQ rfl zQ (fun w21 hq q16=>?_);replace ho9:=ho9.tr0 q15;replace ho9:=ho9.tr1 q16 (neL or_ho9_b16);replace hzN:=nLT hzN q16.size;replace hH:=hH.tr0 q15;replace hH:=hH.tr q16 (fun g hg=> .inr (.inr (by rw [List.mem_singleton.1 hg];exact or_hH_b16)));replace hz5:=hz5.tr0 q15;replace hz5:=hz5.tr q16 (fun g hg=> .inr (.inr (by rw [List.mem_singleton.1 hg];exact or_hz5_b16)));replace hb16:=hq;refine zn7 ?_;refine zV YY (V9 x.name _) rfl (fun e' w22 hr=>?_);obtain⟨rfl,q17⟩:=hr;replace q17:=sB q17;replace hzN:=nLT hzN q17.size;refine⟨_,rfl,?_⟩;refine zn3 ?_;refine vK rfl (fun c79=>?_) (fun c79=>?_)
   ·have hnm:xj x.name=false:=by simpa using c79
    refine zn3 ?_;refine wl (xY (v0:= .int _ _) (v1:= .int _ _) (fun v0 v1=>#[v0,v1]) rfl rfl kR) (waS rfl ?_);refine zk hb5.u rfl rfl zq rfl zQ (fun w23 hq q18=>?_);replace hzN:=nLT hzN q18.size;replace hb5:=hq;refine ky ?_;refine uy (.inl rfl) rfl rfl (zy U36 rfl rfl hb5.range0 zq) ?_;exact⟨u8 (Y2 hmany hOz (hX.symm.trans (SK hnm))),hB.u⟩
   have hnm:xj x.name=true:=by simpa using c79
   refine zn4 ?_;have hBL:Bel w22 w22:=Below.refl _ _;replace hB:=((hB.tr0 (q14.trans q15)).tr1 q16 lo16).tr0 q17;replace ho9:=ho9.tr0 q17;replace hH:=hH.tr0 q17;have hRL:RulesIn w22 A9 cur:=(EV ho9 (Nat.le_refl _) hH (Y:=[]) (by simp) (by simp)).now (Kw.of (hB0.then hB));refine zn7 ?_;refine zW (rg [4,18] 84 12) (fun m g w'=>∃ k:Nat,k≤cur.length∧m=cur.length - k∧g 84= .int .i64 k∧Bel w w'∧Bel w22 w'∧Blk w' b16 54 #[.string (x).name,.slice G5 (x).gr.length g5,.int .i64 (x).kids,.int .i64 (x).wt,.int .i64 ((x).mean).kind,.string ((x).mean).name,.int .i64 ((x).mean).index,.string ((x).mean).type.base,.slice S5 ((x).mean).type.args.length s5,.slice B5 ((x).mean).args.length t5]∧(∀ p (h:p < cur.length),p < k→¬(cur[p]).name=x.name)) (cur.length) ?_ (fun m g28 w24 hI=>?_)
   ·exact⟨0,Nat.zero_le _,rfl,rfl,hB,hBL,hb16.u,fun p _ h=>absurd h (Nat.not_lt_zero _)⟩
   obtain⟨k,hk,hmk,h84,hB,hBL,hb16,hno⟩:=hI;refine zZ 84 _ h84 nu (zn6 ?_);refine zX rfl (fun c85=>?_) (fun c85=>?_)
   ·have hkl:k < cur.length:=by omega
    obtain⟨yb,yo,Gy,gy,Sy,sy,By,ty,hye,hyb,hyr,_⟩:=hRL.at_ (Below.refl _ _) hkl;refine zn6 ?_;refine wl (xk (i:=k) U26 yQ (show ev _ _ _=_ from Z1 _ _ hye) rfl oM rfl) (wl (zY U54 rfl rfl (hBL.range hyb hyr) yQ) ?_);refine xV (cs:=#[.string ⟨#[]⟩,.slice none 0 0,.int .i64 0,.int .i64 0,.int .i64 0,.string ⟨#[]⟩,.int .i64 0,.string ⟨#[]⟩,.slice none 0 0,.slice none 0 0]) oq rfl (fun _=>rfl) (fun _=>rfl) yQ rfl zQ (fun b18 w26 hb18 q19 hr=>?_);clear hr;refine vq ?_;refine zX rfl (fun c92=>?_) (fun c92=>?_)
    ·have hsn:=seen_hit hkl c92;refine yj ?_;replace hb5:=((hb5.tr0 (q14.trans q15)).tr1 q16 oM).tr0 q17;replace hBL:=hBL.tr0 q19;replace hb5:=hb5.tr0 (sB hBL);refine zn2 ?_;refine wl (xY (v0:= .int _ _) (v1:= .int _ _) (fun v0 v1=>#[v0,v1]) rfl rfl kR) (waS rfl ?_);refine zk hb5 rfl rfl zq rfl zQ (fun w27 hq q20=>?_);replace hb5:=hq;refine J9 ?_;refine uy (.inl rfl) rfl rfl (zy U36 rfl rfl hb5.range0 zq) ?_;exact⟨u8 (Y2 hmany hOz (hX.symm.trans (SX hnm hsn))),hB.u⟩
    refine zn7 ?_;refine xv (cur.length - (k + 1)) oM agA ?_;replace hB:=hB.tr0 q19;replace hb16:=hb16.tr0 q19;replace hBL:=hBL.tr0 q19
    exact⟨k + 1,by omega,rfl,rfl,hB,hBL,hb16,fun p hp hpk=>by
      by_cases e:p=k
      · subst e;exact c92
      · exact hno p hp oM⟩
   have hsn:jX (cur.map (·.name)) x.name=false:=seen_miss (fun p hp=>hno p hp oM);refine zn7 ?_;have hsL:=sB hBL;replace hb2:=((hb2.tr0 (q14.trans q15)).tr1 q16 oM).tr0 q17;replace hb2:=hb2.tr0 hsL;replace hb5:=((hb5.tr0 (q14.trans q15)).tr1 q16 oM).tr0 q17;replace hb5:=hb5.tr0 hsL;replace hb11:=((hb11.tr0 (q14.trans q15)).tr1 q16 oM).tr0 q17;replace hb11:=hb11.tr0 hsL;replace ho9:=ho9.tr0 hsL;replace hH:=hH.tr0 hsL;replace hz5:=hz5.tr0 q17;replace hz5:=hz5.tr0 hsL;replace hzN:=nLT hzN hsL.size;have hzd:=hz5.now (Kw.of (hB0.then hB));refine zn3 ?_;refine zV W5 (D2 AT AF G5 S5 B5 ct cf g5 s5 t5 l fs x _ (hTy.mono hB) hS.vt hS.le (hF.mono hB) hfo hzd.1 hzd.2.1 hzd.2.2) rfl (fun e' w28 hr=>?_);obtain⟨rfl,q21⟩:=hr;replace q21:=sB q21;replace hzN:=nLT hzN q21.size;refine⟨_,rfl,?_⟩;refine zn9 ?_;refine zX rfl (fun c100=>?_) (fun c100=>?_)
   ·refine zn4 ?_;refine wl (xY (v0:= .int _ _) (v1:= .int _ _) (fun v0 v1=>#[v0,v1]) rfl rfl kR) (waS rfl ?_);refine zk hb5.u rfl rfl zq rfl zQ (fun w29 hq q22=>?_);replace hzN:=nLT hzN q22.size;replace hb5:=hq;refine ky ?_;refine uy (.inl rfl) rfl rfl (zy U36 rfl rfl hb5.range0 zq) ?_;exact⟨u8 (Y2 hmany hOz (hX.symm.trans (SJ hnm hsn c100))),hB.u⟩
   have hrz:=Decidable.not_not.1 c100;refine yv ?_;refine zX rfl (fun c106=>?_) (fun c106=>?_)
   ·have hlim:cur.length=40:=by omega
    refine zn2 ?_;refine wl (xY (v0:= .int _ _) (v1:= .int _ _) (fun v0 v1=>#[v0,v1]) rfl rfl kR) (waS rfl ?_);refine zk hb5.u rfl rfl zq rfl zQ (fun w30 hq q23=>?_);replace hzN:=nLT hzN q23.size;replace hb5:=hq;refine ky ?_;refine uy (.inl rfl) rfl rfl (zy U36 rfl rfl hb5.range0 zq) ?_;exact⟨u8 (Y2 hmany hOz (hX.symm.trans (LY hnm hsn hrz hlim))),hB.u⟩
   have hlim:¬cur.length=40:=by omega
   have hX2:=(W9 hnm hsn hrz hlim).symm.trans hX;refine zn5 ?_;refine qw (cs:=#[_,_,_,_,_,_,_,_,_,_]) [(0,.agg _)] rfl U26 yQ oq dE dE kR rfl (fun b110 w31 hb110 q24 hr=>?_);have:=nLL hb2.u.lt hr;have:=nLL hb5.u.lt hr;have:=nLL hb11.u.lt hr;replace ho9:=ho9.tr0 q21;have or_ho9_b110:=fun g hg=>nLL (ho9.lt g hg).2 hr
   replace hH:=hH.tr0 q21;have or_hH_b110:=(nLT hH.le hr)
   replace hz5:=hz5.tr0 q21;have or_hz5_b110:=(nLT hz5.le hr)
   replace hzN:=nLT hzN q24.size;clear hr;replace hH:=hH.tr0 q24;have hnH:=hH.le;replace hz5:=hz5.tr0 q24;have hnz:=hz5.le;replace ho9:=ho9.tr0 q24;refine vX U26 in54 rfl dE ho9 hb110 rfl rfl rfl zQ dE oM oM hzN (fun g111 cap111 w32 ho111 q25 hg=>?_);have ne_ho111_b16:g111≠b16:=neB hb16.u.lt hg (neL or_ho9_b16)
   have ne_ho111_b2:g111≠b2:=neA ho9 hb2.u.lt hg
   have ne_ho111_b5:g111≠b5:=neA ho9 hb5.u.lt hg
   have ne_ho111_b11:g111≠b11:=neB hb11.u.lt hg (fun g hg=>by have:=or_ho9_b11 g hg;omega)
   replace hB:=hB.u.tr q25 (fun g hg=>nLT oM (ho9.lt g hg).1);replace hb2:=hb2.tr0 (q21.trans q24);replace hb2:=hb2.ta q25 ho9;replace hb5:=hb5.tr0 (q21.trans q24);replace hb5:=hb5.ta q25 ho9;replace hb11:=hb11.tr0 (q21.trans q24);replace hb11:=hb11.tb q25 (fun g hg=>by have:=or_ho9_b11 g hg;omega);replace hzN:=nLT hzN q25.size;replace hH:=hH.tr q25 (fun g hg=> .inr (.inl hg));replace hz5:=hz5.tr q25 (fun g hg=> .inl (zo g hg))
   have hH2:=RowD.add (C:=rlK w0) (x:=x) (Y:=aL (some (⟨g111,0,none⟩:Addr))) (v:=rlCc x G5 S5 B5 g5 s5 t5) hH rfl (hz5.imp (fun w2 h=>((fun hk=>⟨G5,S5,B5,g5,s5,t5,rfl,h hk⟩):rlK w0 w2 x _))) hlz (fun y hy=>by
     cases List.mem_singleton.1 hy;rcases hg with hg | hg
     · exact .inl (by simp [hg])
     · exact .inr (nLT hnH hg)) (fun y hy=>by
     cases List.mem_singleton.1 hy;rcases hg with hg | hg
     · exact .inl (zo g111 (by rw [hg];exact List.mem_singleton.2 rfl))
     · exact .inr (nLT hnz hg))
   refine zn8 ?_;refine xv (N - (c + 1)) oM agA ?_;exact⟨c + 1,cur ++ [x],_,_,_,_,by omega,rfl,rfl,by rw [List.length_append];rfl,hB,hb2,hb5,hb11,hzN,by rw [List.length_append];exact ho111,hH2,by rw [List.length_append];show _ + 1≤40;omega,(fun g hg=>by rw [List.mem_singleton.1 hg];exact ne_ho111_b11),hX2⟩
  rw [D8 oM] at hX;refine yv ?_;refine xv (rs.length - (i + 1)) oM agA ?_;exact⟨i + 1,cur,A9,c9,n3,vs,by omega,rfl,rfl,rfl,hB,hb2,hb5,hzN,ho9,hH,hcur,hX⟩
 have hie:i=rs.length:=by omega
 rw [hie,List.drop_length] at hX;have hE:(N0 l fs kW rs)=((0,0),cur):=Y2 hmany hOz hX.symm;refine zn8 ?_;refine wl (uW (vs:=#[]) (cs:=#[.int .i64 0,.int .i64 0]) (by simp) kR) (waS rfl ?_);refine zk hb5 rfl rfl zq rfl zQ (fun w33 hq q26=>?_);replace ho9:=ho9.tq q26;replace hzN:=nLT hzN q26.size;replace hH:=hH.lo1 q26 lA.2;replace hb5:=hq;refine zn3 ?_;refine uy (.inl rfl) rfl rfl (zy U36 rfl rfl hb5.range0 zq) ?_;replace hB:=hB.tr1 q26 lo5;exact⟨⟨A9,c9,by rw [hE];rfl,by rw [hE];exact(EV ho9 (Nat.le_refl _) hH (Y:=[]) (by simp) (by simp)).mono lT (Nat.le_refl _) (Nat.le_refl _)⟩,hB⟩
end Go.Proofs.YtbcpgfnfiekbiaaGreatDoor
namespace Go.Proofs.YtbcpgfnfiekbiaaGreatDoor
open Go.RowKit
theorem fn93:zK Tryz.prog 93=true:=by kernel_rfl
theorem JQ:(Tryz.prog.info? 41).map (·.size)=some 2:=by kernel_rfl
set_option maxRecDepth 100000 in
set_option maxHeartbeats 2000000 in
theorem ssm_step {s:Sm} {A1 A2:Option Addr} {c1 c2:Nat} {w:World} (hK:s.args.length≤1000) (h1:SimsIn w A1 s.args) (h2:SimsIn w A2 s.args) (IH:∀ x ∈ s.args,∀ (A1 A2:Option Addr) (c1 c2:Nat) (w:World),SimsIn w A1 x.args→SimsIn w A2 x.args→Calls Tryz.prog 93 #[.agg #[.string (x).base,.slice A1 (x).args.length c1],.agg #[.string (x).base,.slice A2 (x).args.length c2]] w fun e w'=>e= .returned (.bool true)∧Bel w w'):Calls Tryz.prog 93 #[.agg #[.string (s).base,.slice A1 (s).args.length c1],.agg #[.string (s).base,.slice A2 (s).args.length c2]] w fun e w'=>e= .returned (.bool true)∧Bel w w':=by
 refine enT Tryz.func93 Tryz.ntmps93 rfl rfl fun hB=>?_;refine zn2 ?_;refine x6 (v:= .agg #[_,_]) (cs:=#[_,_]) rfl rfl (fun b2 w1 hb2 s1 hr=>?_);refine x6 (v:= .agg #[_,_]) (cs:=#[_,_]) rfl rfl (fun b3 w2 hb3 s2 hr=>?_);refine vq ?_;refine wl (yq (v:= .bool false) (congrArg Value.bool (decide_eq_false (fun h=>h rfl)))) (J9 ?_);refine zX rfl (fun c19=>?_) (fun c19=>?_)
 ·exact absurd rfl c19
 refine yZ ?_;refine zW (rg [4,5] 23 16) (fun m g w'=>∃ j:Nat,j≤s.args.length∧m=s.args.length - j∧g 23= .int .i64 j∧Bel w w'∧Blk w' b2 41 #[.string s.base,.slice A1 s.args.length c1]∧Blk w' b3 41 #[.string s.base,.slice A2 s.args.length c2]) (s.args.length) ?_ (fun m g4 w3 hI=>?_)
 ·exact⟨0,Nat.zero_le _,rfl,rfl,hB.u,hb2.u,hb3⟩
 obtain⟨j,hj,hmj,h23,hB,hb2,hb3⟩:=hI;refine zZ 23 _ h23 nu (zn6 ?_);refine zX rfl (fun c24=>?_) (fun c24=>?_)
 ·have hja:j < s.args.length:=by omega
  obtain⟨sb,so,A3,c3,rfl,hsb,hr3,hs3⟩:=h1.at_ hja;obtain⟨tb,to,A4,c4,rfl,htb,hr4,hs4⟩:=h2.at_ hja;refine vq ?_;refine XQ 10 kR kR (fun w4 s3=>?_);refine zn3 ?_;refine ws (xk (i:=j) U39 JQ rfl rfl hja rfl) (zn4 ?_);refine ws (xk (i:=j) U39 JQ rfl rfl hja rfl) (zn1 ?_);refine X8 ?_;refine zV fn93 (IH _ (List.getElem_mem hja) A3 A4 c3 c4 _ (hs3.mono hB.u) (hs4.mono hB.u)) rfl (fun e' w5 hr=>?_);obtain⟨rfl,s4⟩:=hr;replace s4:=sB s4;refine⟨_,rfl,?_⟩;refine zn3 ?_;refine vK rfl (fun c37=>?_) (fun c37=>?_)
  ·exact absurd c37 dE
  refine zn7 ?_;refine xv (s.args.length - (j + 1)) oM agA ?_;exact⟨j + 1,by omega,rfl,rfl,hB.u,hb2.u,hb3.u⟩
 refine yZ ?_;exact⟨rfl,hB⟩
theorem ssm_any {s:Sm} (h:SmK s):∀ (A1 A2:Option Addr) (c1 c2:Nat) (w:World),SimsIn w A1 s.args→SimsIn w A2 s.args→Calls Tryz.prog 93 #[.agg #[.string (s).base,.slice A1 (s).args.length c1],.agg #[.string (s).base,.slice A2 (s).args.length c2]] w fun e w'=>e= .returned (.bool true)∧Bel w w':=by
  induction h with
  | mk hl _ ih=>exact fun A1 A2 c1 c2 w h1 h2=>ssm_step hl h1 h2 (fun x hx A1 A2 c1 c2 w h3 h4=>ih x hx A1 A2 c1 c2 w h3 h4)
end Go.Proofs.YtbcpgfnfiekbiaaGreatDoor
namespace Go.Proofs.YtbcpgfnfiekbiaaGreatDoor
open Go.RowKit
theorem fn51:zK Tryz.prog 51=true:=by kernel_rfl
theorem JZ:(Tryz.prog.info? 44).map (·.size)=some 6:=by kernel_rfl
set_option maxRecDepth 100000 in
set_option maxHeartbeats 2000000 in
theorem stm_step {t:Tm} {S1 S2 B1 B2:Option Addr} {s1 s2 c1 c2:Nat} {w:World} (hK:t.args.length≤1000) (hKt:SmK t.type) (hS1:SimsIn w S1 t.type.args) (hS2:SimsIn w S2 t.type.args) (hT1:TmsIn w B1 t.args) (hT2:TmsIn w B2 t.args) (IH:∀ x ∈ t.args,∀ (S1 S2 B1 B2:Option Addr) (s1 s2 c1 c2:Nat) (w:World),SimsIn w S1 x.type.args→SimsIn w S2 x.type.args→TmsIn w B1 x.args→TmsIn w B2 x.args→Calls Tryz.prog 51 #[.agg #[.int .i64 (x).kind,.string (x).name,.int .i64 (x).index,.string (x).type.base,.slice S1 (x).type.args.length s1,.slice B1 (x).args.length c1],.agg #[.int .i64 (x).kind,.string (x).name,.int .i64 (x).index,.string (x).type.base,.slice S2 (x).type.args.length s2,.slice B2 (x).args.length c2]] w fun e w'=>e= .returned (.bool true)∧Bel w w'):Calls Tryz.prog 51 #[.agg #[.int .i64 (t).kind,.string (t).name,.int .i64 (t).index,.string (t).type.base,.slice S1 (t).type.args.length s1,.slice B1 (t).args.length c1],.agg #[.int .i64 (t).kind,.string (t).name,.int .i64 (t).index,.string (t).type.base,.slice S2 (t).type.args.length s2,.slice B2 (t).args.length c2]] w fun e w'=>e= .returned (.bool true)∧Bel w w':=by
 refine enT Tryz.func51 Tryz.ntmps51 rfl rfl fun hB=>?_;refine zn2 ?_;refine x6 (v:= .agg #[_,_,_,_,_,_]) (cs:=#[_,_,_,_,_,_]) rfl rfl (fun b2 w1 hb2 t1 hr=>?_);refine x6 (v:= .agg #[_,_,_,_,_,_]) (cs:=#[_,_,_,_,_,_]) rfl rfl (fun b3 w2 hb3 t2 hr=>?_);refine vq ?_;refine wl (yq (v:= .bool false) (congrArg Value.bool (decide_eq_false (fun h=>h rfl)))) (vq ?_);refine wl (yq (v:= .bool false) (congrArg Value.bool (decide_eq_false (fun h=>h rfl)))) (vq ?_);refine wl (yq (v:= .bool false) (congrArg Value.bool (decide_eq_false (fun h=>h rfl)))) (zn3 ?_);refine wl (zY U41 rfl rfl (hb2.u.sub (n:=2) (xs:=[_,_]) rfl) JQ) (zn3 ?_);refine wl (zY U41 rfl rfl (hb3.sub (n:=2) (xs:=[_,_]) rfl) JQ) (zn1 ?_);refine zV fn93 (ssm_any hKt S1 S2 s1 s2 _ (hS1.mono hB.u) (hS2.mono hB.u)) rfl (fun e' w3 hr=>?_);obtain⟨rfl,t3⟩:=hr;replace t3:=sB t3;refine⟨_,rfl,?_⟩;refine zn3 ?_;refine wl (yq (v:= .bool false) rfl) (J9 ?_);refine zX rfl (fun c41=>?_) (fun c41=>?_)
 ·exact absurd rfl c41
 refine yZ ?_;refine zW (rg [4,5] 45 16) (fun m g w'=>∃ j:Nat,j≤t.args.length∧m=t.args.length - j∧g 45= .int .i64 j∧Bel w w'∧Blk w' b2 44 #[.int .i64 (t).kind,.string (t).name,.int .i64 (t).index,.string (t).type.base,.slice S1 (t).type.args.length s1,.slice B1 (t).args.length c1]∧Blk w' b3 44 #[.int .i64 (t).kind,.string (t).name,.int .i64 (t).index,.string (t).type.base,.slice S2 (t).type.args.length s2,.slice B2 (t).args.length c2]) (t.args.length) ?_ (fun m g4 w4 hI=>?_)
 ·exact⟨0,Nat.zero_le _,rfl,rfl,hB.u,hb2.u,hb3.u⟩
 obtain⟨j,hj,hmj,h45,hB,hb2,hb3⟩:=hI;refine zZ 45 _ h45 nu (zn6 ?_);refine zX rfl (fun c46=>?_) (fun c46=>?_)
 ·have hja:j < t.args.length:=by omega
  obtain⟨sb,so,S3,s3,B3,c3,rfl,hsb,hr3,hs3,ht3⟩:=hT1.at_ hja;obtain⟨tb,to,S4,s4,B4,c4,rfl,htb,hr4,hs4,ht4⟩:=hT2.at_ hja;refine vq ?_;refine XQ 10 kR kR (fun w5 t4=>?_);refine zn3 ?_;refine ws (xk (i:=j) U42 JZ rfl rfl hja rfl) (zn4 ?_);refine ws (xk (i:=j) U42 JZ rfl rfl hja rfl) (zn1 ?_);refine X8 ?_;refine zV fn51 (IH _ (List.getElem_mem hja) S3 S4 B3 B4 s3 s4 c3 c4 _ (hs3.mono hB.u) (hs4.mono hB.u) (ht3.mono hB.u) (ht4.mono hB.u)) rfl (fun e' w6 hr=>?_);obtain⟨rfl,t5⟩:=hr;replace t5:=sB t5;refine⟨_,rfl,?_⟩;refine zn3 ?_;refine vK rfl (fun c59=>?_) (fun c59=>?_)
  ·exact absurd c59 dE
  refine zn7 ?_;refine xv (t.args.length - (j + 1)) oM agA ?_;exact⟨j + 1,by omega,rfl,rfl,hB.u,hb2.u,hb3.u⟩
 refine yZ ?_;exact⟨rfl,hB⟩
theorem stm_any {x:Tm} (h:TmK x):∀ (S1 S2 B1 B2:Option Addr) (s1 s2 c1 c2:Nat) (w:World),SimsIn w S1 x.type.args→SimsIn w S2 x.type.args→TmsIn w B1 x.args→TmsIn w B2 x.args→Calls Tryz.prog 51 #[.agg #[.int .i64 (x).kind,.string (x).name,.int .i64 (x).index,.string (x).type.base,.slice S1 (x).type.args.length s1,.slice B1 (x).args.length c1],.agg #[.int .i64 (x).kind,.string (x).name,.int .i64 (x).index,.string (x).type.base,.slice S2 (x).type.args.length s2,.slice B2 (x).args.length c2]] w fun e w'=>e= .returned (.bool true)∧Bel w w':=by
  induction h with
  | mk hs hl _ ih=>exact fun S1 S2 B1 B2 s1 s2 c1 c2 w h1 h2 h3 h4=>stm_step hl hs h1 h2 h3 h4 (fun x hx=>ih x hx)
end Go.Proofs.YtbcpgfnfiekbiaaGreatDoor
namespace Go.Proofs.YtbcpgfnfiekbiaaGreatDoor
open Go.RowKit
def trN (σ:Nat→Nat) (x:Nd):Nd:=⟨x.ty,x.ln.map (fun y=>(y.1,(σ y.2.toNat:Int)))⟩
theorem unr_ex (g:List Nd):∃ r,UnrIs g r:=by
  have h:∀ n:Nat,(∀ i,i < n→Rch g i)∨∃ k,k < n∧¬Rch g k∧∀ i,i < k→Rch g i:=by
    intro n
    induction n with
    | zero=>exact .inl (fun i hi=>absurd hi oM)
    | succ n ih=>
      rcases ih with h | ⟨k,h1,h2,h3⟩
      · by_cases hn:Rch g n
        · refine .inl (fun i hi=>?_)
          by_cases e:i=n
          · rw [e];exact hn
          · exact h i oM
        · exact .inr ⟨n,by omega,hn,h⟩
      · exact .inr ⟨k,by omega,h2,h3⟩
  rcases h g.length with h | ⟨k,h1,h2,h3⟩
  · exact⟨-1,.inl ⟨rfl,h⟩⟩
  · exact⟨k,.inr ⟨k,rfl,h1,h2,h3⟩⟩
theorem GV.rch {l:List Ty} {fs:List Ft} {g:List Nd} (h:GV l fs g):∀ i,i < g.length→Rch g i:=by
  obtain⟨r,hr⟩:=unr_ex g;have hu:=h.u;rw [← Cq hr] at hu;rcases hr with ⟨_,h3⟩ | ⟨k,h3,_⟩
  · exact h3
  · exact absurd (show 0≤r by omega) hu
structure Turn (g gt:List Nd) (σ ρ:Nat→Nat):Prop where
  len:gt.length=g.length
  z:σ 0=0
  lt:∀ i,i < g.length→σ i < g.length
  rl:∀ j,j < g.length→ρ j < g.length∧σ (ρ j)=j
  lr:∀ i,i < g.length→ρ (σ i)=i
  nd:∀ i,i < g.length→nd gt (σ i)=trN σ (nd g i)
section turn
variable {g gt:List Nd} {σ ρ:Nat→Nat}
theorem Turn.inj (t:Turn g gt σ ρ) {x y:Nat} (hx:x < g.length) (hy:y < g.length) (h:σ x=σ y):x=y:=by rw [← t.lr x hx,← t.lr y hy,h]
theorem Turn.succ (t:Turn g gt σ ρ) {i:Nat} (hi:i < g.length):yK gt (σ i)=(yK g i).map σ:=by
  unfold yK;rw [t.nd i hi];simp [trN]
theorem Turn.dl (t:Turn g gt σ ρ) (hr:∀ i,i < g.length→∀ y ∈ yK g i,y < g.length) {is a b:List Nat} (h:DL g is a b):(∀ i ∈ is,i < g.length)→(∀ x ∈ b,x < g.length)→DL gt (is.map σ) (a.map σ) (b.map σ):=by
  induction h with
  | nil=>exact fun _ _=> .nil
  | old h _ ih=>exact fun hi hb=> .old (List.mem_map_of_mem h) (ih (fun i h=>hi i (List.mem_cons_of_mem _ h)) hb)
  | new h s u ihs iht=>
    intro hi hb
    rename_i i is o o1 o'
    have hil:=hi i (List.mem_cons_self ..);have ho1:∀ x ∈ o1,x < g.length:=fun x hx=>hb x (u.sub _ hx)
    refine .new (fun hm=>?_) ?_ (iht (fun i h=>hi i (List.mem_cons_of_mem _ h)) hb)
    · obtain⟨y,hy,e⟩:=List.mem_map.1 hm
      have hyl:=ho1 y (s.sub _ (List.mem_append_left _ hy));exact h (t.inj hyl hil e ▸ hy)
    · have:=ihs (hr i hil) ho1
      rw [List.map_append] at this;rw [t.succ hil];exact this
theorem Turn.rch (t:Turn g gt σ ρ) (hr:∀ i,i < g.length→∀ y ∈ yK g i,y < g.length) (hp:0 < g.length) {i:Nat} (h:Rch g i):i < g.length∧Rch gt (σ i):=by
  induction h with
  | zero=>exact⟨hp,by rw [t.z];exact .zero⟩
  | step h hi hx ih=>
    rename_i i x
    refine⟨hr i hi _ (by simp only [yK,kJ hi,List.mem_map];exact⟨x,hx,rfl⟩),?_⟩;have hlt:σ i < gt.length:=by rw [t.len];exact t.lt i hi
    have e:=t.nd i hi;rw [kJ hlt,kJ hi] at e;have:=Rch.step (x:=(x.1,((σ x.2.toNat:Nat):Int))) ih.2 hlt (by rw [e];exact List.mem_map.2 ⟨x,hx,rfl⟩)
    simpa using this
end turn
end Go.Proofs.YtbcpgfnfiekbiaaGreatDoor
namespace Go.Proofs.YtbcpgfnfiekbiaaGreatDoor
open Go.RowKit
structure TrR (g:List Nd) (r:Nat) (o:List Nat):Prop where
  dl:DL g [r] [] o
  ok:OOk g.length o
  nodup:o.Nodup
  has:r ∈ o
  zero:o.idxOf r=0
  clo:∀ x ∈ o,∀ t ∈ yK g x,t ∈ o
theorem DL.within {g:List Nd} {o:List Nat} (hc:∀ x ∈ o,∀ t ∈ yK g x,t ∈ o) {is a b:List Nat} (h:DL g is a b):(∀ i ∈ is,i ∈ o)→(∀ x ∈ a,x ∈ o)→∀ x ∈ b,x ∈ o:=by
  induction h with
  | nil=>exact fun _ h=>h
  | old h t ih=>exact fun hi ha=>ih (fun i h=>hi i (List.mem_cons_of_mem _ h)) ha
  | new h s t ihs iht=>
    intro hi ha;have hio:=hi _ (List.mem_cons_self ..);refine iht (fun i h=>hi i (List.mem_cons_of_mem _ h)) (ihs (hc _ hio) (fun x hx=>?_));rcases List.mem_append.1 hx with hx | hx
    · exact ha x hx
    · rw [List.mem_singleton.1 hx];exact hio
section sub
variable {g:List Nd} {r:Nat} {o:List Nat}
theorem TrR.mem (t:TrR g r o) {x:Nat} (hx:x ∈ o) {y:Int×Int} (hy:y ∈ (nd g x).ln):y.2.toNat ∈ o:=t.clo x hx _ (by simp only [yK,List.mem_map];exact⟨y,hy,rfl⟩)
theorem TrR.lt (t:TrR g r o) {x:Nat} (hx:x ∈ o):x < g.length:=t.ok.lt x hx
theorem TrR.dl2 (t:TrR g r o) {c:Nat} {o2:List Nat} (hc:c ∈ o) (h2:DL g [c] [] o2):DL (jY g o) [o.idxOf c] [] (o2.map (o.idxOf ·)):=
  h2.map t.clo (h2.within t.clo (fun i hi=>by rw [List.mem_singleton.1 hi];exact hc) (fun x hx=>by cases hx))
end sub
section comp
variable {l:List Ty} {fs:List Ft} {g:List Nd} {p q:List Int}
end comp
end Go.Proofs.YtbcpgfnfiekbiaaGreatDoor
namespace Go.Proofs.YtbcpgfnfiekbiaaGreatDoor
open Go.RowKit
structure Hom (l:List Ty) (a b:List Nd) (φ:Nat→Nat):Prop where
  zero:φ 0=0
  lt:∀ i,i < a.length→φ i < b.length
  ty:∀ i,i < a.length→sub l (nd b (φ i)).ty.toNat (nd a i).ty.toNat=true
  ln:∀ i,i < a.length→∀ x ∈ (nd a i).ln,tgt (nd b (φ i)).ln x.1=((φ x.2.toNat:Nat):Int)
theorem Hom.uniq {l:List Ty} {a b:List Nd} {φ ψ:Nat→Nat} (h:Hom l a b φ) (k:Hom l a b ψ) {i:Nat} (hr:Rch a i):φ i=ψ i:=by
  induction hr with
  | zero=>rw [h.zero,k.zero]
  | step hr hi hx ih=>
    rename_i i x
    have e:=kJ hi;have h1:=h.ln i hi x (by rw [e];exact hx);have h2:=k.ln i hi x (by rw [e];exact hx);rw [ih] at h1;rw [h1] at h2;exact Int.ofNat.inj h2
def Maps (l:List Ty) (a b:List Nd):Prop:=∃ φ,Hom l a b φ
noncomputable instance (l:List Ty) (a b:List Nd):Decidable (Maps l a b):=Classical.propDecidable _
def OY (out:Nat→Int) (t:Nat) (v:Int) (x:Nat):Int:=if x=t then v else out x
theorem QY (out:Nat→Int) (t:Nat) (v:Int):OY out t v t=v:=by simp [OY]
theorem kY {out:Nat→Int} {t x:Nat} {v:Int} (h:x≠t):OY out t v x=out x:=by simp [OY,h]
def LinksDone (a b:List Nd) (out:Nat→Int) (j k:Nat):Prop:=∀ x ∈ (nd a j).ln.take k,0≤out x.2.toNat∧tgt (nd b (out j).toNat).ln x.1=out x.2.toNat
def WZ (l:List Ty) (a b:List Nd) (out:Nat→Int) (j:Nat):Prop:=sub l (nd b (out j).toNat).ty.toNat (nd a j).ty.toNat=true∧LinksDone a b out j (nd a j).ln.length
structure FS (l:List Ty) (a b:List Nd) (out:Nat→Int) (st:List Int) (i k:Nat):Prop where
  zero:out 0=0
  rng:∀ j,-1≤out j∧out j < b.length
  only:∀ j,0≤out j→∀ φ,Hom l a b φ→out j=(φ j:Nat)
  stk:∀ s ∈ st,∃ n:Nat,s=(n:Int)∧n < a.length∧0≤out n
  cl:∀ j,j < a.length→0≤out j→j≠i→(j:Int) ∈ st∨WZ l a b out j
  me:i < a.length→0≤out i∧LinksDone a b out i k
  ty:i < a.length→0 < k→sub l (nd b (out i).toNat).ty.toNat (nd a i).ty.toNat=true
theorem FS.start {l:List Ty} {a b:List Nd} (ha:0 < a.length) (hb:0 < b.length):FS l a b (OY (fun _=>-1) 0 0) [0] a.length 0:=by
  refine⟨by simp [OY],fun j=>?_,fun j hj φ h=>?_,fun s hs=>?_,fun j _ hj _=>?_,fun hi=>absurd hi (Nat.lt_irrefl _),fun hi=>absurd hi (Nat.lt_irrefl _)⟩
  · by_cases e:j=0
    · subst e;rw [QY];omega
    · rw [kY e];show (-1:Int)≤-1∧(-1:Int) < _;omega
  · by_cases e:j=0
    · subst e;rw [h.zero];simp [OY]
    · rw [kY e] at hj;omega
  · obtain rfl:=List.mem_singleton.1 hs
    exact⟨0,rfl,ha,by simp [OY]⟩
  · by_cases e:j=0
    · subst e;exact .inl (by simp)
    · rw [kY e] at hj;omega
theorem FS.pop {l:List Ty} {a b:List Nd} {out:Nat→Int} {st:List Int} {z:Int} (h:FS l a b out (st ++ [z]) a.length 0):∃ n m:Nat,z=(n:Int)∧n < a.length∧out n=(m:Int)∧m < b.length∧FS l a b out st n 0:=by
  obtain⟨n,rfl,hn,hm⟩:=h.stk z (by simp);have hr:=h.rng n;refine⟨n,(out n).toNat,rfl,hn,by omega,by omega,h.zero,h.rng,h.only,fun s hs=>h.stk s (by simp [hs]),fun j hj hmj hne=>?_,fun _=>⟨hm,fun x hx=>by simp at hx⟩,fun _ hk=>absurd hk (Nat.lt_irrefl _)⟩;rcases h.cl j hj hmj oM with h1 | h1
  · rcases List.mem_append.1 h1 with h2 | h2
    · exact .inl h2
    · have:=List.mem_singleton.1 h2
      omega
  · exact .inr h1
theorem take_nd {a:List Nd} {i k:Nat} (hi:i < a.length) (hk:k < (a[i]).ln.length):(nd a i).ln.take (k + 1)=(nd a i).ln.take k ++ [(a[i]).ln[k]]:=by
  rw [kJ hi,List.take_succ_eq_append_getElem hk]
theorem LinksDone.snoc {a b:List Nd} {out:Nat→Int} {i k:Nat} (h:LinksDone a b out i k) (hi:i < a.length) (hk:k < (a[i]).ln.length) (hx:0≤out ((a[i]).ln[k]).2.toNat∧tgt (nd b (out i).toNat).ln ((a[i]).ln[k]).1=out ((a[i]).ln[k]).2.toNat):LinksDone a b out i (k + 1):=fun x hxm=>by
  rw [take_nd hi hk] at hxm
  rcases List.mem_append.1 hxm with h1 | h1
  · exact h x h1
  · rw [List.mem_singleton.1 h1];exact hx
theorem FS.old {l:List Ty} {a b:List Nd} {out:Nat→Int} {st:List Int} {i k:Nat} (h:FS l a b out st i k) (hi:i < a.length) (hk:k < (a[i]).ln.length) (hty:sub l (nd b (out i).toNat).ty.toNat (nd a i).ty.toNat=true)
    (hm:0≤out ((a[i]).ln[k]).2.toNat) (he:out ((a[i]).ln[k]).2.toNat=tgt (nd b (out i).toNat).ln ((a[i]).ln[k]).1):FS l a b out st i (k + 1):=
  ⟨h.zero,h.rng,h.only,h.stk,h.cl,fun _=>⟨(h.me hi).1,(h.me hi).2.snoc hi hk ⟨hm,he.symm⟩⟩,fun _ _=>hty⟩
theorem LinksDone.set {a b:List Nd} {out:Nat→Int} {j k t:Nat} {v:Int} (h:LinksDone a b out j k) (hj:0≤out j) (ht:out t < 0):LinksDone a b (OY out t v) j k:=fun x hx=>by
  have h1:=h x hx
  rw [kY (x:=x.2.toNat) (fun e=>by rw [e] at h1;omega),kY (x:=j) (fun e=>by rw [e] at hj;omega)]
  exact h1
theorem FS.new {l:List Ty} {a b:List Nd} {out:Nat→Int} {st:List Int} {i k t:Nat} (h:FS l a b out st i k) (hi:i < a.length) (hk:k < (a[i]).ln.length) (hty:sub l (nd b (out i).toNat).ty.toNat (nd a i).ty.toNat=true)
    (htt:((a[i]).ln[k]).2=(t:Int)) (htl:t < a.length) (hn:out t < 0) (h0:0≤tgt (nd b (out i).toNat).ln ((a[i]).ln[k]).1) (hb:tgt (nd b (out i).toNat).ln ((a[i]).ln[k]).1 < b.length):FS l a b (OY out t (tgt (nd b (out i).toNat).ln ((a[i]).ln[k]).1)) (st ++ [(t:Int)]) i (k + 1):=by
  have hme:=(h.me hi).1;have hit:i≠t:=fun e=>by rw [e] at hme;omega
  have h0t:0≠t:=fun e=>by have:=h.zero;rw [e] at this;omega
  have hxm:(a[i]).ln[k] ∈ (nd a i).ln:=by rw [kJ hi];exact List.getElem_mem hk
  refine⟨by rw [kY h0t];exact h.zero,fun j=>?_,fun j hj φ hφ=>?_,fun s hs=>?_,fun j hj hm hne=>?_,fun _=>?_,fun _ _=>by rw [kY hit];exact hty⟩
  · by_cases e:j=t
    · subst e;rw [QY];omega
    · rw [kY e];exact h.rng j
  · by_cases e:j=t
    · subst e
      rw [QY,h.only i hme φ hφ,Int.toNat_natCast,hφ.ln i hi _ hxm,htt,Int.toNat_natCast]
    · rw [kY e] at hj ⊢;exact h.only j hj φ hφ
  · rcases List.mem_append.1 hs with hs | hs
    · obtain⟨n,h1,h2,h3⟩:=h.stk s hs
      refine⟨n,h1,h2,?_⟩;rw [kY (fun e=>by rw [e] at h3;omega)];exact h3
    · exact⟨t,List.mem_singleton.1 hs,htl,by rw [QY];exact h0⟩
  · by_cases e:j=t
    · subst e;exact .inl (by simp)
    · rw [kY e] at hm
      rcases h.cl j hj hm hne with h1 | h1
      · exact .inl (by simp [h1])
      · refine .inr ⟨by rw [kY e];exact h1.1,h1.2.set hm hn⟩
  · refine⟨by rw [kY hit];exact hme,?_⟩
    refine LinksDone.snoc ((h.me hi).2.set hme hn) hi hk ?_;rw [htt,Int.toNat_natCast,QY,kY hit];exact⟨h0,rfl⟩
theorem FS.done {l:List Ty} {a b:List Nd} {out:Nat→Int} {st:List Int} {i k:Nat} (h:FS l a b out st i k) (hi:i < a.length) (hk:k=(a[i]).ln.length) (hty:sub l (nd b (out i).toNat).ty.toNat (nd a i).ty.toNat=true):FS l a b out st a.length 0:=
  ⟨h.zero,h.rng,h.only,h.stk,fun j hj hm _=>by
    by_cases e:j=i
    · subst e
      refine .inr ⟨hty,?_⟩
      have h1:=(h.me hj).2
      rw [hk,← kJ hj] at h1
      exact h1
    · exact h.cl j hj hm e,fun hi=>absurd hi (Nat.lt_irrefl _),fun hi=>absurd hi (Nat.lt_irrefl _)⟩
theorem FS.end_ {l:List Ty} {a b:List Nd} {out:Nat→Int} (hr:∀ i,i < a.length→Rch a i) (h:FS l a b out [] a.length 0):Hom l a b (fun i=>(out i).toNat)∧∀ i,i < a.length→0≤out i:=by
  have hd:∀ i,i < a.length→0≤out i→WZ l a b out i:=fun i hi hm=>by
    rcases h.cl i hi hm oM with h1 | h1
    · cases h1
    · exact h1
  have hall:∀ i,Rch a i→i < a.length→0≤out i:=fun i hri=>by
    induction hri with
    | zero=>intro _;rw [h.zero];exact Int.le_refl _
    | step hr hi hx ih=>
      rename_i i x
      intro _;have h1:=(hd i hi (ih hi)).2 x (by rw [List.take_length,kJ hi];exact hx);exact h1.1
  have hpos:∀ i,i < a.length→0≤out i:=fun i hi=>hall i (hr i hi) hi
  refine⟨⟨by show (out 0).toNat=0;rw [h.zero];rfl,fun i hi=>?_,fun i hi=>(hd i hi (hpos i hi)).1,fun i hi x hx=>?_⟩,hpos⟩
  · have h1:=h.rng i;have h2:=hpos i hi;show (out i).toNat < b.length;omega
  · have h1:=(hd i hi (hpos i hi)).2 x (by rw [List.take_length];exact hx)
    show tgt (nd b (out i).toNat).ln x.1=((out x.2.toNat).toNat:Nat);rw [h1.2];have:=h1.1;omega
def CW (p:Nat→Nat→Bool) (i j:Nat) (x y:Nat):Bool:=if x=i∧y=j then true else p x y
theorem IZ (p:Nat→Nat→Bool) (i j:Nat):CW p i j i j=true:=by simp [CW]
theorem setP_mono {p:Nat→Nat→Bool} {i j x y:Nat} (h:p x y=true):CW p i j x y=true:=by
  unfold CW;split
  · rfl
  · exact h
theorem X7 {p:Nat→Nat→Bool} {i j x y:Nat} (h:CW p i j x y=true):(x=i∧y=j)∨p x y=true:=by
  unfold CW at h;by_cases e:x=i∧y=j
  · exact .inl e
  · rw [if_neg e] at h;exact .inr h
def O3 (na nb:Nat) (p:Nat→Nat→Bool):Nat:=(List.range (na * nb)).countP (fun z=>!p (z / nb) (z % nb))
theorem lackP_lt {na nb i j:Nat} {p q:Nat→Nat→Bool} (hpq:∀ x y,p x y=true→q x y=true) (hi:i < na) (hj:j < nb) (h1:p i j=false) (h2:q i j=true):O3 na nb q < O3 na nb p:=by
  have hd:(i * nb + j) / nb=i:=by
    rw [Nat.mul_comm,Nat.mul_add_div oM,Nat.div_eq_of_lt hj,Nat.add_zero]
  have hm:(i * nb + j) % nb=j:=by
    rw [Nat.mul_comm,Nat.mul_add_mod,Nat.mod_eq_of_lt hj]
  have hl:i * nb + j < na * nb:=by
    have:=Nat.mul_le_mul_right nb (show i + 1≤na from hi);rw [Nat.add_mul,Nat.one_mul] at this;omega
  refine o6 (fun z hz=>?_) (List.range (na * nb)) (i * nb + j) (List.mem_range.2 hl) ?_ ?_
  · cases hp:p (z / nb) (z % nb) with
    | false=>rfl
    | true=>rw [hpq _ _ hp] at hz;cases hz
  · show (!p ((i * nb + j) / nb) ((i * nb + j) % nb))=true
    rw [hd,hm,h1];rfl
  · show (!q ((i * nb + j) / nb) ((i * nb + j) % nb))=false
    rw [hd,hm,h2];rfl
def PairLn (a b:List Nd) (p:Nat→Nat→Bool) (i j k:Nat):Prop:=∀ x ∈ (nd a i).ln.take k,∃ t:Nat,tgt (nd b j).ln x.1=(t:Int)∧p x.2.toNat t=true
def PairOk (l:List Ty) (a b:List Nd) (p:Nat→Nat→Bool) (i j:Nat):Prop:=sub l (nd b j).ty.toNat (nd a i).ty.toNat=true∧PairLn a b p i j (nd a i).ln.length
structure PB (l:List Ty) (a b:List Nd) (p:Nat→Nat→Bool):Prop where
  zero:p 0 0=true
  rng:∀ i j,p i j=true→i < a.length∧j < b.length
  only:∀ i j,p i j=true→∀ φ,Hom l a b φ→φ i=j
structure MPS (l:List Ty) (a b:List Nd) (p:Nat→Nat→Bool) (ch:Bool):Prop where
  pb:PB l a b p
  cl:ch=false→∀ i j,p i j=true→PairOk l a b p i j
structure MPP (l:List Ty) (a b:List Nd) (p0 p:Nat→Nat→Bool) (ch:Bool) (i j k:Nat):Prop where
  pb:PB l a b p
  sup:∀ x y,p0 x y=true→p x y=true
  same:ch=false→∀ x y,p x y=true→p0 x y=true
  more:ch=true→O3 a.length b.length p < O3 a.length b.length p0
  done:∀ x y,p0 x y=true→x < i∨x=i∧y < j→PairOk l a b p x y
  me:0 < k→i < a.length∧j < b.length∧p i j=true∧sub l (nd b j).ty.toNat (nd a i).ty.toNat=true∧PairLn a b p i j k
theorem MPS.start {l:List Ty} {a b:List Nd} (ha:0 < a.length) (hb:0 < b.length):MPS l a b (CW (fun _ _=>false) 0 0) true:=
  ⟨⟨IZ _ _ _,(fun i j h=>by
    rcases X7 h with ⟨rfl,rfl⟩ | h
    · exact⟨ha,hb⟩
    · cases h),(fun i j h φ hφ=>by
    rcases X7 h with ⟨rfl,rfl⟩ | h
    · exact hφ.zero
    · cases h)⟩,fun h=>nomatch h⟩
theorem MPP.start {l:List Ty} {a b:List Nd} {p:Nat→Nat→Bool} {ch:Bool} (h:MPS l a b p ch):MPP l a b p p false 0 0 0:=
  ⟨h.pb,fun _ _ h=>h,fun _ _ _ h=>h,(fun h=>nomatch h),(fun x y _ hx=>by omega),fun hk=>absurd hk (Nat.lt_irrefl _)⟩
theorem MPP.row {l:List Ty} {a b:List Nd} {p0 p:Nat→Nat→Bool} {ch:Bool} {i:Nat} (h:MPP l a b p0 p ch i b.length 0):MPP l a b p0 p ch (i + 1) 0 0:=
  ⟨h.pb,h.sup,h.same,h.more,fun x y hp hx=>h.done x y hp (by
    have:=(h.pb.rng x y (h.sup x y hp)).2
    omega),fun hk=>absurd hk (Nat.lt_irrefl _)⟩
theorem MPP.skip {l:List Ty} {a b:List Nd} {p0 p:Nat→Nat→Bool} {ch:Bool} {i j:Nat} (h:MPP l a b p0 p ch i j 0) (hp:p i j=false):MPP l a b p0 p ch i (j + 1) 0:=
  ⟨h.pb,h.sup,h.same,h.more,fun x y h0 hx=>by
    by_cases e:x=i∧y=j
    · obtain⟨rfl,rfl⟩:=e
      rw [h.sup _ _ h0] at hp;cases hp
    · exact h.done x y h0 oM,fun hk=>absurd hk (Nat.lt_irrefl _)⟩
theorem PairLn.snoc {a b:List Nd} {p:Nat→Nat→Bool} {i j k:Nat} (h:PairLn a b p i j k) (hi:i < a.length) (hk:k < (a[i]).ln.length) (hx:∃ t:Nat,tgt (nd b j).ln ((a[i]).ln[k]).1=(t:Int)∧p ((a[i]).ln[k]).2.toNat t=true):PairLn a b p i j (k + 1):=fun x hxm=>by
  rw [take_nd hi hk] at hxm
  rcases List.mem_append.1 hxm with h1 | h1
  · exact h x h1
  · rw [List.mem_singleton.1 h1];exact hx
theorem PairLn.mono {a b:List Nd} {p q:Nat→Nat→Bool} {i j k:Nat} (h:PairLn a b p i j k) (hpq:∀ x y,p x y=true→q x y=true):PairLn a b q i j k:=fun x hx=>by
  obtain⟨t,h1,h2⟩:=h x hx
  exact⟨t,h1,hpq _ _ h2⟩
structure MPK (l:List Ty) (a b:List Nd) (p0 p:Nat→Nat→Bool) (ch:Bool) (i j k:Nat):Prop where
  pp:MPP l a b p0 p ch i j 0
  at_:p i j=true
  ty:sub l (nd b j).ty.toNat (nd a i).ty.toNat=true
  ln:PairLn a b p i j k
theorem MPK.start {l:List Ty} {a b:List Nd} {p0 p:Nat→Nat→Bool} {ch:Bool} {i j:Nat} (h:MPP l a b p0 p ch i j 0) (hp:p i j=true) (ht:sub l (nd b j).ty.toNat (nd a i).ty.toNat=true):MPK l a b p0 p ch i j 0:=⟨h,hp,ht,fun x hx=>by simp at hx⟩
theorem MPK.old {l:List Ty} {a b:List Nd} {p0 p:Nat→Nat→Bool} {ch:Bool} {i j k s t:Nat} (h:MPK l a b p0 p ch i j k) (hi:i < a.length) (hk:k < (a[i]).ln.length) (hs:((a[i]).ln[k]).2=(s:Int)) (ht:tgt (nd b j).ln ((a[i]).ln[k]).1=(t:Int)) (hp:p s t=true):MPK l a b p0 p ch i j (k + 1):=
  ⟨h.pp,h.at_,h.ty,h.ln.snoc hi hk ⟨t,ht,by rw [hs,Int.toNat_natCast];exact hp⟩⟩
theorem MPK.new {l:List Ty} {a b:List Nd} {p0 p:Nat→Nat→Bool} {ch:Bool} {i j k s t:Nat} (h:MPK l a b p0 p ch i j k) (hi:i < a.length) (hk:k < (a[i]).ln.length) (hs:((a[i]).ln[k]).2=(s:Int)) (hsl:s < a.length) (ht:tgt (nd b j).ln ((a[i]).ln[k]).1=(t:Int)) (htl:t < b.length) (hp:p s t=false):MPK l a b p0 (CW p s t) true i j (k + 1):=by
  have hxm:(a[i]).ln[k] ∈ (nd a i).ln:=by rw [kJ hi];exact List.getElem_mem hk
  have hm:∀ x y,p x y=true→CW p s t x y=true:=fun x y h=>setP_mono h
  refine⟨⟨⟨hm _ _ h.pp.pb.zero,fun x y hx=>?_,fun x y hx φ hφ=>?_⟩,fun x y hx=>hm _ _ (h.pp.sup x y hx),(fun h=>nomatch h),fun _=>?_,fun x y h0 hx=>?_,fun hk=>absurd hk (Nat.lt_irrefl _)⟩,hm _ _ h.at_,h.ty,(h.ln.mono hm).snoc hi hk ⟨t,ht,by rw [hs,Int.toNat_natCast];exact IZ _ _ _⟩⟩
  · rcases X7 hx with ⟨rfl,rfl⟩ | hx
    · exact⟨hsl,htl⟩
    · exact h.pp.pb.rng _ _ hx
  · rcases X7 hx with ⟨rfl,rfl⟩ | hx
    · have e:=h.pp.pb.only i j h.at_ φ hφ
      have h1:=hφ.ln i hi _ hxm;rw [e,ht,hs,Int.toNat_natCast] at h1;exact(Int.ofNat.inj h1).symm
    · exact h.pp.pb.only x y hx φ hφ
  · have h1:=lackP_lt (na:=a.length) (nb:=b.length) hm hsl htl hp (IZ p s t)
    cases ch with
    | true=>exact Nat.lt_trans h1 (h.pp.more rfl)
    | false=>
      have e:O3 a.length b.length p0=O3 a.length b.length p:=by
        unfold O3;refine List.countP_congr (fun z _=>?_);cases hz:p0 (z / b.length) (z % b.length) with
        | true=>rw [h.pp.sup _ _ hz]
        | false=>
          cases hz2:p (z / b.length) (z % b.length) with
          | false=>rfl
          | true=>rw [h.pp.same rfl _ _ hz2] at hz;cases hz
      rw [e];exact h1
  · obtain⟨h1,h2⟩:=h.pp.done x y h0 hx
    exact⟨h1,h2.mono hm⟩
theorem MPK.done {l:List Ty} {a b:List Nd} {p0 p:Nat→Nat→Bool} {ch:Bool} {i j k:Nat} (h:MPK l a b p0 p ch i j k) (hi:i < a.length) (hk:k=(a[i]).ln.length):MPP l a b p0 p ch i (j + 1) 0:=
  ⟨h.pp.pb,h.pp.sup,h.pp.same,h.pp.more,fun x y h0 hx=>by
    by_cases e:x=i∧y=j
    · obtain⟨rfl,rfl⟩:=e
      have h1:=h.ln
      rw [hk,← kJ hi] at h1
      exact⟨h.ty,h1⟩
    · exact h.pp.done x y h0 oM,fun hk=>absurd hk (Nat.lt_irrefl _)⟩
theorem MPP.end_ {l:List Ty} {a b:List Nd} {p0 p:Nat→Nat→Bool} {ch:Bool} (h:MPP l a b p0 p ch a.length 0 0):MPS l a b p ch:=
  ⟨h.pb,fun hc i j hp=>h.done i j (h.same hc i j hp) (.inl (h.pb.rng i j hp).1)⟩
theorem MPS.two {l:List Ty} {a b:List Nd} {p:Nat→Nat→Bool} {ch:Bool} {i j k:Nat} (h:MPS l a b p ch) (h1:p i j=true) (h2:p i k=true) (hne:j≠k):¬Maps l a b:=by
  rintro ⟨φ,hφ⟩
  exact hne ((h.pb.only i j h1 φ hφ).symm.trans (h.pb.only i k h2 φ hφ))
theorem MPS.hom {l:List Ty} {a b:List Nd} {p:Nat→Nat→Bool} (h:MPS l a b p false) {φ:Nat→Nat} (ha:0 < a.length) (hφ:∀ i,i < a.length→p i (φ i)=true∧∀ j,p i j=true→j=φ i):Hom l a b φ:=by
  refine⟨((hφ 0 ha).2 0 h.pb.zero).symm,fun i hi=>(h.pb.rng _ _ (hφ i hi).1).2,fun i hi=>(h.cl rfl _ _ (hφ i hi).1).1,fun i hi x hx=>?_⟩;obtain⟨t,h1,h2⟩:=(h.cl rfl _ _ (hφ i hi).1).2 x (by rw [List.take_length];exact hx);rw [h1,(hφ _ (h.pb.rng _ _ h2).1).2 t h2]
end Go.Proofs.YtbcpgfnfiekbiaaGreatDoor
