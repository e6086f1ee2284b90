/- What these functions of the program compute, at every world: glosswright/optional.check, glosswright/optional.Validate. Rows of types, each with its data. No program in sight. What these functions of the program compute, at every world: glosswright/glosswrightref1.Arguments. What these functions of the program compute, at every world: glosswright/glosswrightref1.Name. -/
import Derived.Test.YtbcpgfnfiekbiaaGreatDoorU
import Derived.Test.YtbcpgfnfiekbiaaGreatDoorTrm
import Derived.Test.YtbcpgfnfiekbiaaGreatDoorORd
import Derived.Test.YtbcpgfnfiekbiaaGreatDoorNBd
import Derived.Test.YtbcpgfnfiekbiaaGreatDoorStk
namespace Go.Proofs.YtbcpgfnfiekbiaaGreatDoor
open Go.RowKit
theorem Zw {l:List Ty} {fs:List Ft} {r:Rl} (h:vy l fs r=0):(1≤r.kids∧r.kids≤3)∧(tmF r.mean).1=0:=by
  by_cases h1:Q9 r
  · rw [IJ h1] at h;cases h
  by_cases h2:(yV l fs r.gr).1=0
  · by_cases h3:u3 r.gr r.kids=true
    · rw [Rj h1 h2 h3] at h
      unfold Q9 at h1;exact⟨by omega,h⟩
    · rw [Rx h1 h2 (by simpa using h3)] at h;cases h
  · rw [Rv h1 h2] at h;exact absurd h h2
theorem Z3 {l:List Ty} {fs:List Ft} (h:(yX l fs).1=0):(qZ l fs).1=0∧3 < fs.length:=by
  by_cases h1:(qZ l fs).1=0
  · by_cases h2:fs.length≤3
    · rw [HV h1 h2] at h;cases h
    · exact⟨h1,by omega⟩
  · rw [N5 h1] at h;exact absurd h h1
theorem fn40:zK Tryz.prog 40=true:=by kernel_rfl
theorem fn42:zK Tryz.prog 42=true:=by kernel_rfl
theorem fn75:zK Tryz.prog 75=true:=by kernel_rfl
theorem Ik:(Tryz.prog.info? 57).map (·.size)=some 11:=by kernel_rfl
theorem OW:(Tryz.prog.info? 99).map (·.size)=some 8:=by kernel_rfl
theorem ze99:(Tryz.prog.info? 99).map (·.zero)=some (some (.agg #[.int .i64 0,.int .i64 0,.int .i64 0,.string ⟨#[]⟩,.int .i64 0,.string ⟨#[]⟩,.slice none 0 0,.slice none 0 0])):=by kernel_rfl
set_option maxRecDepth 100000 in
set_option maxHeartbeats 4000000 in
theorem C4 (AT AF:Option Addr) (ct cf:Nat) (l:List Ty) (fs:List Ft) (r:Orl) (G SA BA OA:Option Addr) (cg cs cb co bu bd:Nat) (w:World) (hTI:TableIn w l bu bd) (h60:l.length≤60) (hh0:(qZ l fs).1=0) (hF:FeatsIn w AF fs) (hP:OrP w r G SA BA OA):Calls Tryz.prog 42 #[.agg #[.slice AT l.length ct,.slice AF fs.length cf],tabV l.length bu bd,.agg #[.string (r.rule).name,.slice G (r.rule).gr.length cg,.int .i64 (r.rule).kids,.int .i64 (r.rule).wt,.int .i64 ((r.rule).mean).kind,.string ((r.rule).mean).name,.int .i64 ((r.rule).mean).index,.string ((r.rule).mean).type.base,.slice SA ((r.rule).mean).type.args.length cs,.slice BA ((r.rule).mean).args.length cb,.slice OA r.om.length co]] w fun e w'=>e= .returned (flV (Q0 l fs r))∧Bel w w':=by
 have hfo:=O9 hh0;have h40:=C0 hh0;have hmo:=hP.o.1;unfold yJ at hmo;refine enT Tryz.func42 Tryz.ntmps42 rfl rfl fun hB=>?_;refine zn2 ?_;refine x6 (v:= .agg #[_,_]) (cs:=#[_,_]) rfl rfl (fun b3 w1 hb3 s1 hr=>?_);refine x6 (v:= .agg #[_,_]) (cs:=#[_,_]) rfl rfl (fun b4 w2 hb4 s2 hr=>?_);refine x6 (v:= .agg #[_,_,_,_,_,_,_,_,_,_,_]) (cs:=#[_,_,_,_,_,_,_,_,_,_,_]) rfl rfl (fun b5 w3 hb5 s3 hr=>?_);refine qq (cs:=#[.int .i64 0,.int .i64 0]) qv rfl (fun b6 w4 hb6 s4 hr=>?_);have lo6:=nLT (Bel.size hB.u) hr;refine zn8 ?_;refine zV W4 (YV _ _) rfl (fun e' w5 hr=>?_);obtain⟨rfl,rfl⟩:=hr;refine⟨_,rfl,?_⟩;refine zn3 ?_;refine vK rfl (fun c19=>?_) (fun c19=>?_)
 ·have hnm:xj r.rule.name=false:=by simpa using c19
  refine zn2 ?_;refine zV J7 (vz 10 (-2) _) rfl (fun e' w6 hr=>?_);obtain⟨rfl,s5⟩:=hr;replace s5:=sB s5;refine⟨_,rfl,?_⟩;refine zk hb6.u rfl rfl zq rfl zQ (fun w7 hq s6=>?_);replace hb6:=hq;refine zn4 ?_;refine x7 (.inl rfl) rfl (zy U36 rfl rfl hb6.range0 zq) ?_;exact⟨qK (BX hnm),hB.u⟩
 have hnm:xj r.rule.name=true:=by simpa using c19
 refine zn8 ?_;refine wl (zY U54 rfl rfl (hb5.u.sub (n:=10) (xs:=[_,_,_,_,_,_,_,_,_,_]) rfl) sz54) ?_;refine zV fn45 (R8 AT AF G SA BA ct cf cg cs cb bu bd l fs r.rule _ (hTI.mono hB.u) h60 (hF.mono hB.u) hfo h40 (hP.g.mono hB.u) (hP.s.mono hB.u) (hP.t.mono hB.u)) rfl (fun e' w8 hr=>?_);obtain⟨rfl,s7⟩:=hr;replace s7:=sB s7;refine⟨_,rfl,?_⟩;refine zn9 ?_;refine zX rfl (fun c27=>?_) (fun c27=>?_)
 ·refine zn3 ?_;refine zV J7 (vz (vy l fs r.rule) (-2) _) rfl (fun e' w9 hr=>?_);obtain⟨rfl,s8⟩:=hr;replace s8:=sB s8;refine⟨_,rfl,?_⟩;refine zk hb6.u rfl rfl zq rfl zQ (fun w10 hq s9=>?_);replace hb6:=hq;refine zn4 ?_;refine x7 (.inl rfl) rfl (zy U36 rfl rfl hb6.range0 zq) ?_;exact⟨qK (BQ hnm c27),hB.u⟩
 have hr0:vy l fs r.rule=0:=Decidable.not_not.1 c27;obtain⟨hkd,htm⟩:=Zw hr0;obtain⟨v,τ,hm⟩:=Jw htm;refine ZX ?_;refine zX rfl (fun c36=>?_) (fun c36=>?_)
 ·refine zn2 ?_;refine zV J7 (vz 2 (-2) _) rfl (fun e' w11 hr=>?_);obtain⟨rfl,s10⟩:=hr;replace s10:=sB s10;refine⟨_,rfl,?_⟩;refine zk hb6.u rfl rfl zq rfl zQ (fun w12 hq s11=>?_);replace hb6:=hq;refine zn4 ?_;refine x7 (.inl rfl) rfl (zy U36 rfl rfl hb6.range0 zq) ?_;exact⟨qK (BJ hnm hr0 oM),hB.u⟩
 have h36:¬r.rule.kids≤(r.om.length:Int):=by omega
 refine zn5 ?_;refine wl (zY U54 rfl rfl (hb5.u.sub (n:=10) (xs:=[_,_,_,_,_,_,_,_,_,_]) rfl) sz54) ?_;refine zV fn75 (VJ r.rule G SA BA cg cs cb _ hm hkd (hP.s.mono hB.u) (hP.t.mono hB.u)) rfl (fun e' w13 hr=>?_);obtain⟨⟨A8,n8,c8,rfl,hA0,hA1⟩,s12⟩:=hr;replace s12:=sB s12;obtain⟨wA,hwA⟩:∃ x,x=w13:=⟨_,rfl⟩
 have hBA:Bel wA w13:=by rw [hwA];exact Below.refl _ _
 rw [← hwA] at hA1;refine⟨_,rfl,?_⟩;refine zn18 ?_;refine zW (rg (rg [] 9 6) 44 68) (fun m g w'=>∃ i:Nat,i≤r.om.length∧m=r.om.length - i∧g 44= .int .i64 i∧g 9= .int .i64 (Q2 r i)∧Bel w w'∧Bel wA w'∧Blk w' b3 25 #[.slice AT l.length ct,.slice AF fs.length cf]∧Blk w' b4 89 #[.slice (some ⟨bu,0,none⟩) l.length l.length,.slice (some ⟨bd,0,none⟩) l.length l.length]∧Blk w' b5 57 #[.string (r.rule).name,.slice G (r.rule).gr.length cg,.int .i64 (r.rule).kids,.int .i64 (r.rule).wt,.int .i64 ((r.rule).mean).kind,.string ((r.rule).mean).name,.int .i64 ((r.rule).mean).index,.string ((r.rule).mean).type.base,.slice SA ((r.rule).mean).type.args.length cs,.slice BA ((r.rule).mean).args.length cb,.slice OA r.om.length co]∧Blk w' b6 36 #[.int .i64 0,.int .i64 0]∧x8 (omN r) 0 r.om.length=x8 (omN r) i (r.om.length - i)) (r.om.length) ?_ (fun m g11 w14 hI=>?_)
 ·exact⟨0,Nat.zero_le _,rfl,rfl,rfl,hB.u,hBA,hb3.u,hb4.u,hb5.u,hb6.u,rfl⟩
 obtain⟨i,hi,hm11,h44,h9,hB,hBA,hb3,hb4,hb5,hb6,hO'⟩:=hI;refine zZ 44 _ h44 nu (zZ 9 _ h9 nu (zn6 ?_));refine zX rfl (fun c45=>?_) (fun c45=>?_)
 ·have hil:i < r.om.length:=by omega
  obtain⟨ob,oo,Sx,csx,Bx,cbx,hoe,hob,hor,hsx,htx⟩:=hP.o.at_ hil;refine zn7 ?_;refine wl (xk (i:=i) U55 OW (show ev _ _ _=_ from Z1 _ _ hoe) rfl oM rfl) (zn1 ?_);refine qq (cs:=#[.int .i64 0,.int .i64 0,.int .i64 0,.string ⟨#[]⟩,.int .i64 0,.string ⟨#[]⟩,.slice none 0 0,.slice none 0 0]) ze99 rfl (fun b11 w15 hb11 s13 hr=>?_);have:=nLL hb3.lt hr;have:=nLL hb4.lt hr;have:=nLL hb5.lt hr;have:=nLL hb6.lt hr;have lo11:=nLT (Bel.size hB) hr;have lo_hBA_b11:=nLT (Bel.size hBA) hr;refine waI rfl ?_;refine zk hb11 rfl rfl OW rfl zQ (fun w16 hq s14=>?_);replace hb11:=hq;refine zn4 ?_;replace hB:=(hB.tr0 s13).tr1 s14 lo11;replace hb6:=(hb6.tr0 s13).tr1 s14 oM;refine xJ (rg [] 49 21) 69 (.bool (decide ((r.om[i]).kid < 1∨r.rule.kids < (r.om[i]).kid∨(r.om[i]).wt < 0∨1000000 < (r.om[i]).wt))) nu ?_ (fun gq=>?_)
  ·refine zn5 ?_;refine zw 52 rfl (fun g52=>?_) (fun g52=>?_)
   ·refine J9 ?_;refine zJ (e_R ⟨rfl,agA,?_⟩);exact clA
   refine ZX ?_;refine zw 60 rfl (fun g60=>?_) (fun g60=>?_)
   ·refine zn9 ?_;refine zJ (e_R ⟨rfl,agA,?_⟩);exact clA
   refine zn8 ?_;refine zw 65 rfl (fun g65=>?_) (fun g65=>?_)
   ·refine zn4 ?_;refine zJ (e_R ⟨rfl,agA,?_⟩);exact clA
   refine zn7 ?_;refine zJ (e_R ⟨rfl,agA,?_⟩);exact clA
  refine e_S ?_;refine zX rfl (fun c69=>?_) (fun c69=>?_)
  ·refine zn3 ?_;refine zV J7 (vz 3 ((i:Nat):Int) _) rfl (fun e' w17 hr=>?_);obtain⟨rfl,s15⟩:=hr;replace s15:=sB s15;refine⟨_,rfl,?_⟩;refine zk hb6.u rfl rfl zq rfl zQ (fun w18 hq s16=>?_);replace hb6:=hq;refine zn9 ?_;refine x7 (.inl rfl) rfl (zy U36 rfl rfl hb6.range0 zq) ?_;exact⟨qK (Z4 hnm hr0 h36 (hO'.trans (qQ oM (om3 hil c69) dE))),hB.u⟩
  have hkr:1≤(r.om[i]).kid∧(r.om[i]).kid≤r.rule.kids:=⟨by omega,by omega⟩
  refine vq ?_;refine zX rfl (fun c75=>?_) (fun c75=>?_)
  ·refine zn3 ?_;refine zV J7 (vz 13 ((i:Nat):Int) _) rfl (fun e' w19 hr=>?_);obtain⟨rfl,s17⟩:=hr;replace s17:=sB s17;refine⟨_,rfl,?_⟩;refine zk hb6.u rfl rfl zq rfl zQ (fun w20 hq s18=>?_);replace hb6:=hq;refine zn9 ?_;refine x7 (.inl rfl) rfl (zy U36 rfl rfl hb6.range0 zq) ?_;exact⟨qK (Z4 hnm hr0 h36 (hO'.trans (qQ oM (om13 hil c69 c75) dE))),hB.u⟩
  refine ky ?_;refine wl (zY U44 rfl rfl (hb11.sub (n:=6) (xs:=[_,_,_,_,_,_]) rfl) qW) ?_;refine zV fn76 (Tz Sx Bx csx cbx (r.om[i]).mean _ (hsx.mono hB) (htx.mono hB)) rfl (fun e' w21 hr=>?_);obtain⟨rfl,s19⟩:=hr;replace s19:=sB s19;refine⟨_,rfl,?_⟩;refine xV (cs:=#[.int .i64 0,.int .i64 0]) qv rfl (fun _=>rfl) (fun _=>rfl) zq rfl zQ (fun b12 w23 hb12 s20 hr=>?_);refine zn9 ?_;refine zX rfl (fun c85=>?_) (fun c85=>?_)
  ·refine zn5 ?_;refine zV J7 (vz (tmF (r.om[i]).mean).1 ((i:Nat):Int) _) rfl (fun e' w24 hr=>?_);obtain⟨rfl,s21⟩:=hr;replace s21:=sB s21;refine⟨_,rfl,?_⟩;refine zk hb6.u rfl rfl zq rfl zQ (fun w25 hq s22=>?_);replace hb6:=hq;refine zn9 ?_;refine x7 (.inl rfl) rfl (zy U36 rfl rfl hb6.range0 zq) ?_;exact⟨qK (Z4 hnm hr0 h36 (hO'.trans (qQ oM (omT hil c69 c75 c85) c85))),hB.u⟩
  have htx0:=Decidable.not_not.1 c85;obtain⟨u,σ,hu⟩:=Jw htx0;refine zn5 ?_;refine wl (zY U44 rfl rfl (hb11.u.sub (n:=6) (xs:=[_,_,_,_,_,_]) rfl) qW) ?_;refine zV fn77 (typedM hu Sx Bx csx cbx _ (hsx.mono hB.u) (htx.mono hB.u)) rfl (fun e' w26 hr=>?_);obtain⟨⟨Au,cu2,rfl,hSu⟩,s23⟩:=hr;replace s23:=sB s23;obtain⟨wU,hwU⟩:∃ x,x=w26:=⟨_,rfl⟩
  have hBU:Bel wU w26:=by rw [hwU];exact Below.refl _ _
  rw [← hwU] at hSu;refine⟨_,rfl,?_⟩;refine wmT rfl (wl (j5 (v:= .agg _) rfl rfl) (wl (j5 (v:= .bool _) rfl rfl) ?_));refine xV (cs:=#[.string ⟨#[]⟩,.slice none 0 0]) ov rfl (fun _=>rfl) (fun _=>rfl) x9 rfl zQ (fun b13 w28 hb13 s24 hr=>?_);refine zn4 ?_;replace hB:=hB.tr0 (s19.trans (s20.trans (s23.trans s24)));replace hb6:=hb6.tr0 (s19.trans (s20.trans (s23.trans s24)));by_cases qa:Q7 r.rule.kids.toNat τ=none
  ·obtain⟨rfl,rfl,rfl⟩:=hA0 qa;have hno:¬KJ r r.om[i]:=fun⟨v2,τ2,u2,σ2,L2,g1,_,g3,_⟩=>by
     obtain⟨rfl,rfl⟩:=hm.det g1;rw [qa] at g3;cases g3
   refine jx [] [0,1,2,3,4,5,6,7,8,9,10,11,12] rfl (fun w29 s25=>?_);refine zn1 ?_;refine hl rfl (fun _=>KZ U39 rfl rfl) (J9 ?_);refine zV J7 (vz 12 ((i:Nat):Int) _) rfl (fun e' w30 hr=>?_);obtain⟨rfl,s26⟩:=hr;replace s26:=sB s26;refine⟨_,rfl,?_⟩;refine zk hb6.u rfl rfl zq rfl zQ (fun w31 hq s27=>?_);replace hb6:=hq;refine zn8 ?_;refine x7 (.inl rfl) rfl (zy U36 rfl rfl hb6.range0 zq) ?_;exact⟨qK (Z4 hnm hr0 h36 (hO'.trans (qQ oM (L8 hil c69 c75 htx0 hno) dE))),hB.u⟩
  replace hBA:=((hBA.tr0 s13).tr1 s14 lo_hBA_b11).tr0 (s19.trans (s20.trans (s23.trans s24)));obtain⟨L,hL⟩:∃ L,Q7 r.rule.kids.toNat τ=some L:=by
    cases h:Q7 r.rule.kids.toNat τ with
    | none=>exact absurd h qa
    | some L=>exact⟨L,rfl⟩
  obtain⟨rfl,⟨gA,rfl⟩,hSA⟩:=hA1 L hL;have hkl:((r.om[i]).kid - 1).toNat < L.length:=by
    rw [oW] at hL;by_cases h:r.rule.kids.toNat≤(qJ τ).length
    · rw [if_pos h] at hL
      rw [← Option.some.inj hL,List.length_take];omega
    · rw [if_neg h] at hL;cases hL
  obtain⟨σa,hσa⟩:∃ x,x=L[((r.om[i]).kid - 1).toNat]:=⟨_,rfl⟩
  obtain⟨sb,so,Aσ,cσ,hse,hsb,hrx,hsx2⟩:=hSA.at_ (k:=((r.om[i]).kid - 1).toNat) (by rw [List.length_map];exact hkl);rw [List.getElem_map,← hσa] at hrx hsx2;obtain⟨rfl,rfl⟩:sb=gA∧so=0:=by cases hse;exact⟨rfl,rfl⟩
  have hki:(r.om[i]).kid - 1=(((r.om[i]).kid - 1).toNat:Nat):=by omega
  refine jx [] [0,1,2,3,4,5,6,7,8,9,10,11,12] rfl (fun w32 s28=>?_);refine zn1 ?_;refine hl rfl (fun _=>KZ U39 rfl rfl) (zn5 ?_);refine hg 98 rfl rfl rfl (fun _ _=>j8 (c:=((((r.om[i]).kid - 1).toNat:Nat):Int)) rfl rfl hki oM) (hg 98 rfl rfl rfl (fun _ _=>xk (i:=((r.om[i]).kid - 1).toNat) U39 x9 rfl rfl hkl rfl) (hgS 98 rfl rfl rfl U41 rfl rfl (hBA.u.range hsb hrx) x9 (h1 rfl (zn1 ?_))));refine zV fn78 (R7 Au Aσ cu2 cσ σ σa w32 (hSu.mono hBU.u) (hsx2.mono hBA.u)) rfl (fun e' w33 hr=>?_);obtain⟨rfl,s29⟩:=hr;replace s29:=sB s29;have hsH10:=s29;refine⟨_,rfl,?_⟩;refine zJ (M5 hsH10 (zn4 ?_));refine vK rfl (fun c108=>?_) (fun c108=>?_)
  ·have hno:¬KJ r r.om[i]:=fun⟨v2,τ2,u2,σ2,L2,g1,g2,g3,g4⟩=>by
     obtain⟨rfl,rfl⟩:=hm.det g1;obtain⟨rfl,rfl⟩:=hu.det g2;obtain rfl:=Option.some.inj (hL.symm.trans g3);rw [List.getElem?_eq_getElem hkl,← hσa] at g4;obtain rfl:=Option.some.inj g4;rw [Ts.eqb_iff.2 rfl] at c108;cases c108
   refine zn3 ?_;refine zV J7 (vz 12 ((i:Nat):Int) _) rfl (fun e' w34 hr=>?_);obtain⟨rfl,s30⟩:=hr;replace s30:=sB s30;refine⟨_,rfl,?_⟩;refine zk hb6.u rfl rfl zq rfl zQ (fun w35 hq s31=>?_);replace hb6:=hq;refine zn8 ?_;refine x7 (.inl rfl) rfl (zy U36 rfl rfl hb6.range0 zq) ?_;exact⟨qK (Z4 hnm hr0 h36 (hO'.trans (qQ oM (L8 hil c69 c75 htx0 hno) dE))),hB.u⟩
  have hok:KJ r r.om[i]:=by
    have h1:σ.eqb σa=true:=by simpa using c108
    exact⟨v,τ,u,σ,L,hm,hu,hL,by rw [List.getElem?_eq_getElem hkl,← hσa,Ts.eqb_iff.1 h1]⟩
  refine zn7 ?_;refine xv (r.om.length - (i + 1)) oM agA ?_;exact⟨i + 1,by omega,rfl,rfl,congrArg (Value.int .i64) (last_at hil).symm,hB.u,hBA.u,hb3.u,hb4.u,hb5.u,hb6.u,hO'.trans (yw hil (om0 hil c69 oM htx0 hok))⟩
 have hOz:x8 (omN r) 0 r.om.length=(0,0):=hO'.trans (vk oM);refine zn7 ?_;refine wl (uW (vs:=#[]) (cs:=#[.int .i64 0,.int .i64 0]) (by simp) kR) ?_;refine zk hb6 rfl rfl zq rfl zQ (fun w36 hq s32=>?_);replace hb6:=hq;refine zn3 ?_;refine x7 (.inl rfl) rfl (zy U36 rfl rfl hb6.range0 zq) ?_;exact⟨qK (Z4 hnm hr0 h36 hOz),hB.u⟩
set_option maxHeartbeats 1000000 in
theorem L7 (AT AF:Option Addr) (ct cf:Nat) (l:List Ty) (fs:List Ft) (r:Orl) (G SA BA OA:Option Addr) (cg cs cb co:Nat) (w:World) (hTab:TabIn w) (hTy:TypesIn w AT l) (hF:FeatsIn w AF fs) (hP:OrP w r G SA BA OA):Calls Tryz.prog 14 #[.agg #[.slice AT l.length ct,.slice AF fs.length cf],.agg #[.string (r.rule).name,.slice G (r.rule).gr.length cg,.int .i64 (r.rule).kids,.int .i64 (r.rule).wt,.int .i64 ((r.rule).mean).kind,.string ((r.rule).mean).name,.int .i64 ((r.rule).mean).index,.string ((r.rule).mean).type.base,.slice SA ((r.rule).mean).type.args.length cs,.slice BA ((r.rule).mean).args.length cb,.slice OA r.om.length co]] w fun e w'=>e= .returned (flV (if (yX l fs).1≠0 then yX l fs else Q0 l fs r))∧Bel w w':=by
 refine enT Tryz.func14 Tryz.ntmps14 rfl rfl fun hB=>?_;refine zn2 ?_;refine x6 (v:= .agg #[_,_]) (cs:=#[_,_]) rfl rfl (fun b2 w1 hb2 s1 hr=>?_);refine x6 (v:= .agg #[_,_,_,_,_,_,_,_,_,_,_]) (cs:=#[_,_,_,_,_,_,_,_,_,_,_]) rfl rfl (fun b3 w2 hb3 s2 hr=>?_);refine qq (cs:=#[.int .i64 0,.int .i64 0]) qv rfl (fun b4 w3 hb4 s3 hr=>?_);have lo4:=nLT (Bel.size hB.u) hr;refine zn5 ?_;refine zV fn40 (Dz AT AF ct cf l fs _ (hTab.mono hB.u) (hTy.mono hB.u) (hF.mono hB.u)) rfl (fun e' w4 hr=>?_);obtain⟨⟨X,Y,n1,k1,n2,k2,rfl,hrd⟩,s4⟩:=hr;replace s4:=sB s4;obtain⟨wR,hwR⟩:∃ x,x=w4:=⟨_,rfl⟩
 have hBR:Bel wR w4:=by rw [hwR];exact Below.refl _ _
 rw [← hwR] at hrd;refine⟨_,rfl,?_⟩;refine wmT rfl (wl (j5 (v:= .agg _) rfl rfl) (wl (j5 (v:= .agg _) rfl rfl) ?_));refine qq (cs:=#[.slice none 0 0,.slice none 0 0]) Nv rfl (fun b5 w5 hb5 s5 hr=>?_);have:=nLL hb2.u.lt hr;have:=nLL hb3.u.lt hr;have:=nLL hb4.u.lt hr;have lo5:=nLT (Bel.size hB.u) hr;have lo_hBR_b5:=nLT (Bel.size hBR) hr;refine qq (cs:=#[.int .i64 0,.int .i64 0]) qv rfl (fun b6 w6 hb6 s6 hr=>?_);have:=nLL hb2.u.lt hr;have:=nLL hb3.u.lt hr;have:=nLL hb4.u.lt hr;have:=nLL hb5.lt hr;have lo6:=nLT (Bel.size hB.u) hr;have lo_hBR_b6:=nLT (Bel.size hBR.u) hr;refine zk hb5.u rfl rfl uY rfl zQ (fun w7 hq s7=>?_);replace hb5:=hq;refine zk hb6.u rfl rfl zq rfl zQ (fun w8 hq s8=>?_);replace hb6:=hq;refine yv ?_;refine zX rfl (fun c14=>?_) (fun c14=>?_)
 ·refine zn3 ?_;refine zk hb4.u rfl rfl zq rfl zQ (fun w9 hq s9=>?_);replace hb4:=hq;refine zn4 ?_;refine x7 (.inl rfl) rfl (zy U36 rfl rfl hb4.range0 zq) ?_;exact⟨qK (if_pos c14),hB.u⟩
 have hr0:=Decidable.not_not.1 c14;obtain⟨bu,bd,rfl,rfl,rfl,rfl,rfl,rfl,hTI⟩:=hrd hr0;obtain⟨hh0,hf3⟩:=Z3 hr0;have hS:=ZV hh0;refine zn7 ?_;refine zV fn42 (C4 AT AF ct cf l fs r G SA BA OA cg cs cb co bu bd _ (hTI.mono hBR.u) hS.le hh0 (hF.mono hB.u) (hP.mono hB.u)) rfl (fun e' w10 hr=>?_);obtain⟨rfl,s10⟩:=hr;replace s10:=sB s10;refine⟨_,rfl,?_⟩;refine zk hb4.u rfl rfl zq rfl zQ (fun w11 hq s11=>?_);replace hb4:=hq;refine zn3 ?_;refine x7 (.inl rfl) rfl (zy U36 rfl rfl hb4.range0 zq) ?_;exact⟨qK (if_neg (fun h=>h hr0)),hB.u⟩
end Go.Proofs.YtbcpgfnfiekbiaaGreatDoor
namespace Go.Proofs.YtbcpgfnfiekbiaaGreatDoor
open Go.RowKit
def tyC (S:Nat→Prop) (w:World) (σ:Ts) (v:List Value):Prop:=∃ A c,v= [.string σ.sm.base,.slice A σ.sm.args.length c]∧TyS S w A σ
def TysR (S:Nat→Prop) (w:World) (A:Option Addr) (L:List Ts):Prop:=∀ p (hp:p < L.length),∃ g A' c',A=some ⟨g,0,none⟩∧S g∧g < w.heap.size∧w.rangeAt g (0 + p * 2) [.string (L[p]).sm.base,.slice A' (L[p]).sm.args.length c']∧TyS S w A' L[p]
section
variable {S S':Nat→Prop} {lo n:Nat} {w w':World} {A:Option Addr} {L:List Ts}
theorem tys_row {base k cap:Nat} {vs:List Value} (ho:Own w base 41 2 A k cap vs) (hl:∀ b,base≤b→S b) (h:RowD (tyC S) 2 w L vs):TysR S w A L:=fun p hp=>by
  obtain⟨v,hv,⟨A',c',rfl,hT⟩,hg⟩:=h.get p hp
  have h0:=hg 0 _ rfl
  obtain⟨g,rfl,hb,hgl,hc⟩:=ho.cell (by rintro rfl;simp at h0)
  refine⟨g,A',c',rfl,hl g hb,hgl,fun j u hj=>?_,hT⟩
  rw [Nat.zero_add]
  exact hc _ _ (hg j u hj)
theorem TysR.tr {Z:List Nat} (h:TysR S w A L) (hs:Same Z w w') (hz:∀ g ∈ Z,¬S g∨w.heap.size≤g):TysR S w' A L:=fun p hp=>by
  obtain⟨g,A',c',e,h1,h2,h3,h4⟩:=h p hp
  have hn:g ∉ Z:=fun hm=>by
    rcases hz g hm with h | h
    · exact h h1
    · omega
  exact⟨g,A',c',e,h1,nLL h2 hs.size,fun j v hj=>M6 hs h2 hn (h3 j v hj),h4.tr hs hz⟩
theorem TysR.mono (h:TysR S w A L) (hb:Bel w w'):TysR S w' A L:=h.tr (sB hb) (by simp)
theorem TysR.imp (h:TysR S w A L) (hi:∀ b,b < w.heap.size→S b→S' b):TysR S' w A L:=fun p hp=>by
  obtain⟨g,A',c',e,h1,h2,h3,h4⟩:=h p hp
  exact⟨g,A',c',e,hi g h2 h1,h2,h3,h4.imp hi _⟩
theorem TysR.sims (h:TysR S w A L) (hl:L.length≤yJ):SimsIn w A (L.map Ts.sm):=by
  cases L with
  | nil=>exact .nil
  | cons σ L=>
    obtain⟨g,A',c',rfl,_,hg,_,_⟩:=h 0 (Nat.zero_lt_succ _);refine .more (by rw [List.length_map];exact hl) hg (fun k hk=>?_);rw [List.length_map] at hk;obtain⟨g2,A2,c2,e2,_,_,h3,h4⟩:=h k hk;cases e2;rw [List.getElem_map];exact sim_at hg h3 (h4.sims _)
def TysK (S:Nat→Prop) (n:Nat) (w:World) (A:Option Addr) (L:List Ts):Prop:=n≤w.heap.size∧TysR (fun b=>S b∧b < n) w A L
theorem TysK.tr {Z:List Nat} (h:TysK S n w A L) (hs:Same Z w w') (hz:∀ g ∈ Z,¬S g∨n≤g):TysK S n w' A L:=⟨nLT h.1 hs.size,h.2.tr hs (fun g hg=> .inl (fun hS=>by rcases hz g hg with h | h;exact h hS.1;omega))⟩
theorem TysR.k (h:TysR S w A L):TysK S w.heap.size w A L:=⟨Nat.le_refl _,h.imp (fun _ hb hS=>⟨hS,hb⟩)⟩
theorem TyS.hv {w0:World} {X:List Nat} {σ:Ts} (h:TyS S w A σ) (hn:n≤w.heap.size) (hS:∀ b,b < w.heap.size→S b→b < w0.heap.size∨(lo≤b∧b < n∧b ∉ X)):Hv lo X n w (fun w2=>Kw w0 w→Kw w0 w2→SimsIn w2 A σ.sm.args):=
  ⟨hn,fun w2 h2 hk h0 hw=>(h.keep h2 (fun b hb hs=>by
    rcases hS b hb hs with e | ⟨e1,e2,e3⟩
    · exact(hw.2 b e).trans (h0.2 b e).symm
    · exact hk b e1 e2 e3) σ).sims _⟩
end
end Go.Proofs.YtbcpgfnfiekbiaaGreatDoor
namespace Go.Proofs.YtbcpgfnfiekbiaaGreatDoor
open Go.RowKit
set_option maxRecDepth 100000 in
set_option maxHeartbeats 2000000 in
theorem IV (S:Nat→Prop) (τ:Ts) (As:Option Addr) (cs:Nat) (w:World) (hτ:(qJ τ).length≤1000000) (hS:TyS S w As τ) (hSw:∀ b,w.heap.size≤b→S b):Calls Tryz.prog 48 #[.agg #[.string τ.sm.base,.slice As τ.sm.args.length cs]] w fun e w'=>(∃ (A':Option Addr) (c':Nat) (s:ByteArray) (A2:Option Addr) (n2 c2:Nat),e= .returned (.tuple #[.slice A' (qJ τ).length c',.agg #[.string s,.slice A2 n2 c2]])∧TysR S w' A' (qJ τ))∧Bel w w':=by
 refine enT Tryz.func48 Tryz.ntmps48 rfl rfl fun hB=>?_;refine zn2 ?_;refine x6 (v:= .agg #[_,_]) (cs:=#[_,_]) rfl rfl (fun b1 w1 hb1 s1 hr=>?_);have lo1:=nLT (Bel.size hB) hr;refine waS rfl ?_;refine qq (cs:=#[.string ⟨#[]⟩,.slice none 0 0]) ov rfl (fun b3 w2 hb3 s2 hr=>?_);have:=nLL hb1.lt hr;have lo3:=nLT (Bel.size hB.u) hr;refine zn3 ?_;obtain⟨nA,hnA⟩:∃ z,z=w2.heap.size:=⟨_,rfl⟩
 replace hB:=hB.tr0 (s1.trans s2);have lT:w.heap.size≤nA:=by rw [hnA];exact Bel.size hB
 replace hb1:=hb1.tr0 s2;have lA:b1 < nA:=by rw [hnA];exact hb1.lt
 have lA3:b3 < nA:=by rw [hnA];exact hb3.lt
 have hzN:nA≤w2.heap.size:=by rw [hnA];exact Nat.le_refl _
 clear hnA;refine zn6 ?_;refine zW (rg [] 4 15) (fun m g w'=>∃ (ρ:Ts) (As:Option Addr) (cs:Nat) (A4:Option Addr) (c4:Nat) (vs:List Value) (L:List Ts),m=(qJ ρ).length∧g 4= .slice A4 L.length c4∧Bel w w'∧Blk w' b1 41 #[.string ρ.sm.base,.slice As ρ.sm.args.length cs]∧Blk w' b3 41 #[.string ⟨#[]⟩,.slice none 0 0]∧TyS S w As ρ∧nA≤w'.heap.size∧Own w' nA 41 2 A4 L.length c4 vs∧RowD (tyC S) 2 w L vs∧qJ τ=L ++ qJ ρ∧L.length + (qJ ρ).length=(qJ τ).length) ((qJ τ).length) ?_ (fun m g2 w3 hI=>?_)
 ·exact⟨τ,As,cs,none,0,[],[],rfl,rfl,hB,hb1,hb3,hS,hzN,Own.nil _ _ _ _,.nil,rfl,Nat.zero_add _⟩
 obtain⟨ρ,As,cs,A4,c4,vs,L,hmj,h4,hB,hb1,hb3,hSs,hzN,ho4,hrow,hall,hLn⟩:=hI;refine zZ 4 _ h4 nu (zn8 ?_);refine zX rfl (fun c7=>?_) (fun c7=>?_)
 ·obtain⟨ρ1,ρ2,rfl⟩:∃ x y,ρ= .f x y:=by
    cases ρ with
    | b t=>exact absurd c7 (by cases t <;> simp [Ts.sm,Sm.base,smE,smT])
    | f x y=>exact⟨x,y,rfl⟩
  have hnx:(qJ (.f ρ1 ρ2)).length=(qJ ρ2).length + 1:=rfl;obtain⟨sb,so,Ax1,cx1,Ax2,cx2,hse,hsb,_,hr4,hsx1,hsx2⟩:=hSs;obtain⟨hrx1,hrx2⟩:=rng4 hr4;refine zn8 ?_;refine wl (xk (i:=0) U39 x9 (show ev _ _ _=_ from Z1 _ _ hse) rfl (show 0 < 2 by decide) rfl) (zn1 ?_);refine qw (cs:=#[_,_]) [(0,.agg _)] rfl U39 x9 ov dE dE kR rfl (fun b13 w4 hb13 s3 hr=>?_);have:=nLL hb1.lt hr;have:=nLL hb3.lt hr;have or_ho4_b13:=fun g hg=>nLL (ho4.lt g hg).2 hr
  replace hzN:=nLT hzN s3.size;replace ho4:=ho4.tr0 s3;refine vX U39 in41 rfl dE ho4 hb13 rfl rfl rfl zQ dE oM oM hzN (fun g14 cap14 w5 ho14 s4 hg=>?_);have ne_ho14_b1:g14≠b1:=neA ho4 hb1.u.lt hg
  have ne_ho14_b3:g14≠b3:=neA ho4 hb3.u.lt hg
  replace hB:=hB.u.tr s4 (fun g hg=>nLT oM (ho4.lt g hg).1);replace hb1:=hb1.tr0 s3;replace hb1:=hb1.ta s4 ho4;replace hb3:=hb3.tr0 s3;replace hb3:=hb3.ta s4 ho4;replace hzN:=nLT hzN s4.size;refine zn6 ?_;refine wl (xk (i:=1) U39 x9 (show ev _ _ _=_ from Z1 _ _ hse) rfl (show 1 < 2 by decide) rfl) (zn1 ?_);refine zk hb1 rfl rfl x9 rfl zQ (fun w6 hq s5=>?_);replace hzN:=nLT hzN s5.size;replace ho14:=ho14.tr1 s5 (neS ne_ho14_b1);replace hb1:=hq;refine zJ (e_B (xv ((qJ ρ2).length) oM agA ?_));replace hB:=hB.tr1 s5 lo1;replace hb3:=hb3.tr1 s5 oM;exact⟨ρ2,_,_,_,_,_,L ++ [ρ1],rfl,by rw [List.length_append];rfl,hB,hb1,hb3,hsx2,hzN,by rw [List.length_append];exact ho14,hrow.snoc rfl ⟨_,_,rfl,hsx1⟩,by rw [hall,List.append_assoc];rfl,by rw [List.length_append];simp only [List.length_cons,List.length_nil];omega⟩
 have hρ:qJ ρ= []:=by
   cases ρ with
   | b t=>rfl
   | f x y=>exact absurd rfl c7
 rw [hρ,List.append_nil] at hall;refine zn6 ?_;refine kz [] [3] [0,1,2,3] rfl (fun w7 s6=>?_);replace hzN:=nLT hzN s6.size;refine zn3 ?_;refine h1 rfl ?_;refine zk hb3.u rfl rfl x9 rfl zQ (fun w8 hq s7=>?_);have hsH3:=s7;replace ho4:=ho4.tr0 s6;replace ho4:=ho4.tq s7;replace hzN:=nLT hzN s7.size;replace hb3:=hq;refine zJ (V0 [] (zn3 ?_));refine uy (.inl rfl) rfl rfl (zy U41 rfl rfl hb3.range0 x9) ?_;replace hB:=(hB.tr0 s6).tr1 s7 lo3;exact⟨⟨A4,c4,_,_,_,_,by rw [hall];rfl,by rw [hall];exact tys_row ho4 (fun b hb=>hSw b (nLT lT hb)) (hrow.imp (fun x v ⟨A,c,e,h⟩=>⟨A,c,e,h.mono hB⟩))⟩,hB⟩
end Go.Proofs.YtbcpgfnfiekbiaaGreatDoor
namespace Go.Proofs.YtbcpgfnfiekbiaaGreatDoor
open Go.RowKit
theorem inB_le (t:Tm) (b:Nat):inB t b≤b + 1:=by unfold inB;split <;> omega
def argN (k:Nat):Int:=if k=3 then 1 else if k=4 then 2 else 0
theorem arg_at {k:Nat} (h:k < 5):(#[.int .i64 0,.int .i64 0,.int .i64 0,.int .i64 1,.int .i64 2]:Array Value)[0 + k * 1]? =some (.int .i64 (argN k)):=by
  match k,h with
  | 0,_=>rfl
  | 1,_=>rfl
  | 2,_=>rfl
  | 3,_=>rfl
  | 4,_=>rfl
def zOk (k:Nat) (t:Tm):Prop:=((t.args.length:Nat):Int)=argN k∧(k=1∨t.name=⟨#[]⟩)∧(k=2∨t.index=0)∧(k=1∨k=3∨Vj t.type)
instance (k:Nat) (t:Tm):Decidable (zOk k t):=by unfold zOk;infer_instance
def ndX (n d b:Nat) (t:Tm):Int:=if 200 < n + 1∨40 < d then 1 else ndC b t
theorem ndX_bad {n d b:Nat} {t:Tm} {r:List (Tm×Nat×Nat)} (h:ndX n d b t≠0):tst ((t,d,b) :: r) n=(n + 1,(ndX n d b t,(n:Int))):=by
  unfold ndX at h ⊢;by_cases e:200 < n + 1∨40 < d
  · rw [if_pos e];exact tst_out e
  · rw [if_neg e] at h ⊢;exact tst_bad e h
theorem ndX_go {n d b:Nat} {t:Tm} {r:List (Tm×Nat×Nat)} (h:ndX n d b t=0):tst ((t,d,b) :: r) n=tst (t.args.map (fun y=>(y,d + 1,inB t b)) ++ r) (n + 1)∧(d≤40∧n + 1≤200)∧ndC b t=0:=by
  unfold ndX at h;by_cases e:200 < n + 1∨40 < d
  · rw [if_pos e] at h;cases h
  · rw [if_neg e] at h;exact⟨tst_go e h,⟨by omega,by omega⟩,h⟩
theorem ndC_len {b:Nat} {t:Tm} (h:ndC b t=0):t.args.length≤2:=by
  unfold ndC at h
  repeat' split at h
  all_goals first | omega | (exfalso;revert h;decide)
section x
variable {n d b k:Nat} {t:Tm} (hb:¬(200 < n + 1∨40 < d)) (hk:t.kind=(k:Int)) (h1:1≤k) (h4:k≤4)
include hb
theorem ndX_4 (h:t.kind < 1∨4 < t.kind):ndX n d b t=4:=by
  unfold ndX ndC;rw [if_neg hb,if_neg oM,if_neg oM,if_neg oM,if_neg oM]
include hk h1 h4
theorem ndX_5 (h:¬zOk k t):ndX n d b t=5:=by
  unfold ndX ndC;rw [if_neg hb];unfold zOk argN at h
  match k,hk,h1,h4 with
  | 1,hk,_,_=>
    have hk:t.kind=1:=hk;rw [if_pos hk,if_neg (fun e=>h ⟨by simp [e.2],.inl rfl,.inr e.1,.inl rfl⟩)]
  | 2,hk,_,_=>
    have hk:t.kind=2:=hk;rw [if_neg (show ¬t.kind=1 by rw [hk];decide),if_pos hk,if_neg (fun e=>h ⟨by simp [e.2.2],.inr e.1,.inl rfl,.inr (.inr e.2.1)⟩)]
  | 3,hk,_,_=>
    have hk:t.kind=3:=hk;rw [if_neg (show ¬t.kind=1 by rw [hk];decide),if_neg (show ¬t.kind=2 by rw [hk];decide),if_pos hk,if_neg (fun e=>h ⟨by simp [e.2.2],.inr e.1,.inr e.2.1,.inr (.inl rfl)⟩)]
  | 4,hk,_,_=>
    have hk:t.kind=4:=hk;rw [if_neg (show ¬t.kind=1 by rw [hk];decide),if_neg (show ¬t.kind=2 by rw [hk];decide),if_neg (show ¬t.kind=3 by rw [hk];decide),if_pos hk,if_neg (fun e=>h ⟨by simp [e.2.2.2],.inr e.1,.inr e.2.1,.inr (.inr e.2.2.1)⟩)]
theorem ndX_z (h:zOk k t):ndX n d b t=if k=1 then (if xj t.name=true then (if smF t.type=0 then 0 else 12) else 10) else if k=2 then (if t.index < 0∨(b:Int)≤t.index then 15 else 0) else if k=3 then (if smF t.type=0 then 0 else 12) else 0:=by
  unfold ndX ndC;rw [if_neg hb];unfold zOk argN at h;obtain⟨a1,a2,a3,a4⟩:=h
  match k,hk,h1,h4 with
  | 1,hk,_,_=>
    have hk:t.kind=1:=hk;have q1:=a3.resolve_left dE;have q2:t.args.length=0:=by simpa using a1
    rw [if_pos hk,if_pos ⟨q1,q2⟩];rfl
  | 2,hk,_,_=>
    have hk:t.kind=2:=hk;have q1:=a2.resolve_left dE;have q2:t.args.length=0:=by simpa using a1
    have q3:=(a4.resolve_left dE).resolve_left dE;rw [if_neg (show ¬t.kind=1 by rw [hk];decide),if_pos hk,if_pos ⟨q1,q3,q2⟩];rfl
  | 3,hk,_,_=>
    have hk:t.kind=3:=hk;have q1:=a2.resolve_left dE;have q0:=a3.resolve_left dE;have q2:t.args.length=1:=by simp at a1;omega
    rw [if_neg (show ¬t.kind=1 by rw [hk];decide),if_neg (show ¬t.kind=2 by rw [hk];decide),if_pos hk,if_pos ⟨q1,q0,q2⟩];rfl
  | 4,hk,_,_=>
    have hk:t.kind=4:=hk;have q1:=a2.resolve_left dE;have q0:=a3.resolve_left dE;have q2:t.args.length=2:=by simp at a1;omega
    have q3:=(a4.resolve_left dE).resolve_left dE;rw [if_neg (show ¬t.kind=1 by rw [hk];decide),if_neg (show ¬t.kind=2 by rw [hk];decide),if_neg (show ¬t.kind=3 by rw [hk];decide),if_pos hk,if_pos ⟨q1,q0,q3,q2⟩];rfl
end x
theorem name1_any (s:ByteArray) (w:World):Calls Tryz.prog 87 #[.string s] w fun e w'=>e= .returned (.bool (xj s))∧w=w':=by
 obtain⟨c0,e0⟩:=LK s;have hN:=Lib.hid (M3 s c0 e0);refine enter Tryz.func87 Tryz.ntmps87 rfl (Nat.le_of_ble_eq_true rfl) (zn7 ?_);refine xJ (rg [] 6 8) 13 (.bool (decide (s.size < 1∨30 < s.size))) nu ?_ (fun gq=>?_)
 ·refine zn5 ?_;refine zw 9 rfl (fun g9=>?_) (fun g9=>?_)
  ·refine zn4 ?_;refine zJ (e_R ⟨rfl,agA,?_⟩);exact clA
  refine zn7 ?_;refine zJ (e_R ⟨rfl,agA,?_⟩);exact clA
 refine e_S ?_;refine zX rfl (fun c13=>?_) (fun c13=>?_)
 ·refine zn8 ?_;exact⟨vZ (by rw [hN.out];exact decide_eq_false (fun h=>by omega)),rfl⟩
 refine zn9 ?_;refine zW (rg [2,3,4,5] 14 48) (fun m g w'=>∃ k:Nat,k≤s.size∧m=s.size - k∧g 3= .int .i64 k∧w=w'∧(0 < k→97≤c0∧c0≤122)∧(∀ j (hj:j < s.size),j < k→oX (s[j]'hj)=true)) (s.size) ?_ (fun m g4 w1 hI=>?_)
 ·exact⟨0,Nat.zero_le _,rfl,rfl,rfl,fun h=>by omega,fun j hj h=>by omega⟩
 obtain⟨k,hk,hm,h3,rfl,hz,hall⟩:=hI;refine zZ 3 _ h3 nu (zn9 ?_);refine zX rfl (fun c17=>?_) (fun c17=>?_)
 ·refine zn5 ?_;refine xJ (rg [4] 20 10) 4 (.bool (decide (97≤(s[k]'oM).toNat∧(s[k]'oM).toNat≤122))) nu ?_ (fun gq=>?_)
  ·refine zn3 ?_;refine wl (YQ (i:=k) U9 rfl rfl oM) (zn2 ?_);refine zw 24 rfl (fun g24=>?_) (fun g24=>?_)
   ·refine zn5 ?_;refine wl (YQ (i:=k) U9 rfl rfl oM) (zn4 ?_);refine zJ (e_R ⟨rfl,agA,?_⟩);exact clA
   refine zn6 ?_;refine zJ (e_R ⟨rfl,agA,?_⟩);exact clA
  refine e_S (yj ?_);refine xJ (rg [5] 30 22) 5 (.bool (decide ((48≤(s[k]'oM).toNat∧(s[k]'oM).toNat≤57)∨(s[k]'oM).toNat=95∨(s[k]'oM).toNat=45))) nu ?_ (fun gq=>?_)
  ·refine zn3 ?_;refine wl (YQ (i:=k) U9 rfl rfl oM) (zn2 ?_);refine zw 34 rfl (fun g34=>?_) (fun g34=>?_)
   ·refine zn5 ?_;refine wl (YQ (i:=k) U9 rfl rfl oM) (zn4 ?_);refine zw 40 rfl (fun g40=>?_) (fun g40=>?_)
    ·refine yZ ?_;refine zJ (e_R ⟨rfl,agA,?_⟩);exact clA
    refine zn5 ?_;refine wl (YQ (i:=k) U9 rfl rfl oM) (zn4 ?_);refine zw 46 rfl (fun g46=>?_) (fun g46=>?_)
    ·refine zn6 ?_;refine zJ (e_R ⟨rfl,agA,?_⟩);exact clA
    refine zn5 ?_;refine wl (YQ (i:=k) U9 rfl rfl oM) (zn4 ?_);refine zJ (e_R ⟨rfl,agA,?_⟩);exact clA
   refine vq ?_;refine wl (YQ (i:=k) U9 rfl rfl oM) (zn4 ?_);refine zw 46 rfl (fun g46=>?_) (fun g46=>?_)
   ·refine zn6 ?_;refine zJ (e_R ⟨rfl,agA,?_⟩);exact clA
   refine zn5 ?_;refine wl (YQ (i:=k) U9 rfl rfl oM) (zn4 ?_);refine zJ (e_R ⟨rfl,agA,?_⟩);exact clA
  refine e_S (yj ?_);refine xJ (rg [] 52 10) 61 (.bool (decide (¬(97≤(s[k]'oM).toNat∧(s[k]'oM).toNat≤122)∧(¬((48≤(s[k]'oM).toNat∧(s[k]'oM).toNat≤57)∨(s[k]'oM).toNat=95∨(s[k]'oM).toNat=45)∨k=0)))) nu ?_ (fun gq=>?_)
  ·refine zn4 ?_;refine zw 54 rfl (fun g54=>?_) (fun g54=>?_)
   ·refine zn6 ?_;refine zw 57 rfl (fun g57=>?_) (fun g57=>?_)
    ·refine zn5 ?_;refine zJ (e_R ⟨rfl,agA,?_⟩);exact clA
    refine zn7 ?_;refine zJ (e_R ⟨rfl,agA,?_⟩);exact clA
   refine zn7 ?_;refine zJ (e_R ⟨rfl,agA,?_⟩);exact clA
  refine e_S ?_;refine zX rfl (fun c61=>?_) (fun c61=>?_)
  ·have hno:¬((97≤c0∧c0≤122)∧∀ j (hj:j < s.size),oX (s[j]'hj)=true):=fun h=>by
     have h1:=(gX _).1 (h.2 k oM);have h2:k=0:=by omega
     subst h2;have:=e0 oM;omega
   refine yZ ?_;exact⟨vZ (by rw [hN.out];exact decide_eq_false (fun h=>hno h.2)),rfl⟩
  have hz':97≤c0∧c0≤122:=by
    by_cases e:k=0
    · subst e;have:=e0 oM;omega
    · exact hz oM
  have hall':∀ j (hj:j < s.size),j < k + 1→oX (s[j]'hj)=true:=fun j hj h=>by
    by_cases e:j=k
    · subst e;exact(gX _).2 oM
    · exact hall j hj oM
  refine zn8 ?_;refine xv (s.size - (k + 1)) oM agA ?_;exact⟨k + 1,by omega,rfl,rfl,rfl,fun _=>hz',fun j hj h=>hall' j hj h⟩
 refine yZ ?_;exact⟨vZ (by rw [hN.out];exact decide_eq_true ⟨by omega,hz oM,fun j hj=>hall j hj oM⟩),rfl⟩
end Go.Proofs.YtbcpgfnfiekbiaaGreatDoor
