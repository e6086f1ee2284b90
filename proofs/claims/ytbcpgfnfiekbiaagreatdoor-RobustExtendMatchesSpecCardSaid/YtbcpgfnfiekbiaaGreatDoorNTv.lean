/- What these functions of the program compute, at every world: unicode/utf8.ValidString. What these functions of the program compute, at every world: internal/stringslite.IndexByte, strings.IndexByte, unicode/utf8.ValidRune, strings.shouldUseASCIISet, strings.IndexRune. What these functions of the program compute, at every world: strings.makeASCIISet, (*strings.asciiSet).contains, strings.IndexAny, strings.ContainsAny. What these functions of the program compute, at every world: glosswright/lexrule.Word. What these functions of the program compute, at every world: glosswright/term.Validate. -/
import Derived.Test.YtbcpgfnfiekbiaaGreatDoorU
import Derived.Test.YtbcpgfnfiekbiaaGreatDoorTrm
import Derived.Test.YtbcpgfnfiekbiaaGreatDoorRws
import Derived.Test.YtbcpgfnfiekbiaaGreatDoorNTo
namespace Go.Proofs.YtbcpgfnfiekbiaaGreatDoor
open Go.RowKit
theorem OQ:zZ Tryz.prog 120=true:=by kernel_rfl
theorem sz180:(Tryz.prog.info? 180).map (·.size)=some 2:=by kernel_rfl
theorem Xw:(Tryz.prog.info? 5).map (·.size)=some 1:=by kernel_rfl
theorem ze180:(Tryz.prog.info? 180).map (·.zero)=some (some (.agg #[.int .u8 0,.int .u8 0])):=by kernel_rfl
set_option maxRecDepth 100000 in
set_option maxHeartbeats 8000000 in
theorem valid_any (s:ByteArray) (w:World) (hU:U8In w) (hsz:s.size < 9223372036854775807):Calls Tryz.prog 96 #[.string s] w fun e w'=>e= .returned (.bool (vq s 0))∧Bel w w':=by
 have hs0:sdr 0 s=s:=SQ (by rw [Vw,List.drop_zero]);refine enT Tryz.func96 Tryz.ntmps96 rfl rfl fun hB=>?_;refine zn7 ?_;refine zK (rg [0] 2 167) (fun m g w'=>∃ p:Nat,p≤s.size∧s.size - p≤m∧g 0= .string (sdr p s)∧vq s 0=vq s p∧Bel w w') (s.size) ?_ (fun m g1 w1 hI=>?_)
 ·exact⟨0,Nat.zero_le _,Nat.le_refl _,(by rw [hs0];rfl),rfl,hB⟩
 obtain⟨p,hp,hm,h0,hv,hB⟩:=hI;obtain⟨mo,rfl⟩:∃ x,x=m:=⟨_,rfl⟩
 refine zQ 0 _ h0 nu (zn8 ?_);refine zy rfl (fun c9=>?_) (fun c9=>?_)
 ·have hsp:=y5 p s;have hpl:p < s.size:=by omega
  have e0:=Qy p s 0;have e1:=Qy p s 1;have e2:=Qy p s 2;have e3:=Qy p s 3;rw [Nat.add_zero] at e0;have hb0:=u5 s p;refine zn6 ?_;refine wl (jk (i:=0) U9 rfl rfl om) (wl (Zw (v:= .int .u8 ((gb s p:Nat):Int)) (by exact congrArg (fun z:Nat=>Value.int .u8 ((z:Nat):Int)) e0)) (zn9 ?_));refine zy rfl (fun c13=>?_) (fun c13=>?_)
  ·have hv1:=vq_low hpl om;refine zn3 ?_;refine wl (X8 (l:=1) U9 rfl rfl om) (wl (Zw (v:= .string (sdr (p + 1) s)) (by exact congrArg Value.string (oY _ _ s))) (zn4 ?_));have hsp1:=y5 (p + 1) s;refine zn5 ?_;refine zx 19 rfl (fun g19=>?_) (fun g19=>?_)
   ·refine zn3 ?_;refine zJ OQ (ZV (sdr (p + 1) s) _ (by rw [y5];have:=y5 (p + 1) s;omega)) rfl (fun e' w2 hr=>?_);obtain⟨rfl,s1⟩:=hr;replace s1:=sB s1;refine⟨_,rfl,?_⟩;refine zn1 ?_;refine wl (Jw (b:=9259542123273814144) rfl rfl (kQ _ dE) dE) (zn5 ?_);refine zy rfl (fun c24=>?_) (fun c24=>?_)
    ·have hvA:=Nw (s:=s) (p:=p + 1) (k:=8) om (asc8 (by have h:=c24;exact Int.ofNat.inj h));refine zn3 ?_;refine wl (X8 (l:=8) U9 rfl rfl om) (wl (Zw (v:= .string (sdr (p + 9) s)) (by exact congrArg Value.string (oY _ _ s))) (zn3 ?_));replace hB:=hB.tr0 s1;by_cases q7:16 < s.size - (p + 9)
     ·refine kZ [] [0,1,2,3,4,6,7,5,8,9,10,11,12] rfl (fun w3 s2=>?_);refine zn2 ?_;refine hle rfl (fun _=>RZ rfl rfl) (congrArg Value.bool (decide_eq_true (by rw [y5];omega))) (zn3 ?_);refine hg 30 rfl rfl rfl (fun _ _=>X8 (l:=8) U9 rfl rfl (by rw [y5];omega)) (h1 rfl (zn1 ?_));refine zJ OQ (ZV (sdr (p + 9) s) w3 (by rw [y5];omega)) rfl (fun e' w4 hr=>?_);obtain⟨rfl,s3⟩:=hr;replace s3:=sB s3;have hsH5:=s3;refine⟨_,rfl,?_⟩;refine zw (J5 hsH5 (h1 rfl (zn1 ?_)));refine zJ OQ (ZV (sdr 8 (sdr (p + 9) s)) w4 (by rw [y5,y5];omega)) rfl (fun e' w5 hr=>?_);obtain⟨rfl,s4⟩:=hr;replace s4:=sB s4;have hsH8:=s4;refine⟨_,rfl,?_⟩;refine zw (J5 hsH8 (hg 30 rfl rfl rfl (fun _ _=>X6 rfl rfl (kQ _ dE) (kQ _ dE)) (hg 30 rfl rfl rfl (fun _ _=>Jw (b:=9259542123273814144) rfl rfl (Nat.or_lt_two_pow (n:=64) (kQ _ dE) (kQ _ dE)) dE) (zn4 ?_))));refine vw rfl (fun c39=>?_) (fun c39=>?_)
      ·have hvB:=Nw (s:=s) (p:=p + 9) (k:=16) om (asc16 (Int.ofNat.inj (of_decide_eq_true c39)));refine zn3 ?_;refine wl (X8 (l:=16) U9 rfl rfl (by rw [y5];omega)) (wl (Zw (v:= .string (sdr (p + 25) s)) (by exact congrArg Value.string (oY _ _ s))) (zn3 ?_));refine zK (rg [0] 42 23) (fun m g w'=>∃ p2:Nat,p + 25≤p2∧p2≤s.size∧m=s.size - p2∧g 0= .string (sdr p2 s)∧vq s p=vq s p2∧Bel w w') (s.size - (p + 25)) ?_ (fun m g9 w6 hI=>?_)
       ·exact⟨p + 25,Nat.le_refl _,by omega,rfl,rfl,((hv1.trans hvA).trans hvB),hB.u⟩
       obtain⟨p2,hp2,hp2s,hm2,h0b,hv2,hB⟩:=hI;refine zQ 0 _ h0b nu (xv (xv ?_));by_cases q9:32 < s.size - p2
       ·refine kZ [] [0,1,2,3,4,6,7,10,11,13,14,5,8,9,12,15,16,17,18,19,20] rfl (fun w7 s5=>?_);refine zn2 ?_;refine hle rfl (fun _=>RZ rfl rfl) (congrArg Value.bool (decide_eq_true (by rw [y5];omega))) (zn3 ?_);refine hg 45 rfl rfl rfl (fun _ _=>X8 (l:=8) U9 rfl rfl (by rw [y5];omega)) (zn1 ?_);refine hg 45 rfl rfl rfl (fun _ _=>X8 (l:=16) U9 rfl rfl (by rw [y5];omega)) (zn1 ?_);refine hg 45 rfl rfl rfl (fun _ _=>X8 (l:=24) U9 rfl rfl (by rw [y5];omega)) (h1 rfl (zn1 ?_));refine zJ OQ (ZV (sdr p2 s) w7 (by rw [y5];omega)) rfl (fun e' w8 hr=>?_);obtain⟨rfl,s6⟩:=hr;replace s6:=sB s6;have hsH5:=s6;refine⟨_,rfl,?_⟩;refine zw (J5 hsH5 (h1 rfl (zn1 ?_)));refine zJ OQ (ZV (sdr 8 (sdr p2 s)) w8 (by rw [y5,y5];omega)) rfl (fun e' w9 hr=>?_);obtain⟨rfl,s7⟩:=hr;replace s7:=sB s7;have hsH8:=s7;refine⟨_,rfl,?_⟩;refine zw (J5 hsH8 (hg 45 rfl rfl rfl (fun _ _=>X6 rfl rfl (kQ _ dE) (kQ _ dE)) (h1 rfl (zn1 ?_))));refine zJ OQ (ZV (sdr 16 (sdr p2 s)) w9 (by rw [y5,y5];omega)) rfl (fun e' w10 hr=>?_);obtain⟨rfl,s8⟩:=hr;replace s8:=sB s8;have hsH12:=s8;refine⟨_,rfl,?_⟩;refine zw (J5 hsH12 (h1 rfl (zn1 ?_)));refine zJ OQ (ZV (sdr 24 (sdr p2 s)) w10 (by rw [y5,y5];omega)) rfl (fun e' w11 hr=>?_);obtain⟨rfl,s9⟩:=hr;replace s9:=sB s9;have hsH15:=s9;refine⟨_,rfl,?_⟩;refine zw (J5 hsH15 (hg 45 rfl rfl rfl (fun _ _=>X6 rfl rfl (kQ _ dE) (kQ _ dE)) (hg 45 rfl rfl rfl (fun _ _=>X6 rfl rfl (Nat.or_lt_two_pow (n:=64) (kQ _ dE) (kQ _ dE)) (Nat.or_lt_two_pow (n:=64) (kQ _ dE) (kQ _ dE))) (hg 45 rfl rfl rfl (fun _ _=>Jw (b:=9259542123273814144) rfl rfl (Nat.or_lt_two_pow (n:=64) (Nat.or_lt_two_pow (n:=64) (kQ _ dE) (kQ _ dE)) (Nat.or_lt_two_pow (n:=64) (kQ _ dE) (kQ _ dE))) dE) (zn4 ?_)))));refine vw rfl (fun c62=>?_) (fun c62=>?_)
        ·have hvC:=Nw (s:=s) (p:=p2) (k:=32) om (asc32 (Int.ofNat.inj (of_decide_eq_true c62)));refine zn5 ?_;refine wl (X8 (l:=32) U9 rfl rfl (by rw [y5];omega)) (wl (Zw (v:= .string (sdr (p2 + 32) s)) (by exact congrArg Value.string (oY _ _ s))) (zw (e_B (qV (s.size - (p2 + 32)) om agA ?_))));exact⟨p2 + 32,by omega,by omega,rfl,rfl,hv2.trans hvC,hB.u⟩
        refine zn8 ?_;refine qV (mo - 1) om agA ?_;replace hB:=hB.tr0 (s5.trans (s6.trans (s7.trans (s8.trans s9))))
        first
          | exact⟨p + 1,by omega,by omega,rfl,hv.trans hv1,hB⟩
          | exact⟨p + 9,by omega,by omega,rfl,hv.trans (hv1.trans hvA),hB⟩
          | exact⟨p2,by omega,by omega,rfl,hv.trans hv2,hB⟩
          | exact⟨p + 2,by omega,by omega,rfl,hv.trans hvg,hB⟩
          | exact⟨p + 3,by omega,by omega,rfl,hv.trans hvg,hB⟩
          | exact⟨p + 4,by omega,by omega,rfl,hv.trans hvg,hB⟩
       refine kZ [] [0,1,2,3,4,6,7,10,11,13,14,5,8,9,12,15,16,17,18,19,20] rfl (fun w12 s10=>?_);refine zn2 ?_;refine hle rfl (fun _=>RZ rfl rfl) (congrArg Value.bool (decide_eq_false (by rw [y5];omega))) (zn29 ?_);refine qV (mo - 1) om agA ?_;replace hB:=hB.tr0 s10
       first
         | exact⟨p + 1,by omega,by omega,rfl,hv.trans hv1,hB⟩
         | exact⟨p + 9,by omega,by omega,rfl,hv.trans (hv1.trans hvA),hB⟩
         | exact⟨p2,by omega,by omega,rfl,hv.trans hv2,hB⟩
         | exact⟨p + 2,by omega,by omega,rfl,hv.trans hvg,hB⟩
         | exact⟨p + 3,by omega,by omega,rfl,hv.trans hvg,hB⟩
         | exact⟨p + 4,by omega,by omega,rfl,hv.trans hvg,hB⟩
      refine zn5 ?_;refine qV (mo - 1) om agA ?_;replace hB:=hB.tr0 (s2.trans (s3.trans s4))
      first
        | exact⟨p + 1,by omega,by omega,rfl,hv.trans hv1,hB⟩
        | exact⟨p + 9,by omega,by omega,rfl,hv.trans (hv1.trans hvA),hB⟩
        | exact⟨p2,by omega,by omega,rfl,hv.trans hv2,hB⟩
        | exact⟨p + 2,by omega,by omega,rfl,hv.trans hvg,hB⟩
        | exact⟨p + 3,by omega,by omega,rfl,hv.trans hvg,hB⟩
        | exact⟨p + 4,by omega,by omega,rfl,hv.trans hvg,hB⟩
     refine kZ [] [0,1,2,3,4,6,7,5,8,9,10,11,12] rfl (fun w13 s11=>?_);refine zn2 ?_;refine hle rfl (fun _=>RZ rfl rfl) (congrArg Value.bool (decide_eq_false (by rw [y5];omega))) (zn18 ?_);refine qV (mo - 1) om agA ?_;replace hB:=hB.tr0 s11
     first
       | exact⟨p + 1,by omega,by omega,rfl,hv.trans hv1,hB⟩
       | exact⟨p + 9,by omega,by omega,rfl,hv.trans (hv1.trans hvA),hB⟩
       | exact⟨p2,by omega,by omega,rfl,hv.trans hv2,hB⟩
       | exact⟨p + 2,by omega,by omega,rfl,hv.trans hvg,hB⟩
       | exact⟨p + 3,by omega,by omega,rfl,hv.trans hvg,hB⟩
       | exact⟨p + 4,by omega,by omega,rfl,hv.trans hvg,hB⟩
    refine zn5 ?_;refine qV (mo - 1) om agA ?_;replace hB:=hB.tr0 s1
    first
      | exact⟨p + 1,by omega,by omega,rfl,hv.trans hv1,hB⟩
      | exact⟨p + 9,by omega,by omega,rfl,hv.trans (hv1.trans hvA),hB⟩
      | exact⟨p2,by omega,by omega,rfl,hv.trans hv2,hB⟩
      | exact⟨p + 2,by omega,by omega,rfl,hv.trans hvg,hB⟩
      | exact⟨p + 3,by omega,by omega,rfl,hv.trans hvg,hB⟩
      | exact⟨p + 4,by omega,by omega,rfl,hv.trans hvg,hB⟩
   refine kJ ?_;refine qV (mo - 1) om agA ?_
   first
     | exact⟨p + 1,by omega,by omega,rfl,hv.trans hv1,hB⟩
     | exact⟨p + 9,by omega,by omega,rfl,hv.trans (hv1.trans hvA),hB⟩
     | exact⟨p2,by omega,by omega,rfl,hv.trans hv2,hB⟩
     | exact⟨p + 2,by omega,by omega,rfl,hv.trans hvg,hB⟩
     | exact⟨p + 3,by omega,by omega,rfl,hv.trans hvg,hB⟩
     | exact⟨p + 4,by omega,by omega,rfl,hv.trans hvg,hB⟩
  have hb128:128≤gb s p:=by omega
  refine zn3 ?_;have hU2:=hU.mono hB;have hft:=first_256 (gb s p);refine zn2 ?_;refine wl (Ry (i:=(gb s p)) Tryz.underlying178 Xw rfl rfl hb0 rfl) (wl (qZ (v:= .int _ _) U5 rfl rfl (hU2.1.2 _ hb0)) (zn6 ?_));refine wl (r_and7 rfl rfl hft) (wl (O6 U5 U3 rfl om) (zn6 ?_));refine wl (r_shr8 (b:=4) (c:=(Lib.firstT (gb s p)) / 16) rfl rfl dE rfl) (wl (Ry (i:=((Lib.firstT (gb s p)) / 16)) Tryz.underlying181 sz180 rfl rfl om rfl) (wl (zV Nj rfl rfl (hU2.2.2 _ om) sz180) ?_));refine xW (cs:=#[.int .u8 0,.int .u8 0]) ze180 rfl (fun _=>rfl) (fun _=>rfl) sz180 rfl zX (fun b6 w15 hb6 s12 hr=>?_);refine gV ?_;refine zy rfl (fun c76=>?_) (fun c76=>?_)
  ·obtain⟨hbad,hgood⟩:=ok_n (n:=2) hpl (.inl rfl) om;refine xv (xv ?_);refine y7 (rg [] 78 17) (fun g w'=>(g 94= .bool (decide (yV s p 2)))∧Same [] w15 w') ?_ (fun g17 w16 hI=>?_)
   ·have hZ:SameQ [] w15 w15:=Same.refl _ _;refine gQ kR kR (fun w17 s13=>?_);replace hZ:=SameQ.trans hZ s13 (by simp);refine zn4 ?_;refine jW 81 rfl (fun g81=>?_) (fun g81=>?_)
    ·refine kJ ?_;refine u4 ?_;refine e_R ⟨agA,?_⟩;refine⟨?_,hZ⟩
     first | exact congrArg Value.bool (decide_eq_true (by unfold yV;omega)).symm | exact congrArg Value.bool (decide_eq_false (by unfold yV;omega)).symm | exact congrArg Value.bool (decide_eq_decide.2 (by unfold yV;omega))
    refine vZ 81 rfl rfl (xZ (v:= .string _) rfl) (vZ 81 rfl rfl (jk (i:=1) U9 rfl rfl om) (vZ 81 rfl rfl (uk Nj Xw dE rfl rfl rfl) (vZ 81 rfl rfl (qZ (v:= .int _ _) U5 rfl rfl (hb6.u.cell rfl)) (vZ 81 rfl rfl (X7 rfl rfl) (zn2 ?_)))));refine jW 88 rfl (fun g88=>?_) (fun g88=>?_)
    ·refine zn6 ?_;refine u4 ?_;refine e_R ⟨agA,?_⟩;refine⟨?_,hZ⟩
     first | exact congrArg Value.bool (decide_eq_true (by unfold yV;omega)).symm | exact congrArg Value.bool (decide_eq_false (by unfold yV;omega)).symm | exact congrArg Value.bool (decide_eq_decide.2 (by unfold yV;omega))
    refine vZ 88 rfl rfl (uk Nj Xw dE rfl rfl rfl) (vZ 88 rfl rfl (qZ (v:= .int _ _) U5 rfl rfl (hb6.u.cell rfl)) (vZ 88 rfl rfl (xZ (v:= .string _) rfl) (vZ 88 rfl rfl (jk (i:=1) U9 rfl rfl om) (vZ 88 rfl rfl (X7 rfl rfl) (zn1 ?_)))));refine u4 ?_;refine e_R ⟨agA,?_⟩;refine⟨?_,hZ⟩
    first | exact congrArg Value.bool (decide_eq_true (by unfold yV;omega)).symm | exact congrArg Value.bool (decide_eq_false (by unfold yV;omega)).symm | exact congrArg Value.bool (decide_eq_decide.2 (by unfold yV;omega))
   obtain⟨h94,s14⟩:=hI;refine ky 94 _ h94 nu (e_S ?_);refine zy rfl (fun c94=>?_) (fun c94=>?_)
   ·have hvn:=T5 hpl (hbad c94);refine kJ ?_;replace hB:=hB.tr0 (s12.trans s14);exact⟨by rw [hv,hvn];rfl,hB⟩
   have hnb:2≤s.size - p:=by unfold yV at c94;omega
   obtain⟨hok,hwd⟩:=hgood c94;have hvg:=T6 hpl hok;rw [hwd] at hvg;refine zn4 ?_;refine wl (X8 (l:=2) U9 rfl rfl (by unfold yV at c94;omega)) (wl (Zw (v:= .string (sdr (p + 2) s)) (by exact congrArg Value.string (oY _ _ s))) (zn3 ?_));refine qV (mo - 1) om agA ?_;replace hB:=hB.tr0 (s12.trans s14)
   first
     | exact⟨p + 1,by omega,by omega,rfl,hv.trans hv1,hB⟩
     | exact⟨p + 9,by omega,by omega,rfl,hv.trans (hv1.trans hvA),hB⟩
     | exact⟨p2,by omega,by omega,rfl,hv.trans hv2,hB⟩
     | exact⟨p + 2,by omega,by omega,rfl,hv.trans hvg,hB⟩
     | exact⟨p + 3,by omega,by omega,rfl,hv.trans hvg,hB⟩
     | exact⟨p + 4,by omega,by omega,rfl,hv.trans hvg,hB⟩
  refine zn6 ?_;refine zy rfl (fun c97=>?_) (fun c97=>?_)
  ·obtain⟨hbad,hgood⟩:=ok_n (n:=3) hpl (.inr (.inl rfl)) om;refine xv (xv ?_);refine y7 (rg [] 99 27) (fun g w'=>(g 125= .bool (decide (yV s p 3)))∧Same [] w15 w') ?_ (fun g21 w18 hI=>?_)
   ·have hZ:SameQ [] w15 w15:=Same.refl _ _;refine gQ kR kR (fun w19 s15=>?_);replace hZ:=SameQ.trans hZ s15 (by simp);refine zn4 ?_;refine jW 102 rfl (fun g102=>?_) (fun g102=>?_)
    ·refine zn23 ?_;refine u4 ?_;refine e_R ⟨agA,?_⟩;refine⟨?_,hZ⟩
     first | exact congrArg Value.bool (decide_eq_true (by unfold yV;omega)).symm | exact congrArg Value.bool (decide_eq_false (by unfold yV;omega)).symm | exact congrArg Value.bool (decide_eq_decide.2 (by unfold yV;omega))
    refine vZ 102 rfl rfl (xZ (v:= .string _) rfl) (vZ 102 rfl rfl (jk (i:=1) U9 rfl rfl om) (vZ 102 rfl rfl (uk Nj Xw dE rfl rfl rfl) (vZ 102 rfl rfl (qZ (v:= .int _ _) U5 rfl rfl (hb6.u.cell rfl)) (vZ 102 rfl rfl (X7 rfl rfl) (zn2 ?_)))));refine jW 109 rfl (fun g109=>?_) (fun g109=>?_)
    ·refine IK ?_;refine u4 ?_;refine e_R ⟨agA,?_⟩;refine⟨?_,hZ⟩
     first | exact congrArg Value.bool (decide_eq_true (by unfold yV;omega)).symm | exact congrArg Value.bool (decide_eq_false (by unfold yV;omega)).symm | exact congrArg Value.bool (decide_eq_decide.2 (by unfold yV;omega))
    refine vZ 109 rfl rfl (uk Nj Xw dE rfl rfl rfl) (vZ 109 rfl rfl (qZ (v:= .int _ _) U5 rfl rfl (hb6.u.cell rfl)) (vZ 109 rfl rfl (xZ (v:= .string _) rfl) (vZ 109 rfl rfl (jk (i:=1) U9 rfl rfl om) (vZ 109 rfl rfl (X7 rfl rfl) (zn2 ?_)))));refine jW 116 rfl (fun g116=>?_) (fun g116=>?_)
    ·refine zn9 ?_;refine u4 ?_;refine e_R ⟨agA,?_⟩;refine⟨?_,hZ⟩
     first | exact congrArg Value.bool (decide_eq_true (by unfold yV;omega)).symm | exact congrArg Value.bool (decide_eq_false (by unfold yV;omega)).symm | exact congrArg Value.bool (decide_eq_decide.2 (by unfold yV;omega))
    refine vZ 116 rfl rfl (xZ (v:= .string _) rfl) (vZ 116 rfl rfl (jk (i:=2) U9 rfl rfl om) (vZ 116 rfl rfl (X7 rfl rfl) (zn2 ?_)));refine jW 121 rfl (fun g121=>?_) (fun g121=>?_)
    ·refine zn4 ?_;refine u4 ?_;refine e_R ⟨agA,?_⟩;refine⟨?_,hZ⟩
     first | exact congrArg Value.bool (decide_eq_true (by unfold yV;omega)).symm | exact congrArg Value.bool (decide_eq_false (by unfold yV;omega)).symm | exact congrArg Value.bool (decide_eq_decide.2 (by unfold yV;omega))
    refine vZ 121 rfl rfl (xZ (v:= .string _) rfl) (vZ 121 rfl rfl (jk (i:=2) U9 rfl rfl om) (vZ 121 rfl rfl (X7 rfl rfl) (zn1 ?_)));refine u4 ?_;refine e_R ⟨agA,?_⟩;refine⟨?_,hZ⟩
    first | exact congrArg Value.bool (decide_eq_true (by unfold yV;omega)).symm | exact congrArg Value.bool (decide_eq_false (by unfold yV;omega)).symm | exact congrArg Value.bool (decide_eq_decide.2 (by unfold yV;omega))
   obtain⟨h125,s16⟩:=hI;refine ky 125 _ h125 nu (e_S ?_);refine zy rfl (fun c125=>?_) (fun c125=>?_)
   ·have hvn:=T5 hpl (hbad c125);refine kJ ?_;replace hB:=hB.tr0 (s12.trans s16);exact⟨by rw [hv,hvn];rfl,hB⟩
   have hnb:3≤s.size - p:=by unfold yV at c125;omega
   obtain⟨hok,hwd⟩:=hgood c125;have hvg:=T6 hpl hok;rw [hwd] at hvg;refine zn4 ?_;refine wl (X8 (l:=3) U9 rfl rfl (by unfold yV at c125;omega)) (wl (Zw (v:= .string (sdr (p + 3) s)) (by exact congrArg Value.string (oY _ _ s))) (zn3 ?_));refine qV (mo - 1) om agA ?_;replace hB:=hB.tr0 (s12.trans s16)
   first
     | exact⟨p + 1,by omega,by omega,rfl,hv.trans hv1,hB⟩
     | exact⟨p + 9,by omega,by omega,rfl,hv.trans (hv1.trans hvA),hB⟩
     | exact⟨p2,by omega,by omega,rfl,hv.trans hv2,hB⟩
     | exact⟨p + 2,by omega,by omega,rfl,hv.trans hvg,hB⟩
     | exact⟨p + 3,by omega,by omega,rfl,hv.trans hvg,hB⟩
     | exact⟨p + 4,by omega,by omega,rfl,hv.trans hvg,hB⟩
  refine zn6 ?_;refine zy rfl (fun c128=>?_) (fun c128=>?_)
  ·obtain⟨hbad,hgood⟩:=ok_n (n:=4) hpl (.inr (.inr rfl)) om;refine xv (xv ?_);refine y7 (rg [] 130 37) (fun g w'=>(g 166= .bool (decide (yV s p 4)))∧Same [] w15 w') ?_ (fun g25 w20 hI=>?_)
   ·have hZ:SameQ [] w15 w15:=Same.refl _ _;refine gQ kR kR (fun w21 s17=>?_);replace hZ:=SameQ.trans hZ s17 (by simp);refine zn4 ?_;refine jW 133 rfl (fun g133=>?_) (fun g133=>?_)
    ·refine zn30 ?_;refine zn3 ?_;refine u4 ?_;refine e_R ⟨agA,?_⟩;refine⟨?_,hZ⟩
     first | exact congrArg Value.bool (decide_eq_true (by unfold yV;omega)).symm | exact congrArg Value.bool (decide_eq_false (by unfold yV;omega)).symm | exact congrArg Value.bool (decide_eq_decide.2 (by unfold yV;omega))
    refine vZ 133 rfl rfl (xZ (v:= .string _) rfl) (vZ 133 rfl rfl (jk (i:=1) U9 rfl rfl om) (vZ 133 rfl rfl (uk Nj Xw dE rfl rfl rfl) (vZ 133 rfl rfl (qZ (v:= .int _ _) U5 rfl rfl (hb6.u.cell rfl)) (vZ 133 rfl rfl (X7 rfl rfl) (zn2 ?_)))));refine jW 140 rfl (fun g140=>?_) (fun g140=>?_)
    ·refine zn26 ?_;refine u4 ?_;refine e_R ⟨agA,?_⟩;refine⟨?_,hZ⟩
     first | exact congrArg Value.bool (decide_eq_true (by unfold yV;omega)).symm | exact congrArg Value.bool (decide_eq_false (by unfold yV;omega)).symm | exact congrArg Value.bool (decide_eq_decide.2 (by unfold yV;omega))
    refine vZ 140 rfl rfl (uk Nj Xw dE rfl rfl rfl) (vZ 140 rfl rfl (qZ (v:= .int _ _) U5 rfl rfl (hb6.u.cell rfl)) (vZ 140 rfl rfl (xZ (v:= .string _) rfl) (vZ 140 rfl rfl (jk (i:=1) U9 rfl rfl om) (vZ 140 rfl rfl (X7 rfl rfl) (zn2 ?_)))));refine jW 147 rfl (fun g147=>?_) (fun g147=>?_)
    ·refine zn19 ?_;refine u4 ?_;refine e_R ⟨agA,?_⟩;refine⟨?_,hZ⟩
     first | exact congrArg Value.bool (decide_eq_true (by unfold yV;omega)).symm | exact congrArg Value.bool (decide_eq_false (by unfold yV;omega)).symm | exact congrArg Value.bool (decide_eq_decide.2 (by unfold yV;omega))
    refine vZ 147 rfl rfl (xZ (v:= .string _) rfl) (vZ 147 rfl rfl (jk (i:=2) U9 rfl rfl om) (vZ 147 rfl rfl (X7 rfl rfl) (zn2 ?_)));refine jW 152 rfl (fun g152=>?_) (fun g152=>?_)
    ·refine gV ?_;refine u4 ?_;refine e_R ⟨agA,?_⟩;refine⟨?_,hZ⟩
     first | exact congrArg Value.bool (decide_eq_true (by unfold yV;omega)).symm | exact congrArg Value.bool (decide_eq_false (by unfold yV;omega)).symm | exact congrArg Value.bool (decide_eq_decide.2 (by unfold yV;omega))
    refine vZ 152 rfl rfl (xZ (v:= .string _) rfl) (vZ 152 rfl rfl (jk (i:=2) U9 rfl rfl om) (vZ 152 rfl rfl (X7 rfl rfl) (zn2 ?_)));refine jW 157 rfl (fun g157=>?_) (fun g157=>?_)
    ·refine zn9 ?_;refine u4 ?_;refine e_R ⟨agA,?_⟩;refine⟨?_,hZ⟩
     first | exact congrArg Value.bool (decide_eq_true (by unfold yV;omega)).symm | exact congrArg Value.bool (decide_eq_false (by unfold yV;omega)).symm | exact congrArg Value.bool (decide_eq_decide.2 (by unfold yV;omega))
    refine vZ 157 rfl rfl (xZ (v:= .string _) rfl) (vZ 157 rfl rfl (jk (i:=3) U9 rfl rfl om) (vZ 157 rfl rfl (X7 rfl rfl) (zn2 ?_)));refine jW 162 rfl (fun g162=>?_) (fun g162=>?_)
    ·refine zn4 ?_;refine u4 ?_;refine e_R ⟨agA,?_⟩;refine⟨?_,hZ⟩
     first | exact congrArg Value.bool (decide_eq_true (by unfold yV;omega)).symm | exact congrArg Value.bool (decide_eq_false (by unfold yV;omega)).symm | exact congrArg Value.bool (decide_eq_decide.2 (by unfold yV;omega))
    refine vZ 162 rfl rfl (xZ (v:= .string _) rfl) (vZ 162 rfl rfl (jk (i:=3) U9 rfl rfl om) (vZ 162 rfl rfl (X7 rfl rfl) (zn1 ?_)));refine u4 ?_;refine e_R ⟨agA,?_⟩;refine⟨?_,hZ⟩
    first | exact congrArg Value.bool (decide_eq_true (by unfold yV;omega)).symm | exact congrArg Value.bool (decide_eq_false (by unfold yV;omega)).symm | exact congrArg Value.bool (decide_eq_decide.2 (by unfold yV;omega))
   obtain⟨h166,s18⟩:=hI;refine ky 166 _ h166 nu (e_S ?_);refine zy rfl (fun c166=>?_) (fun c166=>?_)
   ·have hvn:=T5 hpl (hbad c166);refine kJ ?_;replace hB:=hB.tr0 (s12.trans s18);exact⟨by rw [hv,hvn];rfl,hB⟩
   have hnb:4≤s.size - p:=by unfold yV at c166;omega
   obtain⟨hok,hwd⟩:=hgood c166;have hvg:=T6 hpl hok;rw [hwd] at hvg;refine zn4 ?_;refine wl (X8 (l:=4) U9 rfl rfl (by unfold yV at c166;omega)) (wl (Zw (v:= .string (sdr (p + 4) s)) (by exact congrArg Value.string (oY _ _ s))) (zn3 ?_));refine qV (mo - 1) om agA ?_;replace hB:=hB.tr0 (s12.trans s18)
   first
     | exact⟨p + 1,by omega,by omega,rfl,hv.trans hv1,hB⟩
     | exact⟨p + 9,by omega,by omega,rfl,hv.trans (hv1.trans hvA),hB⟩
     | exact⟨p2,by omega,by omega,rfl,hv.trans hv2,hB⟩
     | exact⟨p + 2,by omega,by omega,rfl,hv.trans hvg,hB⟩
     | exact⟨p + 3,by omega,by omega,rfl,hv.trans hvg,hB⟩
     | exact⟨p + 4,by omega,by omega,rfl,hv.trans hvg,hB⟩
  have hvn:=T5 hpl (ok_bad hb128 om om om);refine y8 ?_;replace hB:=hB.tr0 s12;exact⟨by rw [hv,hvn];rfl,hB⟩
 have hsp:=y5 p s;refine y8 ?_;exact⟨by rw [hv,vq_end om];rfl,hB⟩
end Go.Proofs.YtbcpgfnfiekbiaaGreatDoor
namespace Go.Proofs.YtbcpgfnfiekbiaaGreatDoor
open Go.RowKit
theorem wrap8 {a:Nat} (h:a < 256):IntKind.u8.wrap (a:Int)=a:=by
  have:∀ a:Nat,a < 256→IntKind.u8.wrap (a:Int)=a:=by decide +kernel
  exact this a h
theorem fn137:zZ Tryz.prog 137=true:=by kernel_rfl
theorem fn138:zZ Tryz.prog 138=true:=by kernel_rfl
theorem fn146:zZ Tryz.prog 146=true:=by kernel_rfl
theorem ixl_any (s:ByteArray) (c:Int) (w:World):Calls Tryz.prog 146 #[.string s,.int .u8 c] w fun e w'=>e= .returned (.int .i64 (Lib.indexByte (bl s) c.toNat.toUInt8))∧w=w':=by
 refine enter Tryz.func146 Tryz.ntmps146 rfl (Nat.le_of_ble_eq_true rfl) (zn9 ?_);refine wl (r_ext (args:=[.string s,.int .u8 c]) (run_ixb (P:=Tryz.prog) Tryz.func148 kR kR kR kR) rfl) (zn5 ?_);exact⟨rfl,rfl⟩
theorem Fx (s:ByteArray) (c:Int) (w:World):Calls Tryz.prog 137 #[.string s,.int .u8 c] w fun e w'=>e= .returned (.int .i64 (Lib.indexByte (bl s) c.toNat.toUInt8))∧w=w':=by
 refine enter Tryz.func137 Tryz.ntmps137 rfl (Nat.le_of_ble_eq_true rfl) (zn9 ?_);refine zJ fn146 (ixl_any s c _) rfl (fun e' w1 hr=>?_);obtain⟨rfl,rfl⟩:=hr;refine⟨_,rfl,?_⟩;refine zn5 ?_;exact⟨rfl,rfl⟩
theorem vrune_any (r:Int) (w:World):Calls Tryz.prog 138 #[.int .i32 r] w fun e w'=>(∃ b,e= .returned (.bool b))∧w=w':=by
 refine enter Tryz.func138 Tryz.ntmps138 rfl (Nat.le_of_ble_eq_true rfl) (zn8 ?_);refine x6 [3,4,5,6,7,8,9] 3 (.bool (decide (0≤r∧r < 55296))) nu ?_ (fun gq=>?_)
 ·refine zn4 ?_;refine zx 6 rfl (fun g6=>?_) (fun g6=>?_)
  ·refine zn6 ?_;refine zw (e_R ⟨rfl,agA,?_⟩);exact clA
  refine zn4 ?_;refine zw (e_R ⟨rfl,agA,?_⟩);exact clA
 refine e_S ?_;refine zy rfl (fun c3=>?_) (fun c3=>?_)
 ·refine zn9 ?_;exact⟨⟨true,rfl⟩,rfl⟩
 refine xv ?_;refine x6 [10,11,12,13,14,15,16] 10 (.bool (decide (57343 < r∧r≤1114111))) nu ?_ (fun gq=>?_)
 ·refine zn4 ?_;refine zx 13 rfl (fun g13=>?_) (fun g13=>?_)
  ·refine zn6 ?_;refine zw (e_R ⟨rfl,agA,?_⟩);exact clA
  refine zn4 ?_;refine zw (e_R ⟨rfl,agA,?_⟩);exact clA
 refine e_S ?_;refine zy rfl (fun c10=>?_) (fun c10=>?_)
 ·refine zn9 ?_;exact⟨⟨true,rfl⟩,rfl⟩
 refine yw ?_;exact⟨⟨false,rfl⟩,rfl⟩
theorem sua_any (n:Nat) (w:World):Calls Tryz.prog 129 #[.int .i64 ((n:Nat):Int)] w fun e w'=>e= .returned (.bool (decide (8 < n)))∧w=w':=by
 refine enter Tryz.func129 Tryz.ntmps129 rfl (Nat.le_of_ble_eq_true rfl) (gV ?_);exact⟨congrArg (fun z=>Ending.returned (.bool z)) (decide_eq_decide.2 (by constructor <;> (intro h;omega))),rfl⟩
set_option maxRecDepth 100000 in
set_option maxHeartbeats 4000000 in
theorem ixr_any (r:Nat) (w:World):Calls Tryz.prog 128 #[.string CH,.int .i32 ((r:Nat):Int)] w fun e w'=>(∃ z:Int,e= .returned (.int .i64 z)∧(0≤z ↔ spc r=true))∧Bel w w':=by
 have hcs:CH.size=9:=rfl;refine enT Tryz.func128 Tryz.ntmps128 rfl rfl fun hB=>?_;refine zn7 ?_;refine x6 [160,161,162,163,164,165,166] 160 (.bool (decide (0≤(r:Int)∧(r:Int) < 128))) nu ?_ (fun gq=>?_)
 ·refine zn4 ?_;refine zx 163 rfl (fun g163=>?_) (fun g163=>?_)
  ·refine zn6 ?_;refine zw (e_R ⟨rfl,agA,?_⟩);exact clA
  refine zn4 ?_;refine zw (e_R ⟨rfl,agA,?_⟩);exact clA
 refine e_S ?_;refine zy rfl (fun c160=>?_) (fun c160=>?_)
 ·refine zn4 ?_;refine wl (I4 Tryz.underlying21 U5 rfl (wrap8 om)) ?_;refine zJ fn137 (Fx CH _ _) rfl (fun e' w1 hr=>?_);obtain⟨rfl,rfl⟩:=hr;refine⟨_,rfl,?_⟩;refine zn6 ?_;have h:=ch_ix r om;exact⟨⟨_,rfl,by rw [← h,decide_eq_true_iff];rfl⟩,hB⟩
 have hs0:spc r=false:=by cases h:spc r with | false=>rfl | true=>have:=CQ h;omega
 have hr128:128≤r:=by omega
 refine zn7 ?_;refine zy rfl (fun c171=>?_) (fun c171=>?_)
 ·refine zn4 ?_;refine Gz U9 rfl (fun b175 w2 hb175 s1 hr=>?_);have lo175:=nLT (Bel.size hB) hr;refine zn3 ?_;refine zK (rg [4,5,6] 176 7) (fun m g w'=>∃ p:Nat,p≤9∧m=9 - p∧Bel w w'∧ItIn w' b175 CH p) (9) ?_ (fun m g38 w3 hI=>?_)
  ·exact⟨0,by omega,rfl,hB.u,hb175⟩
  obtain⟨p,hp,hm,hB,hb175⟩:=hI;refine zn2 ?_;rcases Nat.lt_or_ge (p) (CH).size with hnlt | hnge
  ·refine Gq hb175 rfl hnlt (fun w4 hq s2=>?_);replace hb175:=hq;have hwl:=K4 (ch_lt p om);have hlt:=ch_lt p om;refine wl (jw (v:= .bool true) rfl rfl) (zn9 ?_);refine wl (jw (v:= .int _ _) rfl rfl) (wl (jw (v:= .int _ _) rfl rfl) (yw ?_));refine zy rfl (fun c181=>?_) (fun c181=>?_)
   ·exact absurd c181 (by rw [hwl.2];omega)
   refine Y5 (e_B (qV (9 - (p + 1)) om agA ?_));replace hB:=hB.tr1 s2 lo175;exact⟨p + 1,by omega,rfl,hB,by have h:=hb175;rw [show (Utf8.decode CH p).2=1 from hwl.1] at h;exact h⟩
  refine wl (r_ne hb175 rfl (Nat.not_lt.2 hnge)) (wl (jw (v:= .bool false) rfl rfl) (N9 ?_));exact⟨⟨-1,rfl,⟨fun h=>by omega,fun h=>by rw [hs0] at h;cases h⟩⟩,hB⟩
 refine zn3 ?_;refine zJ fn138 (vrune_any _ _) rfl (fun e' w5 hr=>?_);obtain⟨⟨bv,rfl⟩,rfl⟩:=hr;refine⟨_,rfl,?_⟩;refine zn4 ?_;refine vw rfl (fun c183=>?_) (fun c183=>?_)
 ·refine zn8 ?_;exact⟨⟨-1,rfl,⟨fun h=>by omega,fun h=>by rw [hs0] at h;cases h⟩⟩,hB⟩
 refine c_scope (zn3 ?_);refine wl (r_rstr Tryz.underlying21 U9 rfl) (zn4 ?_);obtain⟨hE2,hE4,hEh⟩:=enc_hi hr128;refine zn3 ?_;refine wl (kW (c:=(((Utf8.encode (r:Int)).size - 1:Nat):Int)) rfl rfl om om) (IK ?_);refine zK (rg [4,9,10,11,12] 23 76) (fun m g w'=>m=0∧g 9= .int .i64 (((Utf8.encode (r:Int)).size - 1:Nat):Int)∧Bel w w') (0) ?_ (fun m g5 w6 hI=>?_)
 ·exact⟨rfl,rfl,hB⟩
 obtain⟨hm,h9,hB⟩:=hI;refine zQ 9 _ h9 nu (zn9 ?_);refine zy rfl (fun c26=>?_) (fun c26=>?_)
 ·obtain⟨ii,hii⟩:∃ x,x=(Utf8.encode (r:Int)).size - 1:=⟨_,rfl⟩
  have hi9:ii < 9:=by omega
  have hclo:=ch_lt ii hi9;have hchi:=hEh ((Utf8.encode (r:Int)).size - 1) om;have hnone:Lib.indexByte (bl (sdr (ii + 1) CH)) (((gb (Utf8.encode (r:Int)) ((Utf8.encode (r:Int)).size - 1):Nat):Int)).toNat.toUInt8 < 0:=by
    refine ixb_none (fun hm=>?_);rw [Vw] at hm;have h1:=List.mem_of_mem_drop hm;have h2:∀ x ∈ bl CH,x.toNat < 128:=by decide
    have h3:=h2 _ h1;have h4:=u5 (Utf8.encode (r:Int)) ((Utf8.encode (r:Int)).size - 1);rw [Int.toNat_natCast,show ((gb (Utf8.encode (r:Int)) ((Utf8.encode (r:Int)).size - 1))).toUInt8.toNat=gb (Utf8.encode (r:Int)) ((Utf8.encode (r:Int)).size - 1) from Nat.mod_eq_of_lt h4] at h3;omega
  rw [← hii] at hnone hchi;refine zn3 ?_;refine c_scope (xv (xv ?_));refine gQ kR kR (fun w7 s3=>?_);refine zn2 ?_;refine ws (jk (i:=((Utf8.encode (r:Int)).size - 1)) U9 rfl rfl om) (zn2 ?_);refine ws (jk (i:=((Utf8.encode (r:Int)).size - 1)) U9 rfl rfl om) (zn1 ?_);refine u4 (e_S ?_);refine zy rfl (fun c33=>?_) (fun c33=>?_)
  ·refine xv ?_;refine gQ kR kR (fun w8 s4=>?_);refine zn2 ?_;refine ws (I6 (c:=((ii + 1:Nat):Int)) rfl rfl (by rw [← hii];rfl) om) (ws (X8 (l:=(ii + 1)) U9 rfl rfl om) (zn2 ?_));refine ws (jk (i:=((Utf8.encode (r:Int)).size - 1)) U9 rfl rfl om) (ws_cl fn137 (Fx (sdr (ii + 1) CH) _ _) rfl (zn1 ?_));refine u4 (zn8 ?_);refine zy rfl (fun c43=>?_) (fun c43=>?_)
   ·refine zn8 ?_;refine e_Nr (zn4 ?_);refine e_Nr (zn2 ?_);replace hB:=hB.tr0 (s3.trans s4);exact⟨⟨-1,rfl,⟨fun h=>by omega,fun h=>by rw [hs0] at h;cases h⟩⟩,hB⟩
   exact absurd (by rw [← hii];exact hnone) c43
  exact absurd (fun h=>by rw [← hii] at h;omega) c33
 refine kJ ?_;refine e_Nr (zn2 ?_);exact⟨⟨-1,rfl,⟨fun h=>by omega,fun h=>by rw [hs0] at h;cases h⟩⟩,hB⟩
end Go.Proofs.YtbcpgfnfiekbiaaGreatDoor
namespace Go.Proofs.YtbcpgfnfiekbiaaGreatDoor
open Go.RowKit
theorem fn121:zZ Tryz.prog 121=true:=by kernel_rfl
theorem fn128:zZ Tryz.prog 128=true:=by kernel_rfl
theorem fn129:zZ Tryz.prog 129=true:=by kernel_rfl
theorem fn130:zZ Tryz.prog 130=true:=by kernel_rfl
theorem fn131:zZ Tryz.prog 131=true:=by kernel_rfl
theorem sz193:(Tryz.prog.info? 193).map (·.size)=some 256:=by kernel_rfl
theorem ze193:(Tryz.prog.info? 193).map (·.zero)=some (some (.agg #[.bool false,.bool false,.bool false,.bool false,.bool false,.bool false,.bool false,.bool false,.bool false,.bool false,.bool false,.bool false,.bool false,.bool false,.bool false,.bool false,.bool false,.bool false,.bool false,.bool false,.bool false,.bool false,.bool false,.bool false,.bool false,.bool false,.bool false,.bool false,.bool false,.bool false,.bool false,.bool false,.bool false,.bool false,.bool false,.bool false,.bool false,.bool false,.bool false,.bool false,.bool false,.bool false,.bool false,.bool false,.bool false,.bool false,.bool false,.bool false,.bool false,.bool false,.bool false,.bool false,.bool false,.bool false,.bool false,.bool false,.bool false,.bool false,.bool false,.bool false,.bool false,.bool false,.bool false,.bool false,.bool false,.bool false,.bool false,.bool false,.bool false,.bool false,.bool false,.bool false,.bool false,.bool false,.bool false,.bool false,.bool false,.bool false,.bool false,.bool false,.bool false,.bool false,.bool false,.bool false,.bool false,.bool false,.bool false,.bool false,.bool false,.bool false,.bool false,.bool false,.bool false,.bool false,.bool false,.bool false,.bool false,.bool false,.bool false,.bool false,.bool false,.bool false,.bool false,.bool false,.bool false,.bool false,.bool false,.bool false,.bool false,.bool false,.bool false,.bool false,.bool false,.bool false,.bool false,.bool false,.bool false,.bool false,.bool false,.bool false,.bool false,.bool false,.bool false,.bool false,.bool false,.bool false,.bool false,.bool false,.bool false,.bool false,.bool false,.bool false,.bool false,.bool false,.bool false,.bool false,.bool false,.bool false,.bool false,.bool false,.bool false,.bool false,.bool false,.bool false,.bool false,.bool false,.bool false,.bool false,.bool false,.bool false,.bool false,.bool false,.bool false,.bool false,.bool false,.bool false,.bool false,.bool false,.bool false,.bool false,.bool false,.bool false,.bool false,.bool false,.bool false,.bool false,.bool false,.bool false,.bool false,.bool false,.bool false,.bool false,.bool false,.bool false,.bool false,.bool false,.bool false,.bool false,.bool false,.bool false,.bool false,.bool false,.bool false,.bool false,.bool false,.bool false,.bool false,.bool false,.bool false,.bool false,.bool false,.bool false,.bool false,.bool false,.bool false,.bool false,.bool false,.bool false,.bool false,.bool false,.bool false,.bool false,.bool false,.bool false,.bool false,.bool false,.bool false,.bool false,.bool false,.bool false,.bool false,.bool false,.bool false,.bool false,.bool false,.bool false,.bool false,.bool false,.bool false,.bool false,.bool false,.bool false,.bool false,.bool false,.bool false,.bool false,.bool false,.bool false,.bool false,.bool false,.bool false,.bool false,.bool false,.bool false,.bool false,.bool false,.bool false,.bool false,.bool false,.bool false,.bool false,.bool false,.bool false,.bool false,.bool false,.bool false,.bool false,.bool false,.bool false,.bool false,.bool false,.bool false,.bool false,.bool false,.bool false,.bool false])):=by kernel_rfl
set_option maxRecDepth 100000 in
set_option maxHeartbeats 2000000 in
theorem mas_any (w:World):Calls Tryz.prog 130 #[.string CH] w fun e w'=>e= .returned (.tuple #[.agg (row 256 (fun x=> .bool (spc x))),.bool true])∧Bel w w':=by
 have hcs:CH.size=9:=rfl;refine enT Tryz.func130 Tryz.ntmps130 rfl rfl fun hB=>?_;refine zn2 ?_;refine zY (cs:=#[.bool false,.bool false,.bool false,.bool false,.bool false,.bool false,.bool false,.bool false,.bool false,.bool false,.bool false,.bool false,.bool false,.bool false,.bool false,.bool false,.bool false,.bool false,.bool false,.bool false,.bool false,.bool false,.bool false,.bool false,.bool false,.bool false,.bool false,.bool false,.bool false,.bool false,.bool false,.bool false,.bool false,.bool false,.bool false,.bool false,.bool false,.bool false,.bool false,.bool false,.bool false,.bool false,.bool false,.bool false,.bool false,.bool false,.bool false,.bool false,.bool false,.bool false,.bool false,.bool false,.bool false,.bool false,.bool false,.bool false,.bool false,.bool false,.bool false,.bool false,.bool false,.bool false,.bool false,.bool false,.bool false,.bool false,.bool false,.bool false,.bool false,.bool false,.bool false,.bool false,.bool false,.bool false,.bool false,.bool false,.bool false,.bool false,.bool false,.bool false,.bool false,.bool false,.bool false,.bool false,.bool false,.bool false,.bool false,.bool false,.bool false,.bool false,.bool false,.bool false,.bool false,.bool false,.bool false,.bool false,.bool false,.bool false,.bool false,.bool false,.bool false,.bool false,.bool false,.bool false,.bool false,.bool false,.bool false,.bool false,.bool false,.bool false,.bool false,.bool false,.bool false,.bool false,.bool false,.bool false,.bool false,.bool false,.bool false,.bool false,.bool false,.bool false,.bool false,.bool false,.bool false,.bool false,.bool false,.bool false,.bool false,.bool false,.bool false,.bool false,.bool false,.bool false,.bool false,.bool false,.bool false,.bool false,.bool false,.bool false,.bool false,.bool false,.bool false,.bool false,.bool false,.bool false,.bool false,.bool false,.bool false,.bool false,.bool false,.bool false,.bool false,.bool false,.bool false,.bool false,.bool false,.bool false,.bool false,.bool false,.bool false,.bool false,.bool false,.bool false,.bool false,.bool false,.bool false,.bool false,.bool false,.bool false,.bool false,.bool false,.bool false,.bool false,.bool false,.bool false,.bool false,.bool false,.bool false,.bool false,.bool false,.bool false,.bool false,.bool false,.bool false,.bool false,.bool false,.bool false,.bool false,.bool false,.bool false,.bool false,.bool false,.bool false,.bool false,.bool false,.bool false,.bool false,.bool false,.bool false,.bool false,.bool false,.bool false,.bool false,.bool false,.bool false,.bool false,.bool false,.bool false,.bool false,.bool false,.bool false,.bool false,.bool false,.bool false,.bool false,.bool false,.bool false,.bool false,.bool false,.bool false,.bool false,.bool false,.bool false,.bool false,.bool false,.bool false,.bool false,.bool false,.bool false,.bool false,.bool false,.bool false,.bool false,.bool false,.bool false,.bool false,.bool false,.bool false,.bool false,.bool false,.bool false,.bool false,.bool false,.bool false,.bool false,.bool false,.bool false,.bool false,.bool false,.bool false,.bool false,.bool false,.bool false,.bool false,.bool false]) ze193 rfl (fun b2 w1 hb2 s1 hr=>?_)
 have lo2:=nLT (Bel.size hB) hr;refine yw ?_;refine zK (rg [] 3 17) (fun m g w'=>∃ k:Nat,k≤9∧m=9 - k∧g 4= .int .i64 k∧Bel w w'∧Blk w' b2 193 (row 256 (fun x=> .bool (chs k x)))) (9) ?_ (fun m g2 w2 hI=>?_)
 ·exact⟨0,Nat.zero_le _,rfl,rfl,hB.u,hb2⟩
 obtain⟨k,hk,hm,h4,hB,hb2⟩:=hI;refine zQ 4 _ h4 nu (zn9 ?_);refine zy rfl (fun c9=>?_) (fun c9=>?_)
 ·have hk9:k < 9:=by omega
  have hlo:=ch_lt k hk9;refine zn8 ?_;refine wl (jk (i:=k) U9 rfl rfl om) (yw ?_);refine zy rfl (fun c16=>?_) (fun c16=>?_)
  ·exact absurd c16 om
  refine zn4 ?_;refine wl (Ry (i:=(gb CH k)) U193 vY rfl rfl om rfl) ?_;refine x9 (v:= .bool _) hb2 rfl rfl vY (by rw [row_size];omega) rfl jV (fun w3 hq s2=>?_);replace hb2:=hq;rw [xQ (g':=fun x=> .bool (chs (k + 1) x)) (fun x _=>by rw [chs_step];by_cases e:x=gb CH k <;> simp [e])] at hb2;refine zn8 ?_;refine qV (9 - (k + 1)) om agA ?_;exact⟨k + 1,by omega,rfl,rfl,hB.u,hb2⟩
 have hk9:k=9:=by omega
 subst hk9;have hb2':Blk w2 b2 193 (row 256 (fun x=> .bool (spc x))):=by rw [xQ (g':=fun x=> .bool (chs 9 x)) (fun x hx=>by rw [chs_all x hx])];exact hb2
 refine zn6 ?_;replace hb2:=hb2';refine zn2 ?_;refine zj hb2 rfl rfl sz193 rfl zX (fun w4 hq s3=>?_);replace hb2:=hq;refine zn4 ?_;refine gy (.inl rfl) rfl (zk U193 rfl rfl hb2.range0 sz193) rfl ?_;exact⟨rfl,hB.u⟩
theorem cnt_any (b6 c:Nat) (w:World) (hb6:Blk w b6 193 (row 256 (fun x=> .bool (spc x)))) (hc:c < 256):Calls Tryz.prog 131 #[.pointer (some ⟨b6,0,none⟩),.int .u8 ((c:Nat):Int)] w fun e w'=>e= .returned (.bool (spc c))∧w=w':=by
 refine enter Tryz.func131 Tryz.ntmps131 rfl (Nat.le_of_ble_eq_true rfl) (zn7 ?_);refine wl (xZ (v:= .pointer (some _)) rfl) (wmI rfl (wl (r_nc rfl) (wl (Ry (i:=c) U193 vY rfl rfl hc rfl) (wl (qZ (v:= .bool _) U4 rfl rfl (hb6.cell (yY hc))) (zn5 ?_)))));exact⟨rfl,rfl⟩
set_option maxRecDepth 100000 in
set_option maxHeartbeats 2000000 in
theorem ixa_any (s:ByteArray) (w:World) (hsz:s.size < 9223372036854775807):Calls Tryz.prog 121 #[.string s,.string CH] w fun e w'=>(∃ z:Int,e= .returned (.int .i64 z)∧(0≤z ↔ brd s 0=true))∧Bel w w':=by
 refine enT Tryz.func121 Tryz.ntmps121 rfl rfl fun hB=>?_;refine y8 ?_;refine zy rfl (fun c12=>?_) (fun c12=>?_)
 ·exact absurd c12 dE
 refine yw ?_;refine zy rfl (fun c15=>?_) (fun c15=>?_)
 ·exact absurd c15 dE
 refine zn7 ?_;refine zJ fn129 (sua_any s.size _) rfl (fun e' w1 hr=>?_);obtain⟨rfl,rfl⟩:=hr;refine⟨_,rfl,?_⟩;refine zw (e_S ?_);refine vw rfl (fun c26=>?_) (fun c26=>?_)
 ·refine zn3 ?_;refine zJ fn130 (mas_any _) rfl (fun e' w2 hr=>?_);obtain⟨rfl,s1⟩:=hr;replace s1:=sB s1;refine⟨_,rfl,?_⟩;refine wmT rfl (wl (jw (v:= .agg _) rfl rfl) (wl (jw (v:= .bool _) rfl rfl) ?_));refine xW (cs:=#[.bool false,.bool false,.bool false,.bool false,.bool false,.bool false,.bool false,.bool false,.bool false,.bool false,.bool false,.bool false,.bool false,.bool false,.bool false,.bool false,.bool false,.bool false,.bool false,.bool false,.bool false,.bool false,.bool false,.bool false,.bool false,.bool false,.bool false,.bool false,.bool false,.bool false,.bool false,.bool false,.bool false,.bool false,.bool false,.bool false,.bool false,.bool false,.bool false,.bool false,.bool false,.bool false,.bool false,.bool false,.bool false,.bool false,.bool false,.bool false,.bool false,.bool false,.bool false,.bool false,.bool false,.bool false,.bool false,.bool false,.bool false,.bool false,.bool false,.bool false,.bool false,.bool false,.bool false,.bool false,.bool false,.bool false,.bool false,.bool false,.bool false,.bool false,.bool false,.bool false,.bool false,.bool false,.bool false,.bool false,.bool false,.bool false,.bool false,.bool false,.bool false,.bool false,.bool false,.bool false,.bool false,.bool false,.bool false,.bool false,.bool false,.bool false,.bool false,.bool false,.bool false,.bool false,.bool false,.bool false,.bool false,.bool false,.bool false,.bool false,.bool false,.bool false,.bool false,.bool false,.bool false,.bool false,.bool false,.bool false,.bool false,.bool false,.bool false,.bool false,.bool false,.bool false,.bool false,.bool false,.bool false,.bool false,.bool false,.bool false,.bool false,.bool false,.bool false,.bool false,.bool false,.bool false,.bool false,.bool false,.bool false,.bool false,.bool false,.bool false,.bool false,.bool false,.bool false,.bool false,.bool false,.bool false,.bool false,.bool false,.bool false,.bool false,.bool false,.bool false,.bool false,.bool false,.bool false,.bool false,.bool false,.bool false,.bool false,.bool false,.bool false,.bool false,.bool false,.bool false,.bool false,.bool false,.bool false,.bool false,.bool false,.bool false,.bool false,.bool false,.bool false,.bool false,.bool false,.bool false,.bool false,.bool false,.bool false,.bool false,.bool false,.bool false,.bool false,.bool false,.bool false,.bool false,.bool false,.bool false,.bool false,.bool false,.bool false,.bool false,.bool false,.bool false,.bool false,.bool false,.bool false,.bool false,.bool false,.bool false,.bool false,.bool false,.bool false,.bool false,.bool false,.bool false,.bool false,.bool false,.bool false,.bool false,.bool false,.bool false,.bool false,.bool false,.bool false,.bool false,.bool false,.bool false,.bool false,.bool false,.bool false,.bool false,.bool false,.bool false,.bool false,.bool false,.bool false,.bool false,.bool false,.bool false,.bool false,.bool false,.bool false,.bool false,.bool false,.bool false,.bool false,.bool false,.bool false,.bool false,.bool false,.bool false,.bool false,.bool false,.bool false,.bool false,.bool false,.bool false,.bool false,.bool false,.bool false,.bool false,.bool false,.bool false,.bool false,.bool false,.bool false,.bool false,.bool false,.bool false,.bool false,.bool false,.bool false,.bool false]) ze193 rfl (fun _=>rfl) (fun _=>rfl) sz193 rfl zX (fun b6 w4 hb6 s2 hr=>?_)
  refine zn8 ?_;refine vw rfl (fun c32=>?_) (fun c32=>?_)
  ·refine zn7 ?_;refine zK (rg [4,8] 33 11) (fun m g w'=>∃ k:Nat,k≤s.size∧m=s.size - k∧g 8= .int .i64 k∧Bel w w'∧Blk w' b6 193 (row 256 (fun x=> .bool (spc x)))∧∀ j,j < k→spc (gb s j)=false) (s.size) ?_ (fun m g12 w5 hI=>?_)
   ·exact⟨0,Nat.zero_le _,rfl,rfl,hB.u,hb6,fun j hj=>by omega⟩
   obtain⟨k,hk,hm,h8,hB,hb6,hall⟩:=hI;refine zQ 8 _ h8 nu (zn9 ?_);refine zy rfl (fun c36=>?_) (fun c36=>?_)
   ·refine zn8 ?_;refine wl (jk (i:=k) U9 rfl rfl om) ?_;refine zJ fn131 (cnt_any b6 _ _ hb6 (u5 s k)) rfl (fun e' w6 hr=>?_);obtain⟨rfl,rfl⟩:=hr;refine⟨_,rfl,?_⟩;refine zw (e_S ?_);refine vw rfl (fun c42=>?_) (fun c42=>?_)
    ·refine gV ?_;exact⟨⟨_,rfl,⟨fun _=>brd_byte (m:=s.size) om (Nat.zero_le k) om c42,fun _=>Int.natCast_nonneg k⟩⟩,hB⟩
    refine zn8 ?_;refine qV (s.size - (k + 1)) om agA ?_
    exact⟨k + 1,by omega,rfl,rfl,hB,hb6,fun j hj=>by
      by_cases e:j=k
      · subst e;simpa using c42
      · exact hall j om⟩
   refine kJ ?_;have hno:brd s 0=false:=by
     cases h:brd s 0 with
     | false=>rfl
     | true=>
       obtain⟨q,_,h2,h3⟩:=byte_brd (m:=s.size) om h;rw [hall q om] at h3;cases h3
   exact⟨⟨-1,rfl,⟨fun h=>by omega,fun h=>by rw [hno] at h;cases h⟩⟩,hB⟩
  exact absurd c32 dE
 refine zn6 ?_;refine Gz U9 rfl (fun b45 w7 hb45 s3 hr=>?_);have lo45:=nLT (Bel.size hB) hr;refine zn3 ?_;refine zK (rg [4,9,10] 46 9) (fun m g w'=>∃ p:Nat,p≤s.size∧s.size - p≤m∧Bel w w'∧ItIn w' b45 s p∧brd s 0=brd s p) (s.size) ?_ (fun m g18 w8 hI=>?_)
 ·exact⟨0,Nat.zero_le _,Nat.le_refl _,hB.u,hb45,rfl⟩
 obtain⟨p,hp,hm,hB,hb45,hbr⟩:=hI;refine zn2 ?_;rcases Nat.lt_or_ge (p) (s).size with hnlt | hnge
 ·refine Gq hb45 rfl hnlt (fun w9 hq s4=>?_);replace hb45:=hq;have hwp:=Q7 hnlt;have hwl:=Cz hnlt;refine wl (jw (v:= .bool true) rfl rfl) (zn9 ?_);refine wl (jw (v:= .int _ _) rfl rfl) (wl (jw (v:= .int _ _) rfl rfl) (zn8 ?_));refine zJ fn128 (ixr_any _ _) rfl (fun e' w10 hr=>?_);obtain⟨⟨z,rfl,hz⟩,s5⟩:=hr;replace s5:=sB s5;refine⟨_,rfl,?_⟩;refine zn3 ?_;refine zy rfl (fun c53=>?_) (fun c53=>?_)
  ·have hbt:brd s 0=true:=by rw [hbr,Xq hnlt,hz.1 c53];rfl
   refine y8 ?_;exact⟨⟨_,rfl,⟨fun _=>hbt,fun _=>Int.natCast_nonneg p⟩⟩,hB.u⟩
  have hsn:spc (Utf8.decode s p).1=false:=by cases h:spc (Utf8.decode s p).1 with | false=>rfl | true=>exact absurd (hz.2 h) c53
  refine Y5 (e_B (qV (m - 1) om agA ?_));replace hB:=(hB.tr1 s4 lo45).tr0 s5;replace hb45:=hb45.tr0 s5;exact⟨p + wdt s p,hwl,by omega,hB,hb45,by rw [hbr,Xq hnlt,hsn,Bool.false_or]⟩
 refine wl (r_ne hb45 rfl (Nat.not_lt.2 hnge)) ?_;rw [E2 (Nat.not_lt.2 hnge)] at hbr;refine wl (jw (v:= .bool false) rfl rfl) (IK ?_);exact⟨⟨-1,rfl,⟨fun h=>by omega,fun h=>by rw [hbr] at h;cases h⟩⟩,hB⟩
theorem cany_any (s:ByteArray) (w:World) (hsz:s.size < 9223372036854775807):Calls Tryz.prog 97 #[.string s,.string CH] w fun e w'=>e= .returned (.bool (brd s 0))∧Bel w w':=by
 refine enT Tryz.func97 Tryz.ntmps97 rfl rfl fun hB=>?_;refine zn9 ?_;refine zJ fn121 (ixa_any s _ hsz) rfl (fun e' w1 hr=>?_);obtain⟨⟨z,rfl,hz⟩,s1⟩:=hr;replace s1:=sB s1;refine⟨_,rfl,?_⟩;refine zn6 ?_;replace hB:=hB.tr0 s1;exact⟨congrArg (fun b=>Ending.returned (.bool b)) (by cases h:brd s 0 with | true=>exact decide_eq_true (hz.2 h) | false=>exact decide_eq_false (fun h2=>by rw [hz.1 h2] at h;cases h)),hB⟩
end Go.Proofs.YtbcpgfnfiekbiaaGreatDoor
namespace Go.Proofs.YtbcpgfnfiekbiaaGreatDoor
open Go.RowKit
theorem fn95:zZ Tryz.prog 95=true:=by kernel_rfl
theorem fn96:zZ Tryz.prog 96=true:=by kernel_rfl
theorem fn97:zZ Tryz.prog 97=true:=by kernel_rfl
set_option maxHeartbeats 1000000 in
theorem word_p (s:ByteArray) (w:World) (hU:U8In w) (hsz:s.size < 9223372036854775807):Calls Tryz.prog 54 #[.string s] w fun e w'=>e= .returned (.bool (yX s))∧Bel w w':=by
 refine enT Tryz.func54 Tryz.ntmps54 rfl rfl fun hB=>?_;refine zn8 ?_;refine zJ fn95 (rc_any s _ hsz) rfl (fun e' w1 hr=>?_);obtain⟨rfl,s1⟩:=hr;replace s1:=sB s1;refine⟨_,rfl,?_⟩;refine zn8 ?_;refine zx 8 rfl (fun g8=>?_) (fun g8=>?_)
 ·refine zn6 ?_;refine zx 12 rfl (fun g12=>?_) (fun g12=>?_)
  ·refine zn3 ?_;refine zJ fn96 (valid_any s _ (hU.mono hB.u) hsz) rfl (fun e' w2 hr=>?_);obtain⟨rfl,s2⟩:=hr;replace s2:=sB s2;refine⟨_,rfl,?_⟩;refine zn2 ?_;refine Yk 16 rfl (fun g16=>?_) (fun g16=>?_)
   ·refine zn3 ?_;refine zJ fn97 (cany_any s _ hsz) rfl (fun e' w3 hr=>?_);obtain⟨rfl,s3⟩:=hr;replace s3:=sB s3;refine⟨_,rfl,?_⟩;refine zn8 ?_;replace hB:=hB.tr0 (s1.trans (s2.trans s3));exact⟨congrArg (fun b=>Ending.returned (.bool b)) (by unfold yX;first | (rw [decide_eq_true (show 1≤(ch s 0).length by omega),decide_eq_true (show (ch s 0).length≤30 by omega),g16];rfl) | (rw [decide_eq_true (show 1≤(ch s 0).length by omega),decide_eq_true (show (ch s 0).length≤30 by omega),Bool.eq_false_iff.2 g16];rfl) | (rw [decide_eq_false (show ¬(ch s 0).length≤30 by omega)];simp) | (rw [decide_eq_false (show ¬1≤(ch s 0).length by omega)];rfl)),hB⟩
   refine zn9 ?_;replace hB:=hB.tr0 (s1.trans s2);exact⟨congrArg (fun b=>Ending.returned (.bool b)) (by unfold yX;first | (rw [decide_eq_true (show 1≤(ch s 0).length by omega),decide_eq_true (show (ch s 0).length≤30 by omega),g16];rfl) | (rw [decide_eq_true (show 1≤(ch s 0).length by omega),decide_eq_true (show (ch s 0).length≤30 by omega),Bool.eq_false_iff.2 g16];rfl) | (rw [decide_eq_false (show ¬(ch s 0).length≤30 by omega)];simp) | (rw [decide_eq_false (show ¬1≤(ch s 0).length by omega)];rfl)),hB⟩
  refine kJ ?_;replace hB:=hB.tr0 s1;exact⟨congrArg (fun b=>Ending.returned (.bool b)) (by unfold yX;first | (rw [decide_eq_true (show 1≤(ch s 0).length by omega),decide_eq_true (show (ch s 0).length≤30 by omega),g16];rfl) | (rw [decide_eq_true (show 1≤(ch s 0).length by omega),decide_eq_true (show (ch s 0).length≤30 by omega),Bool.eq_false_iff.2 g16];rfl) | (rw [decide_eq_false (show ¬(ch s 0).length≤30 by omega)];simp) | (rw [decide_eq_false (show ¬1≤(ch s 0).length by omega)];rfl)),hB⟩
 refine N9 ?_;replace hB:=hB.tr0 s1;exact⟨congrArg (fun b=>Ending.returned (.bool b)) (by unfold yX;first | (rw [decide_eq_true (show 1≤(ch s 0).length by omega),decide_eq_true (show (ch s 0).length≤30 by omega),g16];rfl) | (rw [decide_eq_true (show 1≤(ch s 0).length by omega),decide_eq_true (show (ch s 0).length≤30 by omega),Bool.eq_false_iff.2 g16];rfl) | (rw [decide_eq_false (show ¬(ch s 0).length≤30 by omega)];simp) | (rw [decide_eq_false (show ¬1≤(ch s 0).length by omega)];rfl)),hB⟩
end Go.Proofs.YtbcpgfnfiekbiaaGreatDoor
namespace Go.Proofs.YtbcpgfnfiekbiaaGreatDoor
open Go.RowKit
theorem sz167:(Tryz.prog.info? 167).map (·.size)=some 1:=by kernel_rfl
theorem ze167:(Tryz.prog.info? 167).map (·.zero)=some (some (.nilFunc)):=by kernel_rfl
set_option maxHeartbeats 1000000 in
theorem T9 (A B:Option Addr) (c m:Nat) (t:Tm) (w:World) (hS:SimsIn w A t.type.args) (hT:TmsIn w B t.args):Calls Tryz.prog 76 #[.agg #[.int .i64 (t).kind,.string (t).name,.int .i64 (t).index,.string (t).type.base,.slice A (t).type.args.length c,.slice B (t).args.length m]] w fun e w'=>e= .returned (flV (tmF t))∧Bel w w':=by
 refine enT Tryz.func76 Tryz.ntmps76 rfl rfl fun hB=>?_;refine zn2 ?_;refine qK (v:= .agg #[_,_,_,_,_,_]) (cs:=#[_,_,_,_,_,_]) rfl rfl (fun b1 w1 hb1 t1 hr=>?_);refine zY (cs:=#[.int .i64 0,.int .i64 0]) qk rfl (fun b2 w2 hb2 t2 hr=>?_);have:=nLL hb1.lt hr;have lo2:=nLT (Bel.size hB.u) hr;refine zn4 ?_;refine zY (cs:=#[.int .i64 0]) uJ rfl (fun b3 w3 hb3 t3 hr=>?_);have:=nLL hb1.u.lt hr;have:=nLL hb2.lt hr;have lo3:=nLT (Bel.size hB.u) hr;refine x9 (v:= .int _ _) hb3 rfl rfl qX (by first | decide | simp) rfl rfl (fun w4 hq t4=>?_);replace hb3:=hq;refine zn4 ?_;refine zY (cs:=#[.nilFunc]) ze167 rfl (fun b4 w5 hb4 t5 hr=>?_);have:=nLL hb1.u.lt hr;have:=nLL hb2.u.lt hr;have:=nLL hb3.lt hr;have lo4:=nLT (Bel.size hB.u) hr;refine zn4 ?_;refine wl (r_mf rfl) ?_;refine x9 (v:= .func _ _ _) hb4 rfl rfl sz167 (by first | decide | simp) rfl rfl (fun w6 hq t6=>?_);replace hb4:=hq;refine zn7 ?_;refine xX rfl fn107 (twk_any (w0:=w) (bN:=b3) (bV:=b4) lo3 lo4 om t A B c m 1 0 0 _ hS hT om om om hB.u hb3.u hb4) rfl rfl (fun e' w7 hr=>?_);obtain⟨rfl,hC2,hb32⟩:=hr;replace hB:=(((hB.tr0 (t1.trans (t2.trans t3))).tr1 t4 lo3).tr0 t5).tr1 t6 lo4;replace hB:=hB.chG hC2 (fun g hg=>by rw [show g=b3 from hg];exact lo3);replace hb1:=(((hb1.tr0 (t2.trans t3)).tr1 t4 om).tr0 t5).tr1 t6 om;replace hb1:=hb1.chG hC2 (fun hx=>by have hx:b1=b3:=hx;omega);replace hb2:=(((hb2.tr0 t3).tr1 t4 om).tr0 t5).tr1 t6 om;replace hb2:=hb2.chG hC2 (fun hx=>by have hx:b2=b3:=hx;omega);replace hb4:=hb4.chG hC2 (fun hx=>by have hx:b4=b3:=hx;omega);replace hb3:=hb32;refine⟨_,rfl,?_⟩;refine xW (cs:=#[.int .i64 0,.int .i64 0]) qk rfl (fun _=>rfl) (fun _=>rfl) z4 rfl zX (fun b5 w9 hb5 t7 hr=>?_);refine zn9 ?_;refine zy rfl (fun c14=>?_) (fun c14=>?_)
 ·have hF:=Ck c14;refine zn3 ?_;refine zj hb2.u rfl rfl z4 rfl zX (fun w10 hq t8=>?_);replace hb2:=hq;refine zn4 ?_;refine x8 (.inl rfl) rfl (zk U36 rfl rfl hb2.range0 z4) ?_;replace hB:=(hB.tr0 t7).tr1 t8 lo2;exact⟨by rw [hF];rfl,hB⟩
 have c14:(twk t 1 0 0).2.1=0:=Classical.not_not.1 c14;obtain⟨v,rfl,hok,_,hv2⟩:=Ew t 1 0 0 c14;have hF:=tmF_ok c14;refine zn6 ?_;replace hB:=hB.tr0 t7;refine zJ fn77 (typed_any _ v (Nat.lt_succ_self _) [] A B none c m 0 _ (hS.mono hB) (hT.mono hB) (CtxIn.nil _) (Nat.le_refl _) (by simp only [List.length_nil];omega) hok) rfl (fun e' w11 hr=>?_);obtain⟨⟨s3,A3,n3,c3,rfl,_⟩,t9⟩:=hr;replace t9:=sB t9;refine⟨_,rfl,?_⟩;refine wmT rfl (wl (jw (v:= .agg _) rfl rfl) (wl (jw (v:= .bool _) rfl rfl) ?_));refine xW (cs:=#[.string ⟨#[]⟩,.slice none 0 0]) K0 rfl (fun _=>rfl) (fun _=>rfl) xJ rfl zX (fun b6 w13 hb6 t10 hr=>?_);refine zn9 ?_;refine vw rfl (fun c22=>?_) (fun c22=>?_)
 ·rw [if_neg (by simpa using c22)] at hF;refine zn2 ?_;refine wl (yv (v0:= .int _ _) (v1:= .int _ _) (fun v0 v1=>#[v0,v1]) rfl rfl kR) ?_;refine zj hb2.u rfl rfl z4 rfl zX (fun w14 hq t11=>?_);replace hb2:=hq;refine zn4 ?_;refine x8 (.inl rfl) rfl (zk U36 rfl rfl hb2.range0 z4) ?_;replace hB:=(hB.tr0 (t9.trans t10)).tr1 t11 lo2;exact⟨by rw [hF];rfl,hB⟩
 rw [if_pos (by simpa using c22)] at hF;refine zn4 ?_;refine wl (uv (vs:=#[]) (cs:=#[.int .i64 0,.int .i64 0]) (by simp) kR) ?_;refine zj hb2.u rfl rfl z4 rfl zX (fun w15 hq t12=>?_);replace hb2:=hq;refine zn3 ?_;refine x8 (.inl rfl) rfl (zk U36 rfl rfl hb2.range0 z4) ?_;replace hB:=(hB.tr0 (t9.trans t10)).tr1 t12 lo2;exact⟨by rw [hF];rfl,hB⟩
end Go.Proofs.YtbcpgfnfiekbiaaGreatDoor
